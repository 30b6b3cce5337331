/- Functions of this seat, run on unknown values by the rules of the small machine (no condition beyond those stated). -/
import Derived.Test.YtolhfdcgmcaglaaDoorCodFa
namespace Go.Eng.Cod
open Go Go.Eng
set_option linter.unusedSectionVars false
set_option linter.unusedVariables false
set_option linter.unusedSimpArgs false
set_option maxRecDepth 20000
abbrev Q5 (L : List Ob) (r : Bool) : V → Heap → Prop := fun v h => v = EB.e r ∧ HP h (L)
abbrev RR5 (L : List Ob) (r : Bool) : List V → Heap → Prop := fun e h => endR none [0] (Q5 L r) e h
def F5 : Option Bool :=
  (F8).bind fun y5575 =>
  (F9 y5575.1).bind fun y5577 =>
  (F10 y5575.2).bind fun y5579 =>
  (F11).bind fun y5581 =>
  (F6 ([y5581,(⟨([] : List UInt8),([] : List Int),(0 : Int),(0 : Int),([] : List T_Code)⟩ : T_Unit)] : List T_Unit)).bind fun y5583 =>
  if (y5577.2 == (0 : Int)) then
    (F12 y5577.1 y5575.2).bind fun y5586 =>
    if y5586 then
      if (y5579.2 == (0 : Int)) then
        (F13 y5579.1 y5575.1).bind fun y5590 =>
        if y5590 then
          if (y5583.1 == (4 : Int)) then
            if (y5583.2 == (1 : Int)) then
              (F11).bind fun y5595 =>
              (F14 ([y5595] : List T_Unit) (0 : Int)).bind fun y5597 =>
              if y5597 then
                (F11).bind fun y5600 =>
                (F14 ([y5600] : List T_Unit) (1 : Int)).bind fun y5602 =>
                some (!y5602)
              else
                some false
            else
              some false
          else
            some false
        else
          some false
      else
        some false
    else
      some false
  else
    some false
theorem w5 {r : Bool} (h : F5 = some r) {H : Heap} {L : List Ob} (hp : HP H (L)) : Fn T 5 [] H (Q5 L r) := by
  refine Fn.enterE t5 (e0 := (mkE [] 65)) (by kernel_rfl) ?_;show Run T (.clr [] i5n11) _ _ (finE none [0] (Q5 L r));refine Rn.k (mkE [] 65) ?_;unfold F5 at h;refine Rn.g ?_;refine Ro.t 1 ?_;refine Ro.d (mkE [] 65) ?_;refine Rn.g ?_;obtain ⟨y5575,h5576,h⟩ := bind_some h;refine RunO.c2 (by kernel_rfl) (by kernel_rfl) (by kernel_rfl) (c8 h5576) ?_;refine Ro.t 5 ?_;refine Ro.d (mkE [(1,(Zl E_Unit y5575.1)),(0,(Zl (EI .u8) y5575.2))] 62) ?_;refine Rn.g ?_;refine Ro.t 1 ?_;obtain ⟨y5577,h5578,h⟩ := bind_some h;refine RunO.c2 (by kernel_rfl) (by kernel_rfl) (by kernel_rfl) (c9 h5578) ?_;refine Ro.t 5 ?_;refine Ro.d (mkE [(1,(Zl E_Unit y5575.1)),(0,(Zl (EI .u8) y5575.2)),(0,(Zl (EI .u8) y5577.1)),(0,(iN y5577.2))] 60) ?_;refine Rn.g ?_;refine Ro.t 1 ?_;obtain ⟨y5579,h5580,h⟩ := bind_some h;refine RunO.c2 (by kernel_rfl) (by kernel_rfl) (by kernel_rfl) (c10 h5580) ?_;refine Ro.t 5 ?_;refine Ro.d (mkE [(1,(Zl E_Unit y5575.1)),(0,(Zl (EI .u8) y5575.2)),(0,(Zl (EI .u8) y5577.1)),(0,(iN y5577.2)),(0,(Zl E_Unit y5579.1)),(0,(iN y5579.2))] 58) ?_;refine Rn.g ?_;obtain ⟨y5581,h5582,h⟩ := bind_some h;refine RunO.c2 (by kernel_rfl) (by kernel_rfl) (by kernel_rfl) (c11 h5582) ?_;refine Ro.t 2 ?_;obtain ⟨y5583,h5584,h⟩ := bind_some h;refine RunO.c1 (by kernel_rfl) (by kernel_rfl) (c6 h5584 _) ?_;refine Ro.t 5 ?_;refine Ro.d (mkE [(1,(Zl E_Unit y5575.1)),(0,(Zl (EI .u8) y5575.2)),(0,(Zl (EI .u8) y5577.1)),(0,(iN y5577.2)),(0,(Zl E_Unit y5579.1)),(0,(iN y5579.2)),(0,(iN y5583.1)),(0,(iN y5583.2))] 56) ?_;refine Rn.g ?_;refine Ro.t 1 ?_;rcases tf (y5577.2 == (0 : Int)) with h5585 | h5585
  · rw [ite_t h5585] at h; refine Ro.p (bool_of h5585) ?_;refine Ro.t 3 ?_;obtain ⟨y5586,h5587,h⟩ := bind_some h;rcases tf y5586 with h5588 | h5588
    · subst h5588; rw [if_pos rfl] at h;refine RunO.c1 (by kernel_rfl) (by kernel_rfl) (c12 h5587 _) ?_;refine Ro.t 3 ?_;rcases tf (y5579.2 == (0 : Int)) with h5589 | h5589
      · rw [ite_t h5589] at h; refine Ro.p (bool_of h5589) ?_;refine Ro.t 4 ?_;obtain ⟨y5590,h5591,h⟩ := bind_some h;rcases tf y5590 with h5592 | h5592
        · subst h5592; rw [if_pos rfl] at h;refine RunO.c1 (by kernel_rfl) (by kernel_rfl) (c13 h5591 _) ?_;refine Ro.t 3 ?_;rcases tf (y5583.1 == (4 : Int)) with h5593 | h5593
          · rw [ite_t h5593] at h; refine Ro.p (bool_of h5593) ?_;refine Ro.t 3 ?_;rcases tf (y5583.2 == (1 : Int)) with h5594 | h5594
            · rw [ite_t h5594] at h; refine Ro.p (bool_of h5594) ?_;refine Ro.t 2 ?_;obtain ⟨y5595,h5596,h⟩ := bind_some h;refine RunO.c2 (by kernel_rfl) (by kernel_rfl) (by kernel_rfl) (c11 h5596) ?_;refine Ro.t 1 ?_;obtain ⟨y5597,h5598,h⟩ := bind_some h;rcases tf y5597 with h5599 | h5599
              · subst h5599; rw [if_pos rfl] at h;refine RunO.c1 (by kernel_rfl) (by kernel_rfl) (c14 h5598 _) ?_;refine Ro.t 2 ?_;obtain ⟨y5600,h5601,h⟩ := bind_some h;refine RunO.c2 (by kernel_rfl) (by kernel_rfl) (by kernel_rfl) (c11 h5601) ?_;refine Ro.t 1 ?_;obtain ⟨y5602,h5603,h⟩ := bind_some h;refine RunO.c1 (by kernel_rfl) (by kernel_rfl) (c14 h5603 _) ?_;refine Ro.t 3 ?_;refine Ro.d (mkE [(0,(V.bool (!y5602)))] 64) ?_;refine Run.ret ?_;have h := Option.some.inj h; subst h;exact ⟨(V.bool (!y5602)),(by kernel_rfl),(by kernel_rfl),hp⟩
              · subst h5599; rw [if_neg (by decide)] at h;refine RunO.c1 (by kernel_rfl) (by kernel_rfl) (c14 h5598 _) ?_;refine Ro.t 8 ?_;refine Ro.d (mkE [(0,(V.bool false))] 64) ?_;refine Run.ret ?_;have h := Option.some.inj h; subst h;exact ⟨(V.bool false),(by kernel_rfl),(by kernel_rfl),hp⟩
            · rw [ite_f h5594] at h; refine Ro.p (bool_of h5594) ?_;refine Ro.t 13 ?_;refine Ro.d (mkE [(0,(V.bool false))] 64) ?_;refine Run.ret ?_;have h := Option.some.inj h; subst h;exact ⟨(V.bool false),(by kernel_rfl),(by kernel_rfl),hp⟩
          · rw [ite_f h5593] at h; refine Ro.p (bool_of h5593) ?_;refine Ro.t 17 ?_;refine Ro.d (mkE [(0,(V.bool false))] 64) ?_;refine Run.ret ?_;have h := Option.some.inj h; subst h;exact ⟨(V.bool false),(by kernel_rfl),(by kernel_rfl),hp⟩
        · subst h5592; rw [if_neg (by decide)] at h;refine RunO.c1 (by kernel_rfl) (by kernel_rfl) (c13 h5591 _) ?_;refine Ro.t 21 ?_;refine Ro.d (mkE [(0,(V.bool false))] 64) ?_;refine Run.ret ?_;have h := Option.some.inj h; subst h;exact ⟨(V.bool false),(by kernel_rfl),(by kernel_rfl),hp⟩
      · rw [ite_f h5589] at h; refine Ro.p (bool_of h5589) ?_;refine Ro.t 26 ?_;refine Ro.d (mkE [(0,(V.bool false))] 64) ?_;refine Run.ret ?_;have h := Option.some.inj h; subst h;exact ⟨(V.bool false),(by kernel_rfl),(by kernel_rfl),hp⟩
    · subst h5588; rw [if_neg (by decide)] at h;refine RunO.c1 (by kernel_rfl) (by kernel_rfl) (c12 h5587 _) ?_;refine Ro.t 30 ?_;refine Ro.d (mkE [(0,(V.bool false))] 64) ?_;refine Run.ret ?_;have h := Option.some.inj h; subst h;exact ⟨(V.bool false),(by kernel_rfl),(by kernel_rfl),hp⟩
  · rw [ite_f h5585] at h; refine Ro.p (bool_of h5585) ?_;refine Ro.t 34 ?_;refine Ro.d (mkE [(0,(V.bool false))] 64) ?_;refine Run.ret ?_;have h := Option.some.inj h; subst h;exact ⟨(V.bool false),(by kernel_rfl),(by kernel_rfl),hp⟩
theorem c5 {r : Bool} (h : F5 = some r) (s : Bool) : Fn T 5 [] [] (fun v hh => deep s hh deepN v = some (EB.e r)) := by
  refine (w5 h HP.nil).mono ?_;rintro v hh ⟨rfl,hp⟩;exact EB.hd s hh 38 _ (.inr rfl)
abbrev Q26 (L : List Ob) (r : Bool) : V → Heap → Prop := fun v h => v = EB.e r ∧ HP h (L)
abbrev RR26 (L : List Ob) (r : Bool) : List V → Heap → Prop := fun e h => endR none [2] (Q26 L r) e h
def F26 (x0 : Int) : Option Bool :=
  if (decide (x0 ≥ (1 : Int))) then
    some (decide (x0 ≤ (5 : Int)))
  else
    some false
theorem w26 {x0 : Int} {r : Bool} (h : F26 x0 = some r) {H : Heap} {L : List Ob} (hp : HP H (L)) : Fn T 26 [(V.int .u8 x0)] H (Q26 L r) := by
  refine Fn.enterE t26 (e0 := (mkE [(0,(V.int .u8 x0))] 8)) (by kernel_rfl) ?_;show Run T (.clr [] i26n3) _ _ (finE none [2] (Q26 L r));refine Rn.k (mkE [(0,(V.int .u8 x0))] 8) ?_;unfold F26 at h;refine Rn.g ?_;refine Ro.t 1 ?_;refine Ro.d (mkE [(0,(V.int .u8 x0))] 8) ?_;refine Rn.g ?_;refine Ro.t 1 ?_;rcases tf (decide (x0 ≥ (1 : Int))) with h5621 | h5621
  · rw [ite_t h5621] at h; refine Ro.p (bool_of h5621) ?_;refine Ro.t 5 ?_;refine Ro.d (mkE [(2,(V.bool (decide (x0 ≤ (5 : Int)))))] 6) ?_;refine Run.ret ?_;have h := Option.some.inj h; subst h;exact ⟨(V.bool (decide (x0 ≤ (5 : Int)))),(by kernel_rfl),(by kernel_rfl),hp⟩
  · rw [ite_f h5621] at h; refine Ro.p (bool_of h5621) ?_;refine Ro.t 5 ?_;refine Ro.d (mkE [(2,(V.bool false))] 6) ?_;refine Run.ret ?_;have h := Option.some.inj h; subst h;exact ⟨(V.bool false),(by kernel_rfl),(by kernel_rfl),hp⟩
theorem c26 {x0 : Int} {r : Bool} (h : F26 x0 = some r) (s : Bool) : Fn T 26 [(V.int .u8 x0)] [] (fun v hh => deep s hh deepN v = some (EB.e r)) := by
  refine (w26 h HP.nil).mono ?_;rintro v hh ⟨rfl,hp⟩;exact EB.hd s hh 38 _ (.inr rfl)
abbrev Q44 (L : List Ob) (r : Bool) : V → Heap → Prop := fun v h => v = EB.e r ∧ HP h (L)
abbrev RR44 (L : List Ob) (r : Bool) : List V → Heap → Prop := fun e h => endR none [2] (Q44 L r) e h
def F44_j6 (x0 : T_Code) (y5789 : Bool) (y5796 : Bool) (y5799 : Bool) (y5802 : Bool) : Option Bool :=
  if y5789 then
    if y5796 then
      if y5802 then
        if y5799 then
          some true
        else
          if (x0.fKind == (1 : Int)) then
            some true
          else
            some (x0.fBits == (0 : Int))
      else
        if (x0.fC == (0 : Int)) then
          if y5799 then
            some true
          else
            if (x0.fKind == (1 : Int)) then
              some true
            else
              some (x0.fBits == (0 : Int))
        else
          some false
    else
      if (x0.fB == (0 : Int)) then
        if y5802 then
          if y5799 then
            some true
          else
            if (x0.fKind == (1 : Int)) then
              some true
            else
              some (x0.fBits == (0 : Int))
        else
          if (x0.fC == (0 : Int)) then
            if y5799 then
              some true
            else
              if (x0.fKind == (1 : Int)) then
                some true
              else
                some (x0.fBits == (0 : Int))
          else
            some false
      else
        some false
  else
    if (x0.fA == (0 : Int)) then
      if y5796 then
        if y5802 then
          if y5799 then
            some true
          else
            if (x0.fKind == (1 : Int)) then
              some true
            else
              some (x0.fBits == (0 : Int))
        else
          if (x0.fC == (0 : Int)) then
            if y5799 then
              some true
            else
              if (x0.fKind == (1 : Int)) then
                some true
              else
                some (x0.fBits == (0 : Int))
          else
            some false
      else
        if (x0.fB == (0 : Int)) then
          if y5802 then
            if y5799 then
              some true
            else
              if (x0.fKind == (1 : Int)) then
                some true
              else
                some (x0.fBits == (0 : Int))
          else
            if (x0.fC == (0 : Int)) then
              if y5799 then
                some true
              else
                if (x0.fKind == (1 : Int)) then
                  some true
                else
                  some (x0.fBits == (0 : Int))
            else
              some false
        else
          some false
    else
      some false
theorem w44_j6 {x0 : T_Code} {y5789 : Bool} {y5796 : Bool} {y5799 : Bool} {y5802 : Bool} {r : Bool} (h : F44_j6 x0 y5789 y5796 y5799 y5802 = some r) {H : Heap} {L : List Ob} (hp : HP H (L)) :
    Run T i44n14 (mkE [(1,(V.fp (E_Code.e x0))),(1,(V.int .u8 x0.fKind)),(2,(V.bool y5789)),(0,(V.bool y5796)),(0,(V.bool y5799)),(0,(V.bool y5802))] 133) H (finE none [2] (Q44 L r)) := by
  unfold F44_j6 at h;refine Rn.g ?_;rcases tf y5789 with h5833 | h5833
  · rw [ite_t h5833] at h; refine Ro.p (bool_of h5833) ?_;refine Ro.t 6 ?_;rcases tf y5796 with h5834 | h5834
    · rw [ite_t h5834] at h; refine Ro.p (bool_of h5834) ?_;refine Ro.t 7 ?_;rcases tf y5802 with h5835 | h5835
      · rw [ite_t h5835] at h; refine Ro.p (bool_of h5835) ?_;refine Ro.t 7 ?_;rcases tf y5799 with h5836 | h5836
        · rw [ite_t h5836] at h; refine Ro.p (bool_of h5836) ?_;refine Ro.t 11 ?_;refine Ro.d (mkE [(2,(V.bool true))] 140) ?_;refine Run.ret ?_;have h := Option.some.inj h; subst h;exact ⟨(V.bool true),(by kernel_rfl),(by kernel_rfl),hp⟩
        · rw [ite_f h5836] at h; refine Ro.p (bool_of h5836) ?_;refine Ro.t 2 ?_;rcases tf (x0.fKind == (1 : Int)) with h5837 | h5837
          · rw [ite_t h5837] at h; refine Ro.p (bool_of h5837) ?_;refine Ro.t 8 ?_;refine Ro.d (mkE [(2,(V.bool true))] 140) ?_;refine Run.ret ?_;have h := Option.some.inj h; subst h;exact ⟨(V.bool true),(by kernel_rfl),(by kernel_rfl),hp⟩
          · rw [ite_f h5837] at h; refine Ro.p (bool_of h5837) ?_;refine Ro.t 8 ?_;refine Ro.d (mkE [(2,(V.bool (x0.fBits == (0 : Int))))] 140) ?_;refine Run.ret ?_;have h := Option.some.inj h; subst h;exact ⟨(V.bool (x0.fBits == (0 : Int))),(by kernel_rfl),(by kernel_rfl),hp⟩
      · rw [ite_f h5835] at h; refine Ro.p (bool_of h5835) ?_;refine Ro.t 3 ?_;rcases tf (x0.fC == (0 : Int)) with h5838 | h5838
        · rw [ite_t h5838] at h; refine Ro.p (bool_of h5838) ?_;refine Ro.t 3 ?_;rcases tf y5799 with h5839 | h5839
          · rw [ite_t h5839] at h; refine Ro.p (bool_of h5839) ?_;refine Ro.t 11 ?_;refine Ro.d (mkE [(2,(V.bool true))] 140) ?_;refine Run.ret ?_;have h := Option.some.inj h; subst h;exact ⟨(V.bool true),(by kernel_rfl),(by kernel_rfl),hp⟩
          · rw [ite_f h5839] at h; refine Ro.p (bool_of h5839) ?_;refine Ro.t 2 ?_;rcases tf (x0.fKind == (1 : Int)) with h5840 | h5840
            · rw [ite_t h5840] at h; refine Ro.p (bool_of h5840) ?_;refine Ro.t 8 ?_;refine Ro.d (mkE [(2,(V.bool true))] 140) ?_;refine Run.ret ?_;have h := Option.some.inj h; subst h;exact ⟨(V.bool true),(by kernel_rfl),(by kernel_rfl),hp⟩
            · rw [ite_f h5840] at h; refine Ro.p (bool_of h5840) ?_;refine Ro.t 8 ?_;refine Ro.d (mkE [(2,(V.bool (x0.fBits == (0 : Int))))] 140) ?_;refine Run.ret ?_;have h := Option.some.inj h; subst h;exact ⟨(V.bool (x0.fBits == (0 : Int))),(by kernel_rfl),(by kernel_rfl),hp⟩
        · rw [ite_f h5838] at h; refine Ro.p (bool_of h5838) ?_;refine Ro.t 15 ?_;refine Ro.d (mkE [(2,(V.bool false))] 140) ?_;refine Run.ret ?_;have h := Option.some.inj h; subst h;exact ⟨(V.bool false),(by kernel_rfl),(by kernel_rfl),hp⟩
    · rw [ite_f h5834] at h; refine Ro.p (bool_of h5834) ?_;refine Ro.t 3 ?_;rcases tf (x0.fB == (0 : Int)) with h5841 | h5841
      · rw [ite_t h5841] at h; refine Ro.p (bool_of h5841) ?_;refine Ro.t 3 ?_;rcases tf y5802 with h5842 | h5842
        · rw [ite_t h5842] at h; refine Ro.p (bool_of h5842) ?_;refine Ro.t 7 ?_;rcases tf y5799 with h5843 | h5843
          · rw [ite_t h5843] at h; refine Ro.p (bool_of h5843) ?_;refine Ro.t 11 ?_;refine Ro.d (mkE [(2,(V.bool true))] 140) ?_;refine Run.ret ?_;have h := Option.some.inj h; subst h;exact ⟨(V.bool true),(by kernel_rfl),(by kernel_rfl),hp⟩
          · rw [ite_f h5843] at h; refine Ro.p (bool_of h5843) ?_;refine Ro.t 2 ?_;rcases tf (x0.fKind == (1 : Int)) with h5844 | h5844
            · rw [ite_t h5844] at h; refine Ro.p (bool_of h5844) ?_;refine Ro.t 8 ?_;refine Ro.d (mkE [(2,(V.bool true))] 140) ?_;refine Run.ret ?_;have h := Option.some.inj h; subst h;exact ⟨(V.bool true),(by kernel_rfl),(by kernel_rfl),hp⟩
            · rw [ite_f h5844] at h; refine Ro.p (bool_of h5844) ?_;refine Ro.t 8 ?_;refine Ro.d (mkE [(2,(V.bool (x0.fBits == (0 : Int))))] 140) ?_;refine Run.ret ?_;have h := Option.some.inj h; subst h;exact ⟨(V.bool (x0.fBits == (0 : Int))),(by kernel_rfl),(by kernel_rfl),hp⟩
        · rw [ite_f h5842] at h; refine Ro.p (bool_of h5842) ?_;refine Ro.t 3 ?_;rcases tf (x0.fC == (0 : Int)) with h5845 | h5845
          · rw [ite_t h5845] at h; refine Ro.p (bool_of h5845) ?_;refine Ro.t 3 ?_;rcases tf y5799 with h5846 | h5846
            · rw [ite_t h5846] at h; refine Ro.p (bool_of h5846) ?_;refine Ro.t 11 ?_;refine Ro.d (mkE [(2,(V.bool true))] 140) ?_;refine Run.ret ?_;have h := Option.some.inj h; subst h;exact ⟨(V.bool true),(by kernel_rfl),(by kernel_rfl),hp⟩
            · rw [ite_f h5846] at h; refine Ro.p (bool_of h5846) ?_;refine Ro.t 2 ?_;rcases tf (x0.fKind == (1 : Int)) with h5847 | h5847
              · rw [ite_t h5847] at h; refine Ro.p (bool_of h5847) ?_;refine Ro.t 8 ?_;refine Ro.d (mkE [(2,(V.bool true))] 140) ?_;refine Run.ret ?_;have h := Option.some.inj h; subst h;exact ⟨(V.bool true),(by kernel_rfl),(by kernel_rfl),hp⟩
              · rw [ite_f h5847] at h; refine Ro.p (bool_of h5847) ?_;refine Ro.t 8 ?_;refine Ro.d (mkE [(2,(V.bool (x0.fBits == (0 : Int))))] 140) ?_;refine Run.ret ?_;have h := Option.some.inj h; subst h;exact ⟨(V.bool (x0.fBits == (0 : Int))),(by kernel_rfl),(by kernel_rfl),hp⟩
          · rw [ite_f h5845] at h; refine Ro.p (bool_of h5845) ?_;refine Ro.t 15 ?_;refine Ro.d (mkE [(2,(V.bool false))] 140) ?_;refine Run.ret ?_;have h := Option.some.inj h; subst h;exact ⟨(V.bool false),(by kernel_rfl),(by kernel_rfl),hp⟩
      · rw [ite_f h5841] at h; refine Ro.p (bool_of h5841) ?_;refine Ro.t 23 ?_;refine Ro.d (mkE [(2,(V.bool false))] 140) ?_;refine Run.ret ?_;have h := Option.some.inj h; subst h;exact ⟨(V.bool false),(by kernel_rfl),(by kernel_rfl),hp⟩
  · rw [ite_f h5833] at h; refine Ro.p (bool_of h5833) ?_;refine Ro.t 3 ?_;rcases tf (x0.fA == (0 : Int)) with h5848 | h5848
    · rw [ite_t h5848] at h; refine Ro.p (bool_of h5848) ?_;refine Ro.t 2 ?_;rcases tf y5796 with h5849 | h5849
      · rw [ite_t h5849] at h; refine Ro.p (bool_of h5849) ?_;refine Ro.t 7 ?_;rcases tf y5802 with h5850 | h5850
        · rw [ite_t h5850] at h; refine Ro.p (bool_of h5850) ?_;refine Ro.t 7 ?_;rcases tf y5799 with h5851 | h5851
          · rw [ite_t h5851] at h; refine Ro.p (bool_of h5851) ?_;refine Ro.t 11 ?_;refine Ro.d (mkE [(2,(V.bool true))] 140) ?_;refine Run.ret ?_;have h := Option.some.inj h; subst h;exact ⟨(V.bool true),(by kernel_rfl),(by kernel_rfl),hp⟩
          · rw [ite_f h5851] at h; refine Ro.p (bool_of h5851) ?_;refine Ro.t 2 ?_;rcases tf (x0.fKind == (1 : Int)) with h5852 | h5852
            · rw [ite_t h5852] at h; refine Ro.p (bool_of h5852) ?_;refine Ro.t 8 ?_;refine Ro.d (mkE [(2,(V.bool true))] 140) ?_;refine Run.ret ?_;have h := Option.some.inj h; subst h;exact ⟨(V.bool true),(by kernel_rfl),(by kernel_rfl),hp⟩
            · rw [ite_f h5852] at h; refine Ro.p (bool_of h5852) ?_;refine Ro.t 8 ?_;refine Ro.d (mkE [(2,(V.bool (x0.fBits == (0 : Int))))] 140) ?_;refine Run.ret ?_;have h := Option.some.inj h; subst h;exact ⟨(V.bool (x0.fBits == (0 : Int))),(by kernel_rfl),(by kernel_rfl),hp⟩
        · rw [ite_f h5850] at h; refine Ro.p (bool_of h5850) ?_;refine Ro.t 3 ?_;rcases tf (x0.fC == (0 : Int)) with h5853 | h5853
          · rw [ite_t h5853] at h; refine Ro.p (bool_of h5853) ?_;refine Ro.t 3 ?_;rcases tf y5799 with h5854 | h5854
            · rw [ite_t h5854] at h; refine Ro.p (bool_of h5854) ?_;refine Ro.t 11 ?_;refine Ro.d (mkE [(2,(V.bool true))] 140) ?_;refine Run.ret ?_;have h := Option.some.inj h; subst h;exact ⟨(V.bool true),(by kernel_rfl),(by kernel_rfl),hp⟩
            · rw [ite_f h5854] at h; refine Ro.p (bool_of h5854) ?_;refine Ro.t 2 ?_;rcases tf (x0.fKind == (1 : Int)) with h5855 | h5855
              · rw [ite_t h5855] at h; refine Ro.p (bool_of h5855) ?_;refine Ro.t 8 ?_;refine Ro.d (mkE [(2,(V.bool true))] 140) ?_;refine Run.ret ?_;have h := Option.some.inj h; subst h;exact ⟨(V.bool true),(by kernel_rfl),(by kernel_rfl),hp⟩
              · rw [ite_f h5855] at h; refine Ro.p (bool_of h5855) ?_;refine Ro.t 8 ?_;refine Ro.d (mkE [(2,(V.bool (x0.fBits == (0 : Int))))] 140) ?_;refine Run.ret ?_;have h := Option.some.inj h; subst h;exact ⟨(V.bool (x0.fBits == (0 : Int))),(by kernel_rfl),(by kernel_rfl),hp⟩
          · rw [ite_f h5853] at h; refine Ro.p (bool_of h5853) ?_;refine Ro.t 15 ?_;refine Ro.d (mkE [(2,(V.bool false))] 140) ?_;refine Run.ret ?_;have h := Option.some.inj h; subst h;exact ⟨(V.bool false),(by kernel_rfl),(by kernel_rfl),hp⟩
      · rw [ite_f h5849] at h; refine Ro.p (bool_of h5849) ?_;refine Ro.t 3 ?_;rcases tf (x0.fB == (0 : Int)) with h5856 | h5856
        · rw [ite_t h5856] at h; refine Ro.p (bool_of h5856) ?_;refine Ro.t 3 ?_;rcases tf y5802 with h5857 | h5857
          · rw [ite_t h5857] at h; refine Ro.p (bool_of h5857) ?_;refine Ro.t 7 ?_;rcases tf y5799 with h5858 | h5858
            · rw [ite_t h5858] at h; refine Ro.p (bool_of h5858) ?_;refine Ro.t 11 ?_;refine Ro.d (mkE [(2,(V.bool true))] 140) ?_;refine Run.ret ?_;have h := Option.some.inj h; subst h;exact ⟨(V.bool true),(by kernel_rfl),(by kernel_rfl),hp⟩
            · rw [ite_f h5858] at h; refine Ro.p (bool_of h5858) ?_;refine Ro.t 2 ?_;rcases tf (x0.fKind == (1 : Int)) with h5859 | h5859
              · rw [ite_t h5859] at h; refine Ro.p (bool_of h5859) ?_;refine Ro.t 8 ?_;refine Ro.d (mkE [(2,(V.bool true))] 140) ?_;refine Run.ret ?_;have h := Option.some.inj h; subst h;exact ⟨(V.bool true),(by kernel_rfl),(by kernel_rfl),hp⟩
              · rw [ite_f h5859] at h; refine Ro.p (bool_of h5859) ?_;refine Ro.t 8 ?_;refine Ro.d (mkE [(2,(V.bool (x0.fBits == (0 : Int))))] 140) ?_;refine Run.ret ?_;have h := Option.some.inj h; subst h;exact ⟨(V.bool (x0.fBits == (0 : Int))),(by kernel_rfl),(by kernel_rfl),hp⟩
          · rw [ite_f h5857] at h; refine Ro.p (bool_of h5857) ?_;refine Ro.t 3 ?_;rcases tf (x0.fC == (0 : Int)) with h5860 | h5860
            · rw [ite_t h5860] at h; refine Ro.p (bool_of h5860) ?_;refine Ro.t 3 ?_;rcases tf y5799 with h5861 | h5861
              · rw [ite_t h5861] at h; refine Ro.p (bool_of h5861) ?_;refine Ro.t 11 ?_;refine Ro.d (mkE [(2,(V.bool true))] 140) ?_;refine Run.ret ?_;have h := Option.some.inj h; subst h;exact ⟨(V.bool true),(by kernel_rfl),(by kernel_rfl),hp⟩
              · rw [ite_f h5861] at h; refine Ro.p (bool_of h5861) ?_;refine Ro.t 2 ?_;rcases tf (x0.fKind == (1 : Int)) with h5862 | h5862
                · rw [ite_t h5862] at h; refine Ro.p (bool_of h5862) ?_;refine Ro.t 8 ?_;refine Ro.d (mkE [(2,(V.bool true))] 140) ?_;refine Run.ret ?_;have h := Option.some.inj h; subst h;exact ⟨(V.bool true),(by kernel_rfl),(by kernel_rfl),hp⟩
                · rw [ite_f h5862] at h; refine Ro.p (bool_of h5862) ?_;refine Ro.t 8 ?_;refine Ro.d (mkE [(2,(V.bool (x0.fBits == (0 : Int))))] 140) ?_;refine Run.ret ?_;have h := Option.some.inj h; subst h;exact ⟨(V.bool (x0.fBits == (0 : Int))),(by kernel_rfl),(by kernel_rfl),hp⟩
            · rw [ite_f h5860] at h; refine Ro.p (bool_of h5860) ?_;refine Ro.t 15 ?_;refine Ro.d (mkE [(2,(V.bool false))] 140) ?_;refine Run.ret ?_;have h := Option.some.inj h; subst h;exact ⟨(V.bool false),(by kernel_rfl),(by kernel_rfl),hp⟩
        · rw [ite_f h5856] at h; refine Ro.p (bool_of h5856) ?_;refine Ro.t 23 ?_;refine Ro.d (mkE [(2,(V.bool false))] 140) ?_;refine Run.ret ?_;have h := Option.some.inj h; subst h;exact ⟨(V.bool false),(by kernel_rfl),(by kernel_rfl),hp⟩
    · rw [ite_f h5848] at h; refine Ro.p (bool_of h5848) ?_;refine Ro.t 30 ?_;refine Ro.d (mkE [(2,(V.bool false))] 140) ?_;refine Run.ret ?_;have h := Option.some.inj h; subst h;exact ⟨(V.bool false),(by kernel_rfl),(by kernel_rfl),hp⟩
def F44_j5 (x0 : T_Code) (y5787 : Bool) (y5789 : Bool) (y5796 : Bool) (y5799 : Bool) (y5802 : Bool) : Option Bool :=
  if (x0.fKind == (3 : Int)) then
    if y5787 then
      if (x0.fKind != (4 : Int)) then
        if (x0.fTo != (0 : Int)) then
          some false
        else
          if (x0.fKind != (17 : Int)) then
            if (x0.fTrap != (0 : Int)) then
              some false
            else
              F44_j6 x0 y5789 y5796 y5799 y5802
          else
            F44_j6 x0 y5789 y5796 y5799 y5802
      else
        if (x0.fKind != (17 : Int)) then
          if (x0.fTrap != (0 : Int)) then
            some false
          else
            F44_j6 x0 y5789 y5796 y5799 y5802
        else
          F44_j6 x0 y5789 y5796 y5799 y5802
    else
      if (x0.fType != (0 : Int)) then
        some false
      else
        if (x0.fKind != (4 : Int)) then
          if (x0.fTo != (0 : Int)) then
            some false
          else
            if (x0.fKind != (17 : Int)) then
              if (x0.fTrap != (0 : Int)) then
                some false
              else
                F44_j6 x0 y5789 y5796 y5799 y5802
            else
              F44_j6 x0 y5789 y5796 y5799 y5802
        else
          if (x0.fKind != (17 : Int)) then
            if (x0.fTrap != (0 : Int)) then
              some false
            else
              F44_j6 x0 y5789 y5796 y5799 y5802
          else
            F44_j6 x0 y5789 y5796 y5799 y5802
  else
    if (x0.fOp != (0 : Int)) then
      some false
    else
      if y5787 then
        if (x0.fKind != (4 : Int)) then
          if (x0.fTo != (0 : Int)) then
            some false
          else
            if (x0.fKind != (17 : Int)) then
              if (x0.fTrap != (0 : Int)) then
                some false
              else
                F44_j6 x0 y5789 y5796 y5799 y5802
            else
              F44_j6 x0 y5789 y5796 y5799 y5802
        else
          if (x0.fKind != (17 : Int)) then
            if (x0.fTrap != (0 : Int)) then
              some false
            else
              F44_j6 x0 y5789 y5796 y5799 y5802
          else
            F44_j6 x0 y5789 y5796 y5799 y5802
      else
        if (x0.fType != (0 : Int)) then
          some false
        else
          if (x0.fKind != (4 : Int)) then
            if (x0.fTo != (0 : Int)) then
              some false
            else
              if (x0.fKind != (17 : Int)) then
                if (x0.fTrap != (0 : Int)) then
                  some false
                else
                  F44_j6 x0 y5789 y5796 y5799 y5802
              else
                F44_j6 x0 y5789 y5796 y5799 y5802
          else
            if (x0.fKind != (17 : Int)) then
              if (x0.fTrap != (0 : Int)) then
                some false
              else
                F44_j6 x0 y5789 y5796 y5799 y5802
            else
              F44_j6 x0 y5789 y5796 y5799 y5802
theorem w44_j5 {x0 : T_Code} {y5787 : Bool} {y5789 : Bool} {y5796 : Bool} {y5799 : Bool} {y5802 : Bool} {r : Bool} (h : F44_j5 x0 y5787 y5789 y5796 y5799 y5802 = some r) {H : Heap} {L : List Ob} (hp : HP H (L)) :
    Run T i44n15 (mkE [(1,(V.fp (E_Code.e x0))),(1,(V.int .u8 x0.fKind)),(0,(V.bool (x0.fKind == (3 : Int)))),(0,(V.bool y5787)),(0,(V.bool y5789)),(0,(V.bool y5796)),(0,(V.bool y5799)),(0,(V.bool y5802))] 133) H (finE none [2] (Q44 L r)) := by
  unfold F44_j5 at h;refine Run.seq ?_;refine Rn.g ?_;rcases tf (x0.fKind == (3 : Int)) with h5863 | h5863
  · rw [ite_t h5863] at h; refine Ro.p (bool_of h5863) ?_;refine Ro.t 7 ?_;rcases tf y5787 with h5864 | h5864
    · rw [ite_t h5864] at h; refine Ro.p (bool_of h5864) ?_;refine Ro.t 9 ?_;rcases tf (x0.fKind != (4 : Int)) with h5865 | h5865
      · rw [ite_t h5865] at h; refine Ro.p (bool_of h5865) ?_;refine Ro.t 3 ?_;rcases tf (x0.fTo != (0 : Int)) with h5866 | h5866
        · rw [ite_t h5866] at h; refine Ro.p (bool_of h5866) ?_;refine Ro.t 11 ?_;refine Ro.d (mkE [(1,(V.fp (E_Code.e x0))),(1,(V.int .u8 x0.fKind)),(2,(V.bool y5789)),(0,(V.bool y5796)),(0,(V.bool y5799)),(0,(V.bool y5802)),(98,(V.bool true))] 34) ?_;refine Run.condT (by kernel_rfl) ?_;refine Rn.g ?_;refine Ro.t 1 ?_;refine Ro.d (mkE [(2,(V.bool false))] 140) ?_;refine Run.ret ?_;have h := Option.some.inj h; subst h;exact ⟨(V.bool false),(by kernel_rfl),(by kernel_rfl),hp⟩
        · rw [ite_f h5866] at h; refine Ro.p (bool_of h5866) ?_;refine Ro.t 4 ?_;rcases tf (x0.fKind != (17 : Int)) with h5867 | h5867
          · rw [ite_t h5867] at h; refine Ro.p (bool_of h5867) ?_;refine Ro.t 6 ?_;refine Ro.d (mkE [(1,(V.fp (E_Code.e x0))),(1,(V.int .u8 x0.fKind)),(2,(V.bool y5789)),(0,(V.bool y5796)),(0,(V.bool y5799)),(0,(V.bool y5802)),(98,(V.bool (x0.fTrap != (0 : Int))))] 34) ?_;rcases tf (x0.fTrap != (0 : Int)) with h5868 | h5868
            · rw [ite_t h5868] at h; refine Rn.t h5868 ?_;refine Rn.g ?_;refine Ro.t 1 ?_;refine Ro.d (mkE [(2,(V.bool false))] 140) ?_;refine Run.ret ?_;have h := Option.some.inj h; subst h;exact ⟨(V.bool false),(by kernel_rfl),(by kernel_rfl),hp⟩
            · rw [ite_f h5868] at h; refine Rn.f h5868 ?_;refine Run.skip ?_;refine Rn.c (mkE [(1,(V.fp (E_Code.e x0))),(1,(V.int .u8 x0.fKind)),(2,(V.bool y5789)),(0,(V.bool y5796)),(0,(V.bool y5799)),(0,(V.bool y5802))] 133) ?_;exact w44_j6 h hp
          · rw [ite_f h5867] at h; refine Ro.p (bool_of h5867) ?_;refine Ro.t 6 ?_;refine Ro.d (mkE [(1,(V.fp (E_Code.e x0))),(1,(V.int .u8 x0.fKind)),(2,(V.bool y5789)),(0,(V.bool y5796)),(0,(V.bool y5799)),(0,(V.bool y5802)),(98,(V.bool false))] 34) ?_;refine Run.condF (by kernel_rfl) ?_;refine Run.skip ?_;refine Rn.c (mkE [(1,(V.fp (E_Code.e x0))),(1,(V.int .u8 x0.fKind)),(2,(V.bool y5789)),(0,(V.bool y5796)),(0,(V.bool y5799)),(0,(V.bool y5802))] 133) ?_;exact w44_j6 h hp
      · rw [ite_f h5865] at h; refine Ro.p (bool_of h5865) ?_;refine Ro.t 8 ?_;rcases tf (x0.fKind != (17 : Int)) with h5869 | h5869
        · rw [ite_t h5869] at h; refine Ro.p (bool_of h5869) ?_;refine Ro.t 6 ?_;refine Ro.d (mkE [(1,(V.fp (E_Code.e x0))),(1,(V.int .u8 x0.fKind)),(2,(V.bool y5789)),(0,(V.bool y5796)),(0,(V.bool y5799)),(0,(V.bool y5802)),(98,(V.bool (x0.fTrap != (0 : Int))))] 34) ?_;rcases tf (x0.fTrap != (0 : Int)) with h5870 | h5870
          · rw [ite_t h5870] at h; refine Rn.t h5870 ?_;refine Rn.g ?_;refine Ro.t 1 ?_;refine Ro.d (mkE [(2,(V.bool false))] 140) ?_;refine Run.ret ?_;have h := Option.some.inj h; subst h;exact ⟨(V.bool false),(by kernel_rfl),(by kernel_rfl),hp⟩
          · rw [ite_f h5870] at h; refine Rn.f h5870 ?_;refine Run.skip ?_;refine Rn.c (mkE [(1,(V.fp (E_Code.e x0))),(1,(V.int .u8 x0.fKind)),(2,(V.bool y5789)),(0,(V.bool y5796)),(0,(V.bool y5799)),(0,(V.bool y5802))] 133) ?_;exact w44_j6 h hp
        · rw [ite_f h5869] at h; refine Ro.p (bool_of h5869) ?_;refine Ro.t 6 ?_;refine Ro.d (mkE [(1,(V.fp (E_Code.e x0))),(1,(V.int .u8 x0.fKind)),(2,(V.bool y5789)),(0,(V.bool y5796)),(0,(V.bool y5799)),(0,(V.bool y5802)),(98,(V.bool false))] 34) ?_;refine Run.condF (by kernel_rfl) ?_;refine Run.skip ?_;refine Rn.c (mkE [(1,(V.fp (E_Code.e x0))),(1,(V.int .u8 x0.fKind)),(2,(V.bool y5789)),(0,(V.bool y5796)),(0,(V.bool y5799)),(0,(V.bool y5802))] 133) ?_;exact w44_j6 h hp
    · rw [ite_f h5864] at h; refine Ro.p (bool_of h5864) ?_;refine Ro.t 4 ?_;rcases tf (x0.fType != (0 : Int)) with h5871 | h5871
      · rw [ite_t h5871] at h; refine Ro.p (bool_of h5871) ?_;refine Ro.t 20 ?_;refine Ro.d (mkE [(1,(V.fp (E_Code.e x0))),(1,(V.int .u8 x0.fKind)),(2,(V.bool y5789)),(0,(V.bool y5796)),(0,(V.bool y5799)),(0,(V.bool y5802)),(98,(V.bool true))] 34) ?_;refine Run.condT (by kernel_rfl) ?_;refine Rn.g ?_;refine Ro.t 1 ?_;refine Ro.d (mkE [(2,(V.bool false))] 140) ?_;refine Run.ret ?_;have h := Option.some.inj h; subst h;exact ⟨(V.bool false),(by kernel_rfl),(by kernel_rfl),hp⟩
      · rw [ite_f h5871] at h; refine Ro.p (bool_of h5871) ?_;refine Ro.t 4 ?_;rcases tf (x0.fKind != (4 : Int)) with h5872 | h5872
        · rw [ite_t h5872] at h; refine Ro.p (bool_of h5872) ?_;refine Ro.t 3 ?_;rcases tf (x0.fTo != (0 : Int)) with h5873 | h5873
          · rw [ite_t h5873] at h; refine Ro.p (bool_of h5873) ?_;refine Ro.t 11 ?_;refine Ro.d (mkE [(1,(V.fp (E_Code.e x0))),(1,(V.int .u8 x0.fKind)),(2,(V.bool y5789)),(0,(V.bool y5796)),(0,(V.bool y5799)),(0,(V.bool y5802)),(98,(V.bool true))] 34) ?_;refine Run.condT (by kernel_rfl) ?_;refine Rn.g ?_;refine Ro.t 1 ?_;refine Ro.d (mkE [(2,(V.bool false))] 140) ?_;refine Run.ret ?_;have h := Option.some.inj h; subst h;exact ⟨(V.bool false),(by kernel_rfl),(by kernel_rfl),hp⟩
          · rw [ite_f h5873] at h; refine Ro.p (bool_of h5873) ?_;refine Ro.t 4 ?_;rcases tf (x0.fKind != (17 : Int)) with h5874 | h5874
            · rw [ite_t h5874] at h; refine Ro.p (bool_of h5874) ?_;refine Ro.t 6 ?_;refine Ro.d (mkE [(1,(V.fp (E_Code.e x0))),(1,(V.int .u8 x0.fKind)),(2,(V.bool y5789)),(0,(V.bool y5796)),(0,(V.bool y5799)),(0,(V.bool y5802)),(98,(V.bool (x0.fTrap != (0 : Int))))] 34) ?_;rcases tf (x0.fTrap != (0 : Int)) with h5875 | h5875
              · rw [ite_t h5875] at h; refine Rn.t h5875 ?_;refine Rn.g ?_;refine Ro.t 1 ?_;refine Ro.d (mkE [(2,(V.bool false))] 140) ?_;refine Run.ret ?_;have h := Option.some.inj h; subst h;exact ⟨(V.bool false),(by kernel_rfl),(by kernel_rfl),hp⟩
              · rw [ite_f h5875] at h; refine Rn.f h5875 ?_;refine Run.skip ?_;refine Rn.c (mkE [(1,(V.fp (E_Code.e x0))),(1,(V.int .u8 x0.fKind)),(2,(V.bool y5789)),(0,(V.bool y5796)),(0,(V.bool y5799)),(0,(V.bool y5802))] 133) ?_;exact w44_j6 h hp
            · rw [ite_f h5874] at h; refine Ro.p (bool_of h5874) ?_;refine Ro.t 6 ?_;refine Ro.d (mkE [(1,(V.fp (E_Code.e x0))),(1,(V.int .u8 x0.fKind)),(2,(V.bool y5789)),(0,(V.bool y5796)),(0,(V.bool y5799)),(0,(V.bool y5802)),(98,(V.bool false))] 34) ?_;refine Run.condF (by kernel_rfl) ?_;refine Run.skip ?_;refine Rn.c (mkE [(1,(V.fp (E_Code.e x0))),(1,(V.int .u8 x0.fKind)),(2,(V.bool y5789)),(0,(V.bool y5796)),(0,(V.bool y5799)),(0,(V.bool y5802))] 133) ?_;exact w44_j6 h hp
        · rw [ite_f h5872] at h; refine Ro.p (bool_of h5872) ?_;refine Ro.t 8 ?_;rcases tf (x0.fKind != (17 : Int)) with h5876 | h5876
          · rw [ite_t h5876] at h; refine Ro.p (bool_of h5876) ?_;refine Ro.t 6 ?_;refine Ro.d (mkE [(1,(V.fp (E_Code.e x0))),(1,(V.int .u8 x0.fKind)),(2,(V.bool y5789)),(0,(V.bool y5796)),(0,(V.bool y5799)),(0,(V.bool y5802)),(98,(V.bool (x0.fTrap != (0 : Int))))] 34) ?_;rcases tf (x0.fTrap != (0 : Int)) with h5877 | h5877
            · rw [ite_t h5877] at h; refine Rn.t h5877 ?_;refine Rn.g ?_;refine Ro.t 1 ?_;refine Ro.d (mkE [(2,(V.bool false))] 140) ?_;refine Run.ret ?_;have h := Option.some.inj h; subst h;exact ⟨(V.bool false),(by kernel_rfl),(by kernel_rfl),hp⟩
            · rw [ite_f h5877] at h; refine Rn.f h5877 ?_;refine Run.skip ?_;refine Rn.c (mkE [(1,(V.fp (E_Code.e x0))),(1,(V.int .u8 x0.fKind)),(2,(V.bool y5789)),(0,(V.bool y5796)),(0,(V.bool y5799)),(0,(V.bool y5802))] 133) ?_;exact w44_j6 h hp
          · rw [ite_f h5876] at h; refine Ro.p (bool_of h5876) ?_;refine Ro.t 6 ?_;refine Ro.d (mkE [(1,(V.fp (E_Code.e x0))),(1,(V.int .u8 x0.fKind)),(2,(V.bool y5789)),(0,(V.bool y5796)),(0,(V.bool y5799)),(0,(V.bool y5802)),(98,(V.bool false))] 34) ?_;refine Run.condF (by kernel_rfl) ?_;refine Run.skip ?_;refine Rn.c (mkE [(1,(V.fp (E_Code.e x0))),(1,(V.int .u8 x0.fKind)),(2,(V.bool y5789)),(0,(V.bool y5796)),(0,(V.bool y5799)),(0,(V.bool y5802))] 133) ?_;exact w44_j6 h hp
  · rw [ite_f h5863] at h; refine Ro.p (bool_of h5863) ?_;refine Ro.t 4 ?_;rcases tf (x0.fOp != (0 : Int)) with h5878 | h5878
    · rw [ite_t h5878] at h; refine Ro.p (bool_of h5878) ?_;refine Ro.t 28 ?_;refine Ro.d (mkE [(1,(V.fp (E_Code.e x0))),(1,(V.int .u8 x0.fKind)),(2,(V.bool y5789)),(0,(V.bool y5796)),(0,(V.bool y5799)),(0,(V.bool y5802)),(98,(V.bool true))] 34) ?_;refine Run.condT (by kernel_rfl) ?_;refine Rn.g ?_;refine Ro.t 1 ?_;refine Ro.d (mkE [(2,(V.bool false))] 140) ?_;refine Run.ret ?_;have h := Option.some.inj h; subst h;exact ⟨(V.bool false),(by kernel_rfl),(by kernel_rfl),hp⟩
    · rw [ite_f h5878] at h; refine Ro.p (bool_of h5878) ?_;refine Ro.t 2 ?_;rcases tf y5787 with h5879 | h5879
      · rw [ite_t h5879] at h; refine Ro.p (bool_of h5879) ?_;refine Ro.t 9 ?_;rcases tf (x0.fKind != (4 : Int)) with h5880 | h5880
        · rw [ite_t h5880] at h; refine Ro.p (bool_of h5880) ?_;refine Ro.t 3 ?_;rcases tf (x0.fTo != (0 : Int)) with h5881 | h5881
          · rw [ite_t h5881] at h; refine Ro.p (bool_of h5881) ?_;refine Ro.t 11 ?_;refine Ro.d (mkE [(1,(V.fp (E_Code.e x0))),(1,(V.int .u8 x0.fKind)),(2,(V.bool y5789)),(0,(V.bool y5796)),(0,(V.bool y5799)),(0,(V.bool y5802)),(98,(V.bool true))] 34) ?_;refine Run.condT (by kernel_rfl) ?_;refine Rn.g ?_;refine Ro.t 1 ?_;refine Ro.d (mkE [(2,(V.bool false))] 140) ?_;refine Run.ret ?_;have h := Option.some.inj h; subst h;exact ⟨(V.bool false),(by kernel_rfl),(by kernel_rfl),hp⟩
          · rw [ite_f h5881] at h; refine Ro.p (bool_of h5881) ?_;refine Ro.t 4 ?_;rcases tf (x0.fKind != (17 : Int)) with h5882 | h5882
            · rw [ite_t h5882] at h; refine Ro.p (bool_of h5882) ?_;refine Ro.t 6 ?_;refine Ro.d (mkE [(1,(V.fp (E_Code.e x0))),(1,(V.int .u8 x0.fKind)),(2,(V.bool y5789)),(0,(V.bool y5796)),(0,(V.bool y5799)),(0,(V.bool y5802)),(98,(V.bool (x0.fTrap != (0 : Int))))] 34) ?_;rcases tf (x0.fTrap != (0 : Int)) with h5883 | h5883
              · rw [ite_t h5883] at h; refine Rn.t h5883 ?_;refine Rn.g ?_;refine Ro.t 1 ?_;refine Ro.d (mkE [(2,(V.bool false))] 140) ?_;refine Run.ret ?_;have h := Option.some.inj h; subst h;exact ⟨(V.bool false),(by kernel_rfl),(by kernel_rfl),hp⟩
              · rw [ite_f h5883] at h; refine Rn.f h5883 ?_;refine Run.skip ?_;refine Rn.c (mkE [(1,(V.fp (E_Code.e x0))),(1,(V.int .u8 x0.fKind)),(2,(V.bool y5789)),(0,(V.bool y5796)),(0,(V.bool y5799)),(0,(V.bool y5802))] 133) ?_;exact w44_j6 h hp
            · rw [ite_f h5882] at h; refine Ro.p (bool_of h5882) ?_;refine Ro.t 6 ?_;refine Ro.d (mkE [(1,(V.fp (E_Code.e x0))),(1,(V.int .u8 x0.fKind)),(2,(V.bool y5789)),(0,(V.bool y5796)),(0,(V.bool y5799)),(0,(V.bool y5802)),(98,(V.bool false))] 34) ?_;refine Run.condF (by kernel_rfl) ?_;refine Run.skip ?_;refine Rn.c (mkE [(1,(V.fp (E_Code.e x0))),(1,(V.int .u8 x0.fKind)),(2,(V.bool y5789)),(0,(V.bool y5796)),(0,(V.bool y5799)),(0,(V.bool y5802))] 133) ?_;exact w44_j6 h hp
        · rw [ite_f h5880] at h; refine Ro.p (bool_of h5880) ?_;refine Ro.t 8 ?_;rcases tf (x0.fKind != (17 : Int)) with h5884 | h5884
          · rw [ite_t h5884] at h; refine Ro.p (bool_of h5884) ?_;refine Ro.t 6 ?_;refine Ro.d (mkE [(1,(V.fp (E_Code.e x0))),(1,(V.int .u8 x0.fKind)),(2,(V.bool y5789)),(0,(V.bool y5796)),(0,(V.bool y5799)),(0,(V.bool y5802)),(98,(V.bool (x0.fTrap != (0 : Int))))] 34) ?_;rcases tf (x0.fTrap != (0 : Int)) with h5885 | h5885
            · rw [ite_t h5885] at h; refine Rn.t h5885 ?_;refine Rn.g ?_;refine Ro.t 1 ?_;refine Ro.d (mkE [(2,(V.bool false))] 140) ?_;refine Run.ret ?_;have h := Option.some.inj h; subst h;exact ⟨(V.bool false),(by kernel_rfl),(by kernel_rfl),hp⟩
            · rw [ite_f h5885] at h; refine Rn.f h5885 ?_;refine Run.skip ?_;refine Rn.c (mkE [(1,(V.fp (E_Code.e x0))),(1,(V.int .u8 x0.fKind)),(2,(V.bool y5789)),(0,(V.bool y5796)),(0,(V.bool y5799)),(0,(V.bool y5802))] 133) ?_;exact w44_j6 h hp
          · rw [ite_f h5884] at h; refine Ro.p (bool_of h5884) ?_;refine Ro.t 6 ?_;refine Ro.d (mkE [(1,(V.fp (E_Code.e x0))),(1,(V.int .u8 x0.fKind)),(2,(V.bool y5789)),(0,(V.bool y5796)),(0,(V.bool y5799)),(0,(V.bool y5802)),(98,(V.bool false))] 34) ?_;refine Run.condF (by kernel_rfl) ?_;refine Run.skip ?_;refine Rn.c (mkE [(1,(V.fp (E_Code.e x0))),(1,(V.int .u8 x0.fKind)),(2,(V.bool y5789)),(0,(V.bool y5796)),(0,(V.bool y5799)),(0,(V.bool y5802))] 133) ?_;exact w44_j6 h hp
      · rw [ite_f h5879] at h; refine Ro.p (bool_of h5879) ?_;refine Ro.t 4 ?_;rcases tf (x0.fType != (0 : Int)) with h5886 | h5886
        · rw [ite_t h5886] at h; refine Ro.p (bool_of h5886) ?_;refine Ro.t 20 ?_;refine Ro.d (mkE [(1,(V.fp (E_Code.e x0))),(1,(V.int .u8 x0.fKind)),(2,(V.bool y5789)),(0,(V.bool y5796)),(0,(V.bool y5799)),(0,(V.bool y5802)),(98,(V.bool true))] 34) ?_;refine Run.condT (by kernel_rfl) ?_;refine Rn.g ?_;refine Ro.t 1 ?_;refine Ro.d (mkE [(2,(V.bool false))] 140) ?_;refine Run.ret ?_;have h := Option.some.inj h; subst h;exact ⟨(V.bool false),(by kernel_rfl),(by kernel_rfl),hp⟩
        · rw [ite_f h5886] at h; refine Ro.p (bool_of h5886) ?_;refine Ro.t 4 ?_;rcases tf (x0.fKind != (4 : Int)) with h5887 | h5887
          · rw [ite_t h5887] at h; refine Ro.p (bool_of h5887) ?_;refine Ro.t 3 ?_;rcases tf (x0.fTo != (0 : Int)) with h5888 | h5888
            · rw [ite_t h5888] at h; refine Ro.p (bool_of h5888) ?_;refine Ro.t 11 ?_;refine Ro.d (mkE [(1,(V.fp (E_Code.e x0))),(1,(V.int .u8 x0.fKind)),(2,(V.bool y5789)),(0,(V.bool y5796)),(0,(V.bool y5799)),(0,(V.bool y5802)),(98,(V.bool true))] 34) ?_;refine Run.condT (by kernel_rfl) ?_;refine Rn.g ?_;refine Ro.t 1 ?_;refine Ro.d (mkE [(2,(V.bool false))] 140) ?_;refine Run.ret ?_;have h := Option.some.inj h; subst h;exact ⟨(V.bool false),(by kernel_rfl),(by kernel_rfl),hp⟩
            · rw [ite_f h5888] at h; refine Ro.p (bool_of h5888) ?_;refine Ro.t 4 ?_;rcases tf (x0.fKind != (17 : Int)) with h5889 | h5889
              · rw [ite_t h5889] at h; refine Ro.p (bool_of h5889) ?_;refine Ro.t 6 ?_;refine Ro.d (mkE [(1,(V.fp (E_Code.e x0))),(1,(V.int .u8 x0.fKind)),(2,(V.bool y5789)),(0,(V.bool y5796)),(0,(V.bool y5799)),(0,(V.bool y5802)),(98,(V.bool (x0.fTrap != (0 : Int))))] 34) ?_;rcases tf (x0.fTrap != (0 : Int)) with h5890 | h5890
                · rw [ite_t h5890] at h; refine Rn.t h5890 ?_;refine Rn.g ?_;refine Ro.t 1 ?_;refine Ro.d (mkE [(2,(V.bool false))] 140) ?_;refine Run.ret ?_;have h := Option.some.inj h; subst h;exact ⟨(V.bool false),(by kernel_rfl),(by kernel_rfl),hp⟩
                · rw [ite_f h5890] at h; refine Rn.f h5890 ?_;refine Run.skip ?_;refine Rn.c (mkE [(1,(V.fp (E_Code.e x0))),(1,(V.int .u8 x0.fKind)),(2,(V.bool y5789)),(0,(V.bool y5796)),(0,(V.bool y5799)),(0,(V.bool y5802))] 133) ?_;exact w44_j6 h hp
              · rw [ite_f h5889] at h; refine Ro.p (bool_of h5889) ?_;refine Ro.t 6 ?_;refine Ro.d (mkE [(1,(V.fp (E_Code.e x0))),(1,(V.int .u8 x0.fKind)),(2,(V.bool y5789)),(0,(V.bool y5796)),(0,(V.bool y5799)),(0,(V.bool y5802)),(98,(V.bool false))] 34) ?_;refine Run.condF (by kernel_rfl) ?_;refine Run.skip ?_;refine Rn.c (mkE [(1,(V.fp (E_Code.e x0))),(1,(V.int .u8 x0.fKind)),(2,(V.bool y5789)),(0,(V.bool y5796)),(0,(V.bool y5799)),(0,(V.bool y5802))] 133) ?_;exact w44_j6 h hp
          · rw [ite_f h5887] at h; refine Ro.p (bool_of h5887) ?_;refine Ro.t 8 ?_;rcases tf (x0.fKind != (17 : Int)) with h5891 | h5891
            · rw [ite_t h5891] at h; refine Ro.p (bool_of h5891) ?_;refine Ro.t 6 ?_;refine Ro.d (mkE [(1,(V.fp (E_Code.e x0))),(1,(V.int .u8 x0.fKind)),(2,(V.bool y5789)),(0,(V.bool y5796)),(0,(V.bool y5799)),(0,(V.bool y5802)),(98,(V.bool (x0.fTrap != (0 : Int))))] 34) ?_;rcases tf (x0.fTrap != (0 : Int)) with h5892 | h5892
              · rw [ite_t h5892] at h; refine Rn.t h5892 ?_;refine Rn.g ?_;refine Ro.t 1 ?_;refine Ro.d (mkE [(2,(V.bool false))] 140) ?_;refine Run.ret ?_;have h := Option.some.inj h; subst h;exact ⟨(V.bool false),(by kernel_rfl),(by kernel_rfl),hp⟩
              · rw [ite_f h5892] at h; refine Rn.f h5892 ?_;refine Run.skip ?_;refine Rn.c (mkE [(1,(V.fp (E_Code.e x0))),(1,(V.int .u8 x0.fKind)),(2,(V.bool y5789)),(0,(V.bool y5796)),(0,(V.bool y5799)),(0,(V.bool y5802))] 133) ?_;exact w44_j6 h hp
            · rw [ite_f h5891] at h; refine Ro.p (bool_of h5891) ?_;refine Ro.t 6 ?_;refine Ro.d (mkE [(1,(V.fp (E_Code.e x0))),(1,(V.int .u8 x0.fKind)),(2,(V.bool y5789)),(0,(V.bool y5796)),(0,(V.bool y5799)),(0,(V.bool y5802)),(98,(V.bool false))] 34) ?_;refine Run.condF (by kernel_rfl) ?_;refine Run.skip ?_;refine Rn.c (mkE [(1,(V.fp (E_Code.e x0))),(1,(V.int .u8 x0.fKind)),(2,(V.bool y5789)),(0,(V.bool y5796)),(0,(V.bool y5799)),(0,(V.bool y5802))] 133) ?_;exact w44_j6 h hp
def F44_j4 (x0 : T_Code) (y5787 : Bool) (y5789 : Bool) (y5796 : Bool) (y5799 : Bool) : Option Bool :=
  if y5799 then
    F44_j5 x0 y5787 y5789 y5796 y5799 (true)
  else
    if (x0.fKind == (3 : Int)) then
      F44_j5 x0 y5787 y5789 y5796 y5799 (true)
    else
      F44_j5 x0 y5787 y5789 y5796 y5799 ((x0.fKind == (15 : Int)))
theorem w44_j4 {x0 : T_Code} {y5787 : Bool} {y5789 : Bool} {y5796 : Bool} {y5799 : Bool} {r : Bool} (h : F44_j4 x0 y5787 y5789 y5796 y5799 = some r) {H : Heap} {L : List Ob} (hp : HP H (L)) :
    Run T i44n16 (mkE [(1,(V.fp (E_Code.e x0))),(1,(V.int .u8 x0.fKind)),(0,(V.bool (x0.fKind == (3 : Int)))),(0,(V.bool y5787)),(0,(V.bool y5789)),(0,(V.bool y5796)),(0,(V.bool y5799))] 134) H (finE none [2] (Q44 L r)) := by
  unfold F44_j4 at h;refine Rn.g ?_;rcases tf y5799 with h5893 | h5893
  · rw [ite_t h5893] at h; refine Ro.p (bool_of h5893) ?_;refine Ro.t 9 ?_;refine Ro.d (mkE [(1,(V.fp (E_Code.e x0))),(1,(V.int .u8 x0.fKind)),(0,(V.bool (x0.fKind == (3 : Int)))),(0,(V.bool y5787)),(0,(V.bool y5789)),(0,(V.bool y5796)),(0,(V.bool y5799)),(0,(V.bool true))] 133) ?_;exact w44_j5 h hp
  · rw [ite_f h5893] at h; refine Ro.p (bool_of h5893) ?_;refine Ro.t 2 ?_;rcases tf (x0.fKind == (3 : Int)) with h5894 | h5894
    · rw [ite_t h5894] at h; refine Ro.p (bool_of h5894) ?_;refine Ro.t 6 ?_;refine Ro.d (mkE [(1,(V.fp (E_Code.e x0))),(1,(V.int .u8 x0.fKind)),(0,(V.bool (x0.fKind == (3 : Int)))),(0,(V.bool y5787)),(0,(V.bool y5789)),(0,(V.bool y5796)),(0,(V.bool y5799)),(0,(V.bool true))] 133) ?_;exact w44_j5 h hp
    · rw [ite_f h5894] at h; refine Ro.p (bool_of h5894) ?_;refine Ro.t 6 ?_;refine Ro.d (mkE [(1,(V.fp (E_Code.e x0))),(1,(V.int .u8 x0.fKind)),(0,(V.bool (x0.fKind == (3 : Int)))),(0,(V.bool y5787)),(0,(V.bool y5789)),(0,(V.bool y5796)),(0,(V.bool y5799)),(0,(V.bool (x0.fKind == (15 : Int))))] 133) ?_;exact w44_j5 h hp
def F44_j3 (x0 : T_Code) (y5787 : Bool) (y5789 : Bool) (y5796 : Bool) : Option Bool :=
  if (x0.fKind == (7 : Int)) then
    F44_j4 x0 y5787 y5789 y5796 (true)
  else
    if (x0.fKind == (8 : Int)) then
      F44_j4 x0 y5787 y5789 y5796 (true)
    else
      F44_j4 x0 y5787 y5789 y5796 ((x0.fKind == (9 : Int)))
theorem w44_j3 {x0 : T_Code} {y5787 : Bool} {y5789 : Bool} {y5796 : Bool} {r : Bool} (h : F44_j3 x0 y5787 y5789 y5796 = some r) {H : Heap} {L : List Ob} (hp : HP H (L)) :
    Run T i44n17 (mkE [(1,(V.fp (E_Code.e x0))),(1,(V.int .u8 x0.fKind)),(0,(V.bool (x0.fKind == (3 : Int)))),(0,(V.bool y5787)),(0,(V.bool y5789)),(0,(V.bool y5796))] 135) H (finE none [2] (Q44 L r)) := by
  unfold F44_j3 at h;refine Rn.g ?_;refine Ro.t 1 ?_;rcases tf (x0.fKind == (7 : Int)) with h5895 | h5895
  · rw [ite_t h5895] at h; refine Ro.p (bool_of h5895) ?_;refine Ro.t 9 ?_;refine Ro.d (mkE [(1,(V.fp (E_Code.e x0))),(1,(V.int .u8 x0.fKind)),(0,(V.bool (x0.fKind == (3 : Int)))),(0,(V.bool y5787)),(0,(V.bool y5789)),(0,(V.bool y5796)),(0,(V.bool true))] 134) ?_;exact w44_j4 h hp
  · rw [ite_f h5895] at h; refine Ro.p (bool_of h5895) ?_;refine Ro.t 2 ?_;rcases tf (x0.fKind == (8 : Int)) with h5896 | h5896
    · rw [ite_t h5896] at h; refine Ro.p (bool_of h5896) ?_;refine Ro.t 6 ?_;refine Ro.d (mkE [(1,(V.fp (E_Code.e x0))),(1,(V.int .u8 x0.fKind)),(0,(V.bool (x0.fKind == (3 : Int)))),(0,(V.bool y5787)),(0,(V.bool y5789)),(0,(V.bool y5796)),(0,(V.bool true))] 134) ?_;exact w44_j4 h hp
    · rw [ite_f h5896] at h; refine Ro.p (bool_of h5896) ?_;refine Ro.t 6 ?_;refine Ro.d (mkE [(1,(V.fp (E_Code.e x0))),(1,(V.int .u8 x0.fKind)),(0,(V.bool (x0.fKind == (3 : Int)))),(0,(V.bool y5787)),(0,(V.bool y5789)),(0,(V.bool y5796)),(0,(V.bool (x0.fKind == (9 : Int))))] 134) ?_;exact w44_j4 h hp
def F44_j2 (x0 : T_Code) (y5787 : Bool) (y5789 : Bool) : Option Bool :=
  if (x0.fKind != (1 : Int)) then
    if (x0.fKind != (9 : Int)) then
      if (x0.fKind != (12 : Int)) then
        if (x0.fKind != (13 : Int)) then
          if (x0.fKind != (14 : Int)) then
            if (x0.fKind != (16 : Int)) then
              F44_j3 x0 y5787 y5789 ((x0.fKind != (17 : Int)))
            else
              F44_j3 x0 y5787 y5789 (false)
          else
            F44_j3 x0 y5787 y5789 (false)
        else
          F44_j3 x0 y5787 y5789 (false)
      else
        F44_j3 x0 y5787 y5789 (false)
    else
      F44_j3 x0 y5787 y5789 (false)
  else
    F44_j3 x0 y5787 y5789 (false)
theorem w44_j2 {x0 : T_Code} {y5787 : Bool} {y5789 : Bool} {r : Bool} (h : F44_j2 x0 y5787 y5789 = some r) {H : Heap} {L : List Ob} (hp : HP H (L)) :
    Run T i44n18 (mkE [(1,(V.fp (E_Code.e x0))),(1,(V.int .u8 x0.fKind)),(0,(V.bool (x0.fKind == (3 : Int)))),(0,(V.bool y5787)),(0,(V.bool y5789))] 136) H (finE none [2] (Q44 L r)) := by
  unfold F44_j2 at h;refine Rn.g ?_;refine Ro.t 1 ?_;rcases tf (x0.fKind != (1 : Int)) with h5897 | h5897
  · rw [ite_t h5897] at h; refine Ro.p (bool_of h5897) ?_;refine Ro.t 2 ?_;rcases tf (x0.fKind != (9 : Int)) with h5898 | h5898
    · rw [ite_t h5898] at h; refine Ro.p (bool_of h5898) ?_;refine Ro.t 3 ?_;rcases tf (x0.fKind != (12 : Int)) with h5899 | h5899
      · rw [ite_t h5899] at h; refine Ro.p (bool_of h5899) ?_;refine Ro.t 3 ?_;rcases tf (x0.fKind != (13 : Int)) with h5900 | h5900
        · rw [ite_t h5900] at h; refine Ro.p (bool_of h5900) ?_;refine Ro.t 3 ?_;rcases tf (x0.fKind != (14 : Int)) with h5901 | h5901
          · rw [ite_t h5901] at h; refine Ro.p (bool_of h5901) ?_;refine Ro.t 3 ?_;rcases tf (x0.fKind != (16 : Int)) with h5902 | h5902
            · rw [ite_t h5902] at h; refine Ro.p (bool_of h5902) ?_;refine Ro.t 6 ?_;refine Ro.d (mkE [(1,(V.fp (E_Code.e x0))),(1,(V.int .u8 x0.fKind)),(0,(V.bool (x0.fKind == (3 : Int)))),(0,(V.bool y5787)),(0,(V.bool y5789)),(0,(V.bool (x0.fKind != (17 : Int))))] 135) ?_;exact w44_j3 h hp
            · rw [ite_f h5902] at h; refine Ro.p (bool_of h5902) ?_;refine Ro.t 6 ?_;refine Ro.d (mkE [(1,(V.fp (E_Code.e x0))),(1,(V.int .u8 x0.fKind)),(0,(V.bool (x0.fKind == (3 : Int)))),(0,(V.bool y5787)),(0,(V.bool y5789)),(0,(V.bool false))] 135) ?_;exact w44_j3 h hp
          · rw [ite_f h5901] at h; refine Ro.p (bool_of h5901) ?_;refine Ro.t 10 ?_;refine Ro.d (mkE [(1,(V.fp (E_Code.e x0))),(1,(V.int .u8 x0.fKind)),(0,(V.bool (x0.fKind == (3 : Int)))),(0,(V.bool y5787)),(0,(V.bool y5789)),(0,(V.bool false))] 135) ?_;exact w44_j3 h hp
        · rw [ite_f h5900] at h; refine Ro.p (bool_of h5900) ?_;refine Ro.t 14 ?_;refine Ro.d (mkE [(1,(V.fp (E_Code.e x0))),(1,(V.int .u8 x0.fKind)),(0,(V.bool (x0.fKind == (3 : Int)))),(0,(V.bool y5787)),(0,(V.bool y5789)),(0,(V.bool false))] 135) ?_;exact w44_j3 h hp
      · rw [ite_f h5899] at h; refine Ro.p (bool_of h5899) ?_;refine Ro.t 18 ?_;refine Ro.d (mkE [(1,(V.fp (E_Code.e x0))),(1,(V.int .u8 x0.fKind)),(0,(V.bool (x0.fKind == (3 : Int)))),(0,(V.bool y5787)),(0,(V.bool y5789)),(0,(V.bool false))] 135) ?_;exact w44_j3 h hp
    · rw [ite_f h5898] at h; refine Ro.p (bool_of h5898) ?_;refine Ro.t 22 ?_;refine Ro.d (mkE [(1,(V.fp (E_Code.e x0))),(1,(V.int .u8 x0.fKind)),(0,(V.bool (x0.fKind == (3 : Int)))),(0,(V.bool y5787)),(0,(V.bool y5789)),(0,(V.bool false))] 135) ?_;exact w44_j3 h hp
  · rw [ite_f h5897] at h; refine Ro.p (bool_of h5897) ?_;refine Ro.t 25 ?_;refine Ro.d (mkE [(1,(V.fp (E_Code.e x0))),(1,(V.int .u8 x0.fKind)),(0,(V.bool (x0.fKind == (3 : Int)))),(0,(V.bool y5787)),(0,(V.bool y5789)),(0,(V.bool false))] 135) ?_;exact w44_j3 h hp
def F44_j1 (x0 : T_Code) (y5787 : Bool) : Option Bool :=
  if (x0.fKind != (9 : Int)) then
    F44_j2 x0 y5787 ((x0.fKind != (17 : Int)))
  else
    F44_j2 x0 y5787 (false)
theorem w44_j1 {x0 : T_Code} {y5787 : Bool} {r : Bool} (h : F44_j1 x0 y5787 = some r) {H : Heap} {L : List Ob} (hp : HP H (L)) :
    Run T i44n19 (mkE [(1,(V.fp (E_Code.e x0))),(1,(V.int .u8 x0.fKind)),(0,(V.bool (x0.fKind == (3 : Int)))),(0,(V.bool y5787))] 137) H (finE none [2] (Q44 L r)) := by
  unfold F44_j1 at h;refine Rn.g ?_;refine Ro.t 1 ?_;rcases tf (x0.fKind != (9 : Int)) with h5903 | h5903
  · rw [ite_t h5903] at h; refine Ro.p (bool_of h5903) ?_;refine Ro.t 5 ?_;refine Ro.d (mkE [(1,(V.fp (E_Code.e x0))),(1,(V.int .u8 x0.fKind)),(0,(V.bool (x0.fKind == (3 : Int)))),(0,(V.bool y5787)),(0,(V.bool (x0.fKind != (17 : Int))))] 136) ?_;exact w44_j2 h hp
  · rw [ite_f h5903] at h; refine Ro.p (bool_of h5903) ?_;refine Ro.t 5 ?_;refine Ro.d (mkE [(1,(V.fp (E_Code.e x0))),(1,(V.int .u8 x0.fKind)),(0,(V.bool (x0.fKind == (3 : Int)))),(0,(V.bool y5787)),(0,(V.bool false))] 136) ?_;exact w44_j2 h hp
def F44 (x0 : T_Code) : Option Bool :=
  if (x0.fKind == (3 : Int)) then
    F44_j1 x0 (true)
  else
    if (x0.fKind == (4 : Int)) then
      F44_j1 x0 (true)
    else
      F44_j1 x0 ((x0.fKind == (13 : Int)))
theorem w44 {x0 : T_Code} {r : Bool} (h : F44 x0 = some r) {H : Heap} {L : List Ob} (hp : HP H (L)) : Fn T 44 [(E_Code.e x0)] H (Q44 L r) := by
  refine Fn.enterE t44 (e0 := (mkE [(0,(E_Code.e x0))] 142)) (by kernel_rfl) ?_;show Run T (.clr [] i44n23) _ _ (finE none [2] (Q44 L r));refine Rn.k (mkE [(0,(E_Code.e x0))] 142) ?_;unfold F44 at h;refine Rn.g ?_;refine Ro.t 2 ?_;refine Ro.d (mkE [(1,(V.fp (E_Code.e x0)))] 141) ?_;refine Rn.g ?_;refine Ro.t 3 ?_;refine Ro.d (mkE [(1,(V.fp (E_Code.e x0))),(1,(V.int .u8 x0.fKind))] 139) ?_;refine Rn.g ?_;refine Ro.t 3 ?_;refine Ro.d (mkE [(1,(V.fp (E_Code.e x0))),(1,(V.int .u8 x0.fKind)),(0,(V.bool (x0.fKind == (3 : Int))))] 138) ?_;refine Rn.g ?_;refine Ro.t 1 ?_;rcases tf (x0.fKind == (3 : Int)) with h5904 | h5904
  · rw [ite_t h5904] at h; refine Ro.p (bool_of h5904) ?_;refine Ro.t 9 ?_;refine Ro.d (mkE [(1,(V.fp (E_Code.e x0))),(1,(V.int .u8 x0.fKind)),(0,(V.bool (x0.fKind == (3 : Int)))),(0,(V.bool true))] 137) ?_;exact w44_j1 h hp
  · rw [ite_f h5904] at h; refine Ro.p (bool_of h5904) ?_;refine Ro.t 2 ?_;rcases tf (x0.fKind == (4 : Int)) with h5905 | h5905
    · rw [ite_t h5905] at h; refine Ro.p (bool_of h5905) ?_;refine Ro.t 6 ?_;refine Ro.d (mkE [(1,(V.fp (E_Code.e x0))),(1,(V.int .u8 x0.fKind)),(0,(V.bool (x0.fKind == (3 : Int)))),(0,(V.bool true))] 137) ?_;exact w44_j1 h hp
    · rw [ite_f h5905] at h; refine Ro.p (bool_of h5905) ?_;refine Ro.t 6 ?_;refine Ro.d (mkE [(1,(V.fp (E_Code.e x0))),(1,(V.int .u8 x0.fKind)),(0,(V.bool (x0.fKind == (3 : Int)))),(0,(V.bool (x0.fKind == (13 : Int))))] 137) ?_;exact w44_j1 h hp
theorem c44 {x0 : T_Code} {r : Bool} (h : F44 x0 = some r) (s : Bool) : Fn T 44 [(E_Code.e x0)] [] (fun v hh => deep s hh deepN v = some (EB.e r)) := by
  refine (w44 h HP.nil).mono ?_;rintro v hh ⟨rfl,hp⟩;exact EB.hd s hh 38 _ (.inr rfl)
abbrev Q49 (L : List Ob) (r : Bool) : V → Heap → Prop := fun v h => v = EB.e r ∧ HP h (L)
abbrev RR49 (L : List Ob) (r : Bool) : List V → Heap → Prop := fun e h => endR none [4] (Q49 L r) e h
def F49 (x0 : Int) (x1 : Int) : Option Bool :=
  if (decide (x0 ≥ (0 : Int))) then
    some (decide (x0 < x1))
  else
    some false
theorem w49 {x0 : Int} {x1 : Int} {r : Bool} (h : F49 x0 x1 = some r) {H : Heap} {L : List Ob} (hp : HP H (L)) : Fn T 49 [(iN x0),(iN x1)] H (Q49 L r) := by
  refine Fn.enterE t49 (e0 := (mkE [(0,(iN x0)),(0,(iN x1))] 10)) (by kernel_rfl) ?_;show Run T (.clr [] i49n3) _ _ (finE none [4] (Q49 L r));refine Rn.k (mkE [(0,(iN x0)),(0,(iN x1))] 10) ?_;unfold F49 at h;refine Rn.g ?_;refine Ro.t 1 ?_;refine Ro.d (mkE [(0,(iN x0)),(0,(iN x1))] 10) ?_;refine Rn.g ?_;refine Ro.t 1 ?_;rcases tf (decide (x0 ≥ (0 : Int))) with h5917 | h5917
  · rw [ite_t h5917] at h; refine Ro.p (bool_of h5917) ?_;refine Ro.t 6 ?_;refine Ro.d (mkE [(4,(V.bool (decide (x0 < x1))))] 7) ?_;refine Run.ret ?_;have h := Option.some.inj h; subst h;exact ⟨(V.bool (decide (x0 < x1))),(by kernel_rfl),(by kernel_rfl),hp⟩
  · rw [ite_f h5917] at h; refine Ro.p (bool_of h5917) ?_;refine Ro.t 6 ?_;refine Ro.d (mkE [(4,(V.bool false))] 7) ?_;refine Run.ret ?_;have h := Option.some.inj h; subst h;exact ⟨(V.bool false),(by kernel_rfl),(by kernel_rfl),hp⟩
theorem c49 {x0 : Int} {x1 : Int} {r : Bool} (h : F49 x0 x1 = some r) (s : Bool) : Fn T 49 [(iN x0),(iN x1)] [] (fun v hh => deep s hh deepN v = some (EB.e r)) := by
  refine (w49 h HP.nil).mono ?_;rintro v hh ⟨rfl,hp⟩;exact EB.hd s hh 38 _ (.inr rfl)
abbrev Q45 (L : List Ob) (r : Bool) : V → Heap → Prop := fun v h => v = EB.e r ∧ HP h (L)
abbrev RR45 (L : List Ob) (r : Bool) : List V → Heap → Prop := fun e h => endR none [2] (Q45 L r) e h
def F45 (x0 : Int) : Option Bool :=
  (F49 x0 (8 : Int)).bind fun y5920 =>
  some y5920
theorem w45 {x0 : Int} {r : Bool} (h : F45 x0 = some r) {H : Heap} {L : List Ob} (hp : HP H (L)) : Fn T 45 [(iN x0)] H (Q45 L r) := by
  refine Fn.enterE t45 (e0 := (mkE [(0,(iN x0))] 4)) (by kernel_rfl) ?_;show Run T (.clr [] i45n3) _ _ (finE none [2] (Q45 L r));refine Rn.k (mkE [(0,(iN x0))] 4) ?_;unfold F45 at h;refine Rn.g ?_;refine Ro.t 1 ?_;refine Ro.d (mkE [(0,(iN x0))] 4) ?_;refine Rn.g ?_;refine Ro.t 1 ?_;obtain ⟨y5920,h5921,h⟩ := bind_some h;refine RunO.c1 (by kernel_rfl) (by kernel_rfl) (c49 h5921 _) ?_;refine Ro.t 1 ?_;refine Ro.d (mkE [(2,(V.bool y5920))] 2) ?_;refine Run.ret ?_;have h := Option.some.inj h; subst h;exact ⟨(V.bool y5920),(by kernel_rfl),(by kernel_rfl),hp⟩
theorem c45 {x0 : Int} {r : Bool} (h : F45 x0 = some r) (s : Bool) : Fn T 45 [(iN x0)] [] (fun v hh => deep s hh deepN v = some (EB.e r)) := by
  refine (w45 h HP.nil).mono ?_;rintro v hh ⟨rfl,hp⟩;exact EB.hd s hh 38 _ (.inr rfl)
abbrev Q60 (L : List Ob) (r : Bool) : V → Heap → Prop := fun v h => v = EB.e r ∧ HP h (L)
abbrev RR60 (L : List Ob) (r : Bool) : List V → Heap → Prop := fun e h => endR none [2] (Q60 L r) e h
def F60 (x0 : Int) : Option Bool :=
  if (x0 == (2 : Int)) then
    some true
  else
    if (x0 == (3 : Int)) then
      some true
    else
      some (x0 == (4 : Int))
theorem w60 {x0 : Int} {r : Bool} (h : F60 x0 = some r) {H : Heap} {L : List Ob} (hp : HP H (L)) : Fn T 60 [(V.int .u8 x0)] H (Q60 L r) := by
  refine Fn.enterE t60 (e0 := (mkE [(0,(V.int .u8 x0))] 12)) (by kernel_rfl) ?_;show Run T (.clr [] i60n3) _ _ (finE none [2] (Q60 L r));refine Rn.k (mkE [(0,(V.int .u8 x0))] 12) ?_;unfold F60 at h;refine Rn.g ?_;refine Ro.t 1 ?_;refine Ro.d (mkE [(0,(V.int .u8 x0))] 12) ?_;refine Rn.g ?_;refine Ro.t 1 ?_;rcases tf (x0 == (2 : Int)) with h5950 | h5950
  · rw [ite_t h5950] at h; refine Ro.p (bool_of h5950) ?_;refine Ro.t 9 ?_;refine Ro.d (mkE [(2,(V.bool true))] 10) ?_;refine Run.ret ?_;have h := Option.some.inj h; subst h;exact ⟨(V.bool true),(by kernel_rfl),(by kernel_rfl),hp⟩
  · rw [ite_f h5950] at h; refine Ro.p (bool_of h5950) ?_;refine Ro.t 2 ?_;rcases tf (x0 == (3 : Int)) with h5951 | h5951
    · rw [ite_t h5951] at h; refine Ro.p (bool_of h5951) ?_;refine Ro.t 6 ?_;refine Ro.d (mkE [(2,(V.bool true))] 10) ?_;refine Run.ret ?_;have h := Option.some.inj h; subst h;exact ⟨(V.bool true),(by kernel_rfl),(by kernel_rfl),hp⟩
    · rw [ite_f h5951] at h; refine Ro.p (bool_of h5951) ?_;refine Ro.t 6 ?_;refine Ro.d (mkE [(2,(V.bool (x0 == (4 : Int))))] 10) ?_;refine Run.ret ?_;have h := Option.some.inj h; subst h;exact ⟨(V.bool (x0 == (4 : Int))),(by kernel_rfl),(by kernel_rfl),hp⟩
theorem c60 {x0 : Int} {r : Bool} (h : F60 x0 = some r) (s : Bool) : Fn T 60 [(V.int .u8 x0)] [] (fun v hh => deep s hh deepN v = some (EB.e r)) := by
  refine (w60 h HP.nil).mono ?_;rintro v hh ⟨rfl,hp⟩;exact EB.hd s hh 38 _ (.inr rfl)
abbrev Q46 (L : List Ob) (r : (Int × Bool)) : V → Heap → Prop := fun v h => v = .tup [(EI .u8).e r.1,EB.e r.2] ∧ HP h (L)
abbrev RR46 (L : List Ob) (r : (Int × Bool)) : List V → Heap → Prop := fun e h => endR none [4,5] (Q46 L r) e h
def F46_j1 : Option (Int × Bool) :=
  some ((0 : Int),false)
theorem w46_j1 {r : (Int × Bool)} (h : F46_j1 = some r) {H : Heap} {L : List Ob} (hp : HP H (L)) :
    Run T i46n86 (mkE [] 47) H (finE none [4,5] (Q46 L r)) := by
  unfold F46_j1 at h;refine Rn.g ?_;refine Ro.t 2 ?_;refine Ro.d (mkE [(4,(V.int .u8 (0 : Int))),(0,(V.bool false))] 41) ?_;refine Run.ret ?_;have h := Option.some.inj h; subst h;exact ⟨(V.tup [(V.int .u8 (0 : Int)),(V.bool false)]),(by kernel_rfl),(by kernel_rfl),hp⟩
def F46_j6 (x1 : Int) (y6095 : Bool) : Option (Int × Bool) :=
  if y6095 then
    if (x1 != (1 : Int)) then
      some ((1 : Int),true)
    else
      F46_j1
  else
    F46_j1
theorem w46_j6 {x1 : Int} {y6095 : Bool} {r : (Int × Bool)} (h : F46_j6 x1 y6095 = some r) {H : Heap} {L : List Ob} (hp : HP H (L)) :
    Run T i46n73 (mkE [(1,(V.int .u8 x1)),(38,(V.bool y6095))] 6) H (blk 0 (thn T (.clr [0,1,4,5,12,13,14,15,16,17,18,19,20,21,22,23,24,25,26,27,28,29,30,31,32,33,34,35,36,37,38,39,40,41,42,43,44,45,46] i46n86) (finE none [4,5] (Q46 L r)))) := by
  unfold F46_j6 at h;rcases tf y6095 with h6096 | h6096
  · rw [ite_t h6096] at h; refine Rn.t h6096 ?_;refine Rn.g ?_;refine Ro.t 2 ?_;refine Ro.d (mkE [(46,(V.bool (x1 != (1 : Int))))] 0) ?_;rcases tf (x1 != (1 : Int)) with h6097 | h6097
    · rw [ite_t h6097] at h; refine Rn.t h6097 ?_;refine Rn.g ?_;refine Ro.t 2 ?_;refine Ro.d (mkE [(4,(V.int .u8 (1 : Int))),(0,(V.bool true))] 41) ?_;refine Run.ret ?_;have h := Option.some.inj h; subst h;exact ⟨(V.tup [(V.int .u8 (1 : Int)),(V.bool true)]),(by kernel_rfl),(by kernel_rfl),hp⟩
    · rw [ite_f h6097] at h; refine Rn.f h6097 ?_;refine Run.skip ?_;refine Rn.c (mkE [] 47) ?_;exact w46_j1 h hp
  · rw [ite_f h6096] at h; refine Rn.f h6096 ?_;refine Run.skip ?_;refine Rn.c (mkE [] 47) ?_;exact w46_j1 h hp
def F46_j5 (x0 : Int) (x1 : Int) (y6090 : Bool) : Option (Int × Bool) :=
  if y6090 then
    some ((1 : Int),true)
  else
    if (x0 == (13 : Int)) then
      F46_j6 x1 ((x0 == (13 : Int)))
    else
      if (x0 == (14 : Int)) then
        F46_j6 x1 ((x0 == (14 : Int)))
      else
        if (x0 == (15 : Int)) then
          F46_j6 x1 ((x0 == (15 : Int)))
        else
          F46_j6 x1 ((x0 == (16 : Int)))
theorem w46_j5 {x0 : Int} {x1 : Int} {y6090 : Bool} {r : (Int × Bool)} (h : F46_j5 x0 x1 y6090 = some r) {H : Heap} {L : List Ob} (hp : HP H (L)) :
    Run T i46n75 (mkE [(1,(V.int .u8 x1)),(10,(V.int .u8 x0)),(24,(V.bool y6090))] 9) H (blk 0 (thn T (.clr [0,1,4,5,12,13,14,15,16,17,18,19,20,21,22,23,24,25,26,27,28,29,30,31,32,33,34,35,36,37,38,39,40,41,42,43,44,45,46] i46n86) (finE none [4,5] (Q46 L r)))) := by
  unfold F46_j5 at h;rcases tf y6090 with h6091 | h6091
  · rw [ite_t h6091] at h; refine Rn.t h6091 ?_;refine Rn.g ?_;refine Ro.t 2 ?_;refine Ro.d (mkE [(4,(V.int .u8 (1 : Int))),(0,(V.bool true))] 41) ?_;refine Run.ret ?_;have h := Option.some.inj h; subst h;exact ⟨(V.tup [(V.int .u8 (1 : Int)),(V.bool true)]),(by kernel_rfl),(by kernel_rfl),hp⟩
  · rw [ite_f h6091] at h; refine Rn.f h6091 ?_;refine Run.seq ?_;refine Rn.g ?_;refine Ro.t 2 ?_;refine Ro.d (mkE [(1,(V.int .u8 x1)),(10,(V.int .u8 x0)),(27,(V.bool (x0 == (13 : Int))))] 6) ?_;rcases tf (x0 == (13 : Int)) with h6098 | h6098
    · rw [ite_t h6098] at h; refine Rn.t h6098 ?_;refine Run.skip ?_;refine Rn.c (mkE [(1,(V.int .u8 x1)),(38,(V.bool (x0 == (13 : Int))))] 6) ?_;exact w46_j6 h hp
    · rw [ite_f h6098] at h; refine Rn.f h6098 ?_;refine Rn.g ?_;refine Ro.t 2 ?_;refine Ro.d (mkE [(1,(V.int .u8 x1)),(10,(V.int .u8 x0)),(27,(V.bool (x0 == (14 : Int))))] 6) ?_;rcases tf (x0 == (14 : Int)) with h6099 | h6099
      · rw [ite_t h6099] at h; refine Rn.t h6099 ?_;refine Run.skip ?_;refine Rn.c (mkE [(1,(V.int .u8 x1)),(38,(V.bool (x0 == (14 : Int))))] 6) ?_;exact w46_j6 h hp
      · rw [ite_f h6099] at h; refine Rn.f h6099 ?_;refine Rn.g ?_;refine Ro.t 2 ?_;refine Ro.d (mkE [(1,(V.int .u8 x1)),(10,(V.int .u8 x0)),(27,(V.bool (x0 == (15 : Int))))] 6) ?_;rcases tf (x0 == (15 : Int)) with h6100 | h6100
        · rw [ite_t h6100] at h; refine Rn.t h6100 ?_;refine Run.skip ?_;refine Rn.c (mkE [(1,(V.int .u8 x1)),(38,(V.bool (x0 == (15 : Int))))] 6) ?_;exact w46_j6 h hp
        · rw [ite_f h6100] at h; refine Rn.f h6100 ?_;refine Run.rgn ?_;refine Ro.t 2 ?_;refine Ro.d (mkE [(1,(V.int .u8 x1)),(38,(V.bool (x0 == (16 : Int))))] 6) ?_;exact w46_j6 h hp
def F46_j4 (x0 : Int) (x1 : Int) (y6086 : Bool) : Option (Int × Bool) :=
  if y6086 then
    if (x1 != (5 : Int)) then
      some (x1,true)
    else
      F46_j1
  else
    if (x0 == (11 : Int)) then
      F46_j5 x0 x1 ((x0 == (11 : Int)))
    else
      F46_j5 x0 x1 ((x0 == (12 : Int)))
theorem w46_j4 {x0 : Int} {x1 : Int} {y6086 : Bool} {r : (Int × Bool)} (h : F46_j4 x0 x1 y6086 = some r) {H : Heap} {L : List Ob} (hp : HP H (L)) :
    Run T i46n77 (mkE [(1,(V.int .u8 x1)),(10,(V.int .u8 x0)),(16,(V.bool y6086))] 17) H (blk 0 (thn T (.clr [0,1,4,5,12,13,14,15,16,17,18,19,20,21,22,23,24,25,26,27,28,29,30,31,32,33,34,35,36,37,38,39,40,41,42,43,44,45,46] i46n86) (finE none [4,5] (Q46 L r)))) := by
  unfold F46_j4 at h;rcases tf y6086 with h6087 | h6087
  · rw [ite_t h6087] at h; refine Rn.t h6087 ?_;refine Rn.g ?_;refine Ro.t 2 ?_;refine Ro.d (mkE [(1,(V.int .u8 x1)),(33,(V.bool (x1 != (5 : Int))))] 11) ?_;rcases tf (x1 != (5 : Int)) with h6088 | h6088
    · rw [ite_t h6088] at h; refine Rn.t h6088 ?_;refine Rn.g ?_;refine Ro.t 3 ?_;refine Ro.d (mkE [(4,(V.int .u8 x1)),(0,(V.bool true))] 41) ?_;refine Run.ret ?_;have h := Option.some.inj h; subst h;exact ⟨(V.tup [(V.int .u8 x1),(V.bool true)]),(by kernel_rfl),(by kernel_rfl),hp⟩
    · rw [ite_f h6088] at h; refine Rn.f h6088 ?_;refine Run.skip ?_;refine Rn.c (mkE [] 47) ?_;exact w46_j1 h hp
  · rw [ite_f h6087] at h; refine Rn.f h6087 ?_;refine Run.seq ?_;refine Rn.g ?_;refine Ro.t 2 ?_;refine Ro.d (mkE [(1,(V.int .u8 x1)),(10,(V.int .u8 x0)),(24,(V.bool (x0 == (11 : Int))))] 9) ?_;rcases tf (x0 == (11 : Int)) with h6101 | h6101
    · rw [ite_t h6101] at h; refine Rn.t h6101 ?_;refine Run.skip ?_;refine Rn.c (mkE [(1,(V.int .u8 x1)),(10,(V.int .u8 x0)),(24,(V.bool (x0 == (11 : Int))))] 9) ?_;exact w46_j5 h hp
    · rw [ite_f h6101] at h; refine Rn.f h6101 ?_;refine Run.rgn ?_;refine Ro.t 2 ?_;refine Ro.d (mkE [(1,(V.int .u8 x1)),(10,(V.int .u8 x0)),(24,(V.bool (x0 == (12 : Int))))] 9) ?_;exact w46_j5 h hp
def F46_j3 (x0 : Int) (x1 : Int) (y6078 : Bool) : Option (Int × Bool) :=
  if y6078 then
    (F60 x1).bind fun y6080 =>
    if y6080 then
      some (x1,true)
    else
      F46_j1
  else
    if (x0 == (6 : Int)) then
      F46_j4 x0 x1 ((x0 == (6 : Int)))
    else
      if (x0 == (7 : Int)) then
        F46_j4 x0 x1 ((x0 == (7 : Int)))
      else
        if (x0 == (8 : Int)) then
          F46_j4 x0 x1 ((x0 == (8 : Int)))
        else
          F46_j4 x0 x1 ((x0 == (18 : Int)))
theorem w46_j3 {x0 : Int} {x1 : Int} {y6078 : Bool} {r : (Int × Bool)} (h : F46_j3 x0 x1 y6078 = some r) {H : Heap} {L : List Ob} (hp : HP H (L)) :
    Run T i46n79 (mkE [(1,(V.int .u8 x1)),(10,(V.int .u8 x0)),(9,(V.bool y6078))] 24) H (blk 0 (thn T (.clr [0,1,4,5,12,13,14,15,16,17,18,19,20,21,22,23,24,25,26,27,28,29,30,31,32,33,34,35,36,37,38,39,40,41,42,43,44,45,46] i46n86) (finE none [4,5] (Q46 L r)))) := by
  unfold F46_j3 at h;rcases tf y6078 with h6079 | h6079
  · rw [ite_t h6079] at h; refine Rn.t h6079 ?_;refine Rn.g ?_;refine Ro.t 1 ?_;obtain ⟨y6080,h6081,h⟩ := bind_some h;refine RunO.c1 (by kernel_rfl) (by kernel_rfl) (c60 h6081 _) ?_;refine Ro.d (mkE [(1,(V.int .u8 x1)),(25,(V.bool y6080))] 19) ?_;rcases tf y6080 with h6082 | h6082
    · rw [ite_t h6082] at h; refine Rn.t h6082 ?_;refine Rn.g ?_;refine Ro.t 3 ?_;refine Ro.d (mkE [(4,(V.int .u8 x1)),(0,(V.bool true))] 41) ?_;refine Run.ret ?_;have h := Option.some.inj h; subst h;exact ⟨(V.tup [(V.int .u8 x1),(V.bool true)]),(by kernel_rfl),(by kernel_rfl),hp⟩
    · rw [ite_f h6082] at h; refine Rn.f h6082 ?_;refine Run.skip ?_;refine Rn.c (mkE [] 47) ?_;exact w46_j1 h hp
  · rw [ite_f h6079] at h; refine Rn.f h6079 ?_;refine Run.seq ?_;refine Rn.g ?_;refine Ro.t 2 ?_;refine Ro.d (mkE [(1,(V.int .u8 x1)),(10,(V.int .u8 x0)),(16,(V.bool (x0 == (6 : Int))))] 17) ?_;rcases tf (x0 == (6 : Int)) with h6102 | h6102
    · rw [ite_t h6102] at h; refine Rn.t h6102 ?_;refine Run.skip ?_;refine Rn.c (mkE [(1,(V.int .u8 x1)),(10,(V.int .u8 x0)),(16,(V.bool (x0 == (6 : Int))))] 17) ?_;exact w46_j4 h hp
    · rw [ite_f h6102] at h; refine Rn.f h6102 ?_;refine Rn.g ?_;refine Ro.t 2 ?_;refine Ro.d (mkE [(1,(V.int .u8 x1)),(10,(V.int .u8 x0)),(16,(V.bool (x0 == (7 : Int))))] 17) ?_;rcases tf (x0 == (7 : Int)) with h6103 | h6103
      · rw [ite_t h6103] at h; refine Rn.t h6103 ?_;refine Run.skip ?_;refine Rn.c (mkE [(1,(V.int .u8 x1)),(10,(V.int .u8 x0)),(16,(V.bool (x0 == (7 : Int))))] 17) ?_;exact w46_j4 h hp
      · rw [ite_f h6103] at h; refine Rn.f h6103 ?_;refine Rn.g ?_;refine Ro.t 2 ?_;refine Ro.d (mkE [(1,(V.int .u8 x1)),(10,(V.int .u8 x0)),(16,(V.bool (x0 == (8 : Int))))] 17) ?_;rcases tf (x0 == (8 : Int)) with h6104 | h6104
        · rw [ite_t h6104] at h; refine Rn.t h6104 ?_;refine Run.skip ?_;refine Rn.c (mkE [(1,(V.int .u8 x1)),(10,(V.int .u8 x0)),(16,(V.bool (x0 == (8 : Int))))] 17) ?_;exact w46_j4 h hp
        · rw [ite_f h6104] at h; refine Rn.f h6104 ?_;refine Run.rgn ?_;refine Ro.t 2 ?_;refine Ro.d (mkE [(1,(V.int .u8 x1)),(10,(V.int .u8 x0)),(16,(V.bool (x0 == (18 : Int))))] 17) ?_;exact w46_j4 h hp
def F46_j2 (x0 : Int) (x1 : Int) (y6073 : Bool) : Option (Int × Bool) :=
  if y6073 then
    if (x1 != (1 : Int)) then
      some (x1,true)
    else
      F46_j1
  else
    if (x0 == (5 : Int)) then
      F46_j3 x0 x1 ((x0 == (5 : Int)))
    else
      if (x0 == (9 : Int)) then
        F46_j3 x0 x1 ((x0 == (9 : Int)))
      else
        F46_j3 x0 x1 ((x0 == (10 : Int)))
theorem w46_j2 {x0 : Int} {x1 : Int} {y6073 : Bool} {r : (Int × Bool)} (h : F46_j2 x0 x1 y6073 = some r) {H : Heap} {L : List Ob} (hp : HP H (L)) :
    Run T i46n81 (mkE [(1,(V.int .u8 x1)),(10,(V.int .u8 x0)),(0,(V.bool y6073))] 33) H (blk 0 (thn T (.clr [0,1,4,5,12,13,14,15,16,17,18,19,20,21,22,23,24,25,26,27,28,29,30,31,32,33,34,35,36,37,38,39,40,41,42,43,44,45,46] i46n86) (finE none [4,5] (Q46 L r)))) := by
  unfold F46_j2 at h;rcases tf y6073 with h6074 | h6074
  · rw [ite_t h6074] at h; refine Rn.t h6074 ?_;refine Rn.g ?_;refine Ro.t 2 ?_;refine Ro.d (mkE [(1,(V.int .u8 x1)),(18,(V.bool (x1 != (1 : Int))))] 26) ?_;rcases tf (x1 != (1 : Int)) with h6075 | h6075
    · rw [ite_t h6075] at h; refine Rn.t h6075 ?_;refine Rn.g ?_;refine Ro.t 3 ?_;refine Ro.d (mkE [(4,(V.int .u8 x1)),(0,(V.bool true))] 41) ?_;refine Run.ret ?_;have h := Option.some.inj h; subst h;exact ⟨(V.tup [(V.int .u8 x1),(V.bool true)]),(by kernel_rfl),(by kernel_rfl),hp⟩
    · rw [ite_f h6075] at h; refine Rn.f h6075 ?_;refine Run.skip ?_;refine Rn.c (mkE [] 47) ?_;exact w46_j1 h hp
  · rw [ite_f h6074] at h; refine Rn.f h6074 ?_;refine Run.seq ?_;refine Rn.g ?_;refine Ro.t 2 ?_;refine Ro.d (mkE [(1,(V.int .u8 x1)),(10,(V.int .u8 x0)),(9,(V.bool (x0 == (5 : Int))))] 24) ?_;rcases tf (x0 == (5 : Int)) with h6105 | h6105
    · rw [ite_t h6105] at h; refine Rn.t h6105 ?_;refine Run.skip ?_;refine Rn.c (mkE [(1,(V.int .u8 x1)),(10,(V.int .u8 x0)),(9,(V.bool (x0 == (5 : Int))))] 24) ?_;exact w46_j3 h hp
    · rw [ite_f h6105] at h; refine Rn.f h6105 ?_;refine Rn.g ?_;refine Ro.t 2 ?_;refine Ro.d (mkE [(1,(V.int .u8 x1)),(10,(V.int .u8 x0)),(9,(V.bool (x0 == (9 : Int))))] 24) ?_;rcases tf (x0 == (9 : Int)) with h6106 | h6106
      · rw [ite_t h6106] at h; refine Rn.t h6106 ?_;refine Run.skip ?_;refine Rn.c (mkE [(1,(V.int .u8 x1)),(10,(V.int .u8 x0)),(9,(V.bool (x0 == (9 : Int))))] 24) ?_;exact w46_j3 h hp
      · rw [ite_f h6106] at h; refine Rn.f h6106 ?_;refine Run.rgn ?_;refine Ro.t 2 ?_;refine Ro.d (mkE [(1,(V.int .u8 x1)),(10,(V.int .u8 x0)),(9,(V.bool (x0 == (10 : Int))))] 24) ?_;exact w46_j3 h hp
def F46 (x0 : Int) (x1 : Int) : Option (Int × Bool) :=
  if (decide (x1 < (1 : Int))) then
    some ((0 : Int),false)
  else
    if (decide (x1 > (5 : Int))) then
      some ((0 : Int),false)
    else
      if (x0 == (1 : Int)) then
        F46_j2 x0 x1 ((x0 == (1 : Int)))
      else
        if (x0 == (2 : Int)) then
          F46_j2 x0 x1 ((x0 == (2 : Int)))
        else
          if (x0 == (3 : Int)) then
            F46_j2 x0 x1 ((x0 == (3 : Int)))
          else
            if (x0 == (4 : Int)) then
              F46_j2 x0 x1 ((x0 == (4 : Int)))
            else
              F46_j2 x0 x1 ((x0 == (17 : Int)))
theorem w46 {x0 : Int} {x1 : Int} {r : (Int × Bool)} (h : F46 x0 x1 = some r) {H : Heap} {L : List Ob} (hp : HP H (L)) : Fn T 46 [(V.int .u8 x0),(V.int .u8 x1)] H (Q46 L r) := by
  refine Fn.enterE t46 (e0 := (mkE [(0,(V.int .u8 x0)),(0,(V.int .u8 x1))] 45)) (by kernel_rfl) ?_;show Run T (.clr [] i46n89) _ _ (finE none [4,5] (Q46 L r));refine Rn.k (mkE [(0,(V.int .u8 x0)),(0,(V.int .u8 x1))] 45) ?_;unfold F46 at h;refine Rn.g ?_;refine Ro.t 2 ?_;refine Ro.d (mkE [(0,(V.int .u8 x0)),(0,(V.int .u8 x1))] 45) ?_;refine Run.seq ?_;refine Rn.g ?_;refine Ro.t 1 ?_;rcases tf (decide (x1 < (1 : Int))) with h6025 | h6025
  · rw [ite_t h6025] at h; refine Ro.p (bool_of h6025) ?_;refine Ro.t 4 ?_;refine Ro.d (mkE [(0,(V.int .u8 x0)),(0,(V.int .u8 x1)),(9,(V.bool true))] 35) ?_;refine Run.condT (by kernel_rfl) ?_;refine Rn.g ?_;refine Ro.t 2 ?_;refine Ro.d (mkE [(4,(V.int .u8 (0 : Int))),(0,(V.bool false))] 41) ?_;refine Run.ret ?_;have h := Option.some.inj h; subst h;exact ⟨(V.tup [(V.int .u8 (0 : Int)),(V.bool false)]),(by kernel_rfl),(by kernel_rfl),hp⟩
  · rw [ite_f h6025] at h; refine Ro.p (bool_of h6025) ?_;refine Ro.t 4 ?_;refine Ro.d (mkE [(0,(V.int .u8 x0)),(0,(V.int .u8 x1)),(9,(V.bool (decide (x1 > (5 : Int)))))] 35) ?_;rcases tf (decide (x1 > (5 : Int))) with h6026 | h6026
    · rw [ite_t h6026] at h; refine Rn.t h6026 ?_;refine Rn.g ?_;refine Ro.t 2 ?_;refine Ro.d (mkE [(4,(V.int .u8 (0 : Int))),(0,(V.bool false))] 41) ?_;refine Run.ret ?_;have h := Option.some.inj h; subst h;exact ⟨(V.tup [(V.int .u8 (0 : Int)),(V.bool false)]),(by kernel_rfl),(by kernel_rfl),hp⟩
    · rw [ite_f h6026] at h; refine Rn.f h6026 ?_;refine Run.skip ?_;refine Rn.c (mkE [(0,(V.int .u8 x0)),(0,(V.int .u8 x1))] 45) ?_;refine Run.seq ?_;refine Rn.g ?_;refine Ro.t 1 ?_;refine Ro.d (mkE [(1,(V.int .u8 x1)),(10,(V.int .u8 x0))] 34) ?_;refine Run.block ?_;refine Run.seq ?_;refine Rn.g ?_;refine Ro.t 2 ?_;refine Ro.d (mkE [(1,(V.int .u8 x1)),(10,(V.int .u8 x0)),(0,(V.bool (x0 == (1 : Int))))] 33) ?_;rcases tf (x0 == (1 : Int)) with h6107 | h6107
      · rw [ite_t h6107] at h; refine Rn.t h6107 ?_;refine Run.skip ?_;refine Rn.c (mkE [(1,(V.int .u8 x1)),(10,(V.int .u8 x0)),(0,(V.bool (x0 == (1 : Int))))] 33) ?_;exact w46_j2 h hp
      · rw [ite_f h6107] at h; refine Rn.f h6107 ?_;refine Rn.g ?_;refine Ro.t 2 ?_;refine Ro.d (mkE [(1,(V.int .u8 x1)),(10,(V.int .u8 x0)),(0,(V.bool (x0 == (2 : Int))))] 33) ?_;rcases tf (x0 == (2 : Int)) with h6108 | h6108
        · rw [ite_t h6108] at h; refine Rn.t h6108 ?_;refine Run.skip ?_;refine Rn.c (mkE [(1,(V.int .u8 x1)),(10,(V.int .u8 x0)),(0,(V.bool (x0 == (2 : Int))))] 33) ?_;exact w46_j2 h hp
        · rw [ite_f h6108] at h; refine Rn.f h6108 ?_;refine Rn.g ?_;refine Ro.t 2 ?_;refine Ro.d (mkE [(1,(V.int .u8 x1)),(10,(V.int .u8 x0)),(0,(V.bool (x0 == (3 : Int))))] 33) ?_;rcases tf (x0 == (3 : Int)) with h6109 | h6109
          · rw [ite_t h6109] at h; refine Rn.t h6109 ?_;refine Run.skip ?_;refine Rn.c (mkE [(1,(V.int .u8 x1)),(10,(V.int .u8 x0)),(0,(V.bool (x0 == (3 : Int))))] 33) ?_;exact w46_j2 h hp
          · rw [ite_f h6109] at h; refine Rn.f h6109 ?_;refine Rn.g ?_;refine Ro.t 2 ?_;refine Ro.d (mkE [(1,(V.int .u8 x1)),(10,(V.int .u8 x0)),(0,(V.bool (x0 == (4 : Int))))] 33) ?_;rcases tf (x0 == (4 : Int)) with h6110 | h6110
            · rw [ite_t h6110] at h; refine Rn.t h6110 ?_;refine Run.skip ?_;refine Rn.c (mkE [(1,(V.int .u8 x1)),(10,(V.int .u8 x0)),(0,(V.bool (x0 == (4 : Int))))] 33) ?_;exact w46_j2 h hp
            · rw [ite_f h6110] at h; refine Rn.f h6110 ?_;refine Run.rgn ?_;refine Ro.t 2 ?_;refine Ro.d (mkE [(1,(V.int .u8 x1)),(10,(V.int .u8 x0)),(0,(V.bool (x0 == (17 : Int))))] 33) ?_;exact w46_j2 h hp
theorem c46 {x0 : Int} {x1 : Int} {r : (Int × Bool)} (h : F46 x0 x1 = some r) (s : Bool) : Fn T 46 [(V.int .u8 x0),(V.int .u8 x1)] [] (fun v hh => deep s hh deepN v = some (.tup [(EI .u8).e r.1,EB.e r.2])) := by
  refine (w46 h HP.nil).mono ?_;rintro v hh ⟨rfl,hp⟩;exact congrArg (Option.map V.tup) (omapc ((EI .u8).hd s hh 37 _ (.inr rfl)) (omapc (EB.hd s hh 37 _ (.inr rfl)) omapn))
abbrev Q47 (L : List Ob) (r : Bool) : V → Heap → Prop := fun v h => v = EB.e r ∧ HP h (L)
abbrev RR47 (L : List Ob) (r : Bool) : List V → Heap → Prop := fun e h => endR none [2] (Q47 L r) e h
def F47 (x0 : Int) : Option Bool :=
  if (x0 == (17 : Int)) then
    some true
  else
    some (x0 == (18 : Int))
theorem w47 {x0 : Int} {r : Bool} (h : F47 x0 = some r) {H : Heap} {L : List Ob} (hp : HP H (L)) : Fn T 47 [(V.int .u8 x0)] H (Q47 L r) := by
  refine Fn.enterE t47 (e0 := (mkE [(0,(V.int .u8 x0))] 8)) (by kernel_rfl) ?_;show Run T (.clr [] i47n3) _ _ (finE none [2] (Q47 L r));refine Rn.k (mkE [(0,(V.int .u8 x0))] 8) ?_;unfold F47 at h;refine Rn.g ?_;refine Ro.t 1 ?_;refine Ro.d (mkE [(0,(V.int .u8 x0))] 8) ?_;refine Rn.g ?_;refine Ro.t 1 ?_;rcases tf (x0 == (17 : Int)) with h6121 | h6121
  · rw [ite_t h6121] at h; refine Ro.p (bool_of h6121) ?_;refine Ro.t 5 ?_;refine Ro.d (mkE [(2,(V.bool true))] 6) ?_;refine Run.ret ?_;have h := Option.some.inj h; subst h;exact ⟨(V.bool true),(by kernel_rfl),(by kernel_rfl),hp⟩
  · rw [ite_f h6121] at h; refine Ro.p (bool_of h6121) ?_;refine Ro.t 5 ?_;refine Ro.d (mkE [(2,(V.bool (x0 == (18 : Int))))] 6) ?_;refine Run.ret ?_;have h := Option.some.inj h; subst h;exact ⟨(V.bool (x0 == (18 : Int))),(by kernel_rfl),(by kernel_rfl),hp⟩
theorem c47 {x0 : Int} {r : Bool} (h : F47 x0 = some r) (s : Bool) : Fn T 47 [(V.int .u8 x0)] [] (fun v hh => deep s hh deepN v = some (EB.e r)) := by
  refine (w47 h HP.nil).mono ?_;rintro v hh ⟨rfl,hp⟩;exact EB.hd s hh 38 _ (.inr rfl)
abbrev Q48 (L : List Ob) (r : Bool) : V → Heap → Prop := fun v h => v = EB.e r ∧ HP h (L)
abbrev RR48 (L : List Ob) (r : Bool) : List V → Heap → Prop := fun e h => endR none [4] (Q48 L r) e h
def F48 (x0 : Int) (x1 : Int) : Option Bool :=
  if (decide (x0 ≥ (2 : Int))) then
    if (decide (x0 ≤ (5 : Int))) then
      if (decide (x1 ≥ (2 : Int))) then
        some (decide (x1 ≤ (5 : Int)))
      else
        some false
    else
      some false
  else
    some false
theorem w48 {x0 : Int} {x1 : Int} {r : Bool} (h : F48 x0 x1 = some r) {H : Heap} {L : List Ob} (hp : HP H (L)) : Fn T 48 [(V.int .u8 x0),(V.int .u8 x1)] H (Q48 L r) := by
  refine Fn.enterE t48 (e0 := (mkE [(0,(V.int .u8 x0)),(0,(V.int .u8 x1))] 17)) (by kernel_rfl) ?_;show Run T (.clr [] i48n3) _ _ (finE none [4] (Q48 L r));refine Rn.k (mkE [(0,(V.int .u8 x0)),(0,(V.int .u8 x1))] 17) ?_;unfold F48 at h;refine Rn.g ?_;refine Ro.t 1 ?_;refine Ro.d (mkE [(0,(V.int .u8 x0)),(0,(V.int .u8 x1))] 17) ?_;refine Rn.g ?_;refine Ro.t 1 ?_;rcases tf (decide (x0 ≥ (2 : Int))) with h6140 | h6140
  · rw [ite_t h6140] at h; refine Ro.p (bool_of h6140) ?_;refine Ro.t 2 ?_;rcases tf (decide (x0 ≤ (5 : Int))) with h6141 | h6141
    · rw [ite_t h6141] at h; refine Ro.p (bool_of h6141) ?_;refine Ro.t 3 ?_;rcases tf (decide (x1 ≥ (2 : Int))) with h6142 | h6142
      · rw [ite_t h6142] at h; refine Ro.p (bool_of h6142) ?_;refine Ro.t 6 ?_;refine Ro.d (mkE [(4,(V.bool (decide (x1 ≤ (5 : Int)))))] 14) ?_;refine Run.ret ?_;have h := Option.some.inj h; subst h;exact ⟨(V.bool (decide (x1 ≤ (5 : Int)))),(by kernel_rfl),(by kernel_rfl),hp⟩
      · rw [ite_f h6142] at h; refine Ro.p (bool_of h6142) ?_;refine Ro.t 6 ?_;refine Ro.d (mkE [(4,(V.bool false))] 14) ?_;refine Run.ret ?_;have h := Option.some.inj h; subst h;exact ⟨(V.bool false),(by kernel_rfl),(by kernel_rfl),hp⟩
    · rw [ite_f h6141] at h; refine Ro.p (bool_of h6141) ?_;refine Ro.t 10 ?_;refine Ro.d (mkE [(4,(V.bool false))] 14) ?_;refine Run.ret ?_;have h := Option.some.inj h; subst h;exact ⟨(V.bool false),(by kernel_rfl),(by kernel_rfl),hp⟩
  · rw [ite_f h6140] at h; refine Ro.p (bool_of h6140) ?_;refine Ro.t 13 ?_;refine Ro.d (mkE [(4,(V.bool false))] 14) ?_;refine Run.ret ?_;have h := Option.some.inj h; subst h;exact ⟨(V.bool false),(by kernel_rfl),(by kernel_rfl),hp⟩
theorem c48 {x0 : Int} {x1 : Int} {r : Bool} (h : F48 x0 x1 = some r) (s : Bool) : Fn T 48 [(V.int .u8 x0),(V.int .u8 x1)] [] (fun v hh => deep s hh deepN v = some (EB.e r)) := by
  refine (w48 h HP.nil).mono ?_;rintro v hh ⟨rfl,hp⟩;exact EB.hd s hh 38 _ (.inr rfl)
abbrev Q50 (L : List Ob) (r : Bool) : V → Heap → Prop := fun v h => v = EB.e r ∧ HP h (L)
abbrev RR50 (L : List Ob) (r : Bool) : List V → Heap → Prop := fun e h => endR none [4] (Q50 L r) e h
def F50 (x0 : T_Code) (x1 : Int) : Option Bool :=
  if (decide (x0.fBits ≥ (1 : Int))) then
    if (decide (x0.fBits ≤ (256 : Int))) then
      if (decide (x0.fC ≥ (0 : Int))) then
        some (decide (x0.fC ≤ (IntKind.i64.wrap (x1 - (IntKind.i64.wrap x0.fBits)))))
      else
        some false
    else
      some false
  else
    some false
theorem w50 {x0 : T_Code} {x1 : Int} {r : Bool} (h : F50 x0 x1 = some r) {H : Heap} {L : List Ob} (hp : HP H (L)) : Fn T 50 [(E_Code.e x0),(iN x1)] H (Q50 L r) := by
  refine Fn.enterE t50 (e0 := (mkE [(0,(E_Code.e x0)),(0,(iN x1))] 26)) (by kernel_rfl) ?_;show Run T (.clr [] i50n3) _ _ (finE none [4] (Q50 L r));refine Rn.k (mkE [(0,(E_Code.e x0)),(0,(iN x1))] 26) ?_;unfold F50 at h;refine Rn.g ?_;refine Ro.t 2 ?_;refine Ro.d (mkE [(1,(iN x1)),(0,(V.fp (E_Code.e x0)))] 25) ?_;refine Rn.g ?_;refine Ro.t 2 ?_;rcases tf (decide (x0.fBits ≥ (1 : Int))) with h6176 | h6176
  · rw [ite_t h6176] at h; refine Ro.p (bool_of h6176) ?_;refine Ro.t 3 ?_;rcases tf (decide (x0.fBits ≤ (256 : Int))) with h6177 | h6177
    · rw [ite_t h6177] at h; refine Ro.p (bool_of h6177) ?_;refine Ro.t 4 ?_;rcases tf (decide (x0.fC ≥ (0 : Int))) with h6178 | h6178
      · rw [ite_t h6178] at h; refine Ro.p (bool_of h6178) ?_;refine Ro.t 12 ?_;refine Ro.d (mkE [(4,(V.bool (decide (x0.fC ≤ (IntKind.i64.wrap (x1 - (IntKind.i64.wrap x0.fBits)))))))] 23) ?_;refine Run.ret ?_;have h := Option.some.inj h; subst h;exact ⟨(V.bool (decide (x0.fC ≤ (IntKind.i64.wrap (x1 - (IntKind.i64.wrap x0.fBits)))))),(by kernel_rfl),(by kernel_rfl),hp⟩
      · rw [ite_f h6178] at h; refine Ro.p (bool_of h6178) ?_;refine Ro.t 12 ?_;refine Ro.d (mkE [(4,(V.bool false))] 23) ?_;refine Run.ret ?_;have h := Option.some.inj h; subst h;exact ⟨(V.bool false),(by kernel_rfl),(by kernel_rfl),hp⟩
    · rw [ite_f h6177] at h; refine Ro.p (bool_of h6177) ?_;refine Ro.t 17 ?_;refine Ro.d (mkE [(4,(V.bool false))] 23) ?_;refine Run.ret ?_;have h := Option.some.inj h; subst h;exact ⟨(V.bool false),(by kernel_rfl),(by kernel_rfl),hp⟩
  · rw [ite_f h6176] at h; refine Ro.p (bool_of h6176) ?_;refine Ro.t 21 ?_;refine Ro.d (mkE [(4,(V.bool false))] 23) ?_;refine Run.ret ?_;have h := Option.some.inj h; subst h;exact ⟨(V.bool false),(by kernel_rfl),(by kernel_rfl),hp⟩
theorem c50 {x0 : T_Code} {x1 : Int} {r : Bool} (h : F50 x0 x1 = some r) (s : Bool) : Fn T 50 [(E_Code.e x0),(iN x1)] [] (fun v hh => deep s hh deepN v = some (EB.e r)) := by
  refine (w50 h HP.nil).mono ?_;rintro v hh ⟨rfl,hp⟩;exact EB.hd s hh 38 _ (.inr rfl)
abbrev Q27 (L : List Ob) (r : Bool) : V → Heap → Prop := fun v h => v = EB.e r ∧ HP h (L)
abbrev RR27 (L : List Ob) (r : Bool) : List V → Heap → Prop := fun e h => endR none [6] (Q27 L r) e h
def F27_j2 (x0 : T_Code) (x1 : T_Unit) (x2 : Int) (y6496 : Bool) : Option Bool :=
  if y6496 then
    (F45 x0.fA).bind fun y6498 =>
    if y6498 then
      (F45 x0.fB).bind fun y6501 =>
      if y6501 then
        (F50 x0 x1.fFrame).bind fun y6504 =>
        some y6504
      else
        some false
    else
      some false
  else
    if (x0.fKind == (9 : Int)) then
      (F50 x0 x1.fFrame).bind fun y6507 =>
      some y6507
    else
      if (x0.fKind == (10 : Int)) then
        (F45 x0.fA).bind fun y6510 =>
        if y6510 then
          (F49 x0.fB ((List.length x1.fParams : Nat) : Int)).bind fun y6513 =>
          some y6513
        else
          some false
      else
        if (x0.fKind == (11 : Int)) then
          (F49 x0.fA (8 : Int)).bind fun y6516 =>
          if y6516 then
            (F45 x0.fB).bind fun y6519 =>
            some y6519
          else
            some false
        else
          if (x0.fKind == (12 : Int)) then
            (F49 x0.fA x2).bind fun y6522 =>
            some y6522
          else
            if (x0.fKind == (13 : Int)) then
              (F26 x0.fType).bind fun y6525 =>
              if y6525 then
                (F45 x0.fA).bind fun y6528 =>
                some y6528
              else
                some false
            else
              if (x0.fKind == (14 : Int)) then
                (F49 x0.fA ((List.length x1.fCode : Nat) : Int)).bind fun y6531 =>
                some y6531
              else
                if (x0.fKind == (15 : Int)) then
                  (F45 x0.fA).bind fun y6534 =>
                  if y6534 then
                    (F49 x0.fB ((List.length x1.fCode : Nat) : Int)).bind fun y6537 =>
                    if y6537 then
                      (F49 x0.fC ((List.length x1.fCode : Nat) : Int)).bind fun y6540 =>
                      some y6540
                    else
                      some false
                  else
                    some false
                else
                  if (x0.fKind == (17 : Int)) then
                    if (decide (x0.fTrap ≥ (1 : Int))) then
                      some (decide (x0.fTrap ≤ (3 : Int)))
                    else
                      some false
                  else
                    some false
theorem w27_j2 {x0 : T_Code} {x1 : T_Unit} {x2 : Int} {y6496 : Bool} {r : Bool} (h : F27_j2 x0 x1 x2 y6496 = some r) {H : Heap} {L : List Ob} (hp : HP H (L)) :
    Run T i27n77 (mkE [(2,(iN x2)),(0,(V.fp (E_Code.e x0))),(0,(V.fp (E_Unit.e x1))),(2,(iN (ln x1.fCode))),(9,(V.int .u8 x0.fKind)),(99,(V.bool y6496))] 94) H (blk 0 (thn T (.clr [2,3,4,6,7,8,9,16,17,18,19,20,21,22,23,24,25,26,27,28,29,30,31,32,33,34,35,36,37,38,39,40,41,42,43,44,45,46,47,48,49,50,51,52,53,54,55,56,57,58,59,60,61,62,63,64,65,66,67,68,69,70,71,72,73,74,75,76,77,78,79,80,81,82,83,84,85,86,87,88,89,90,91,92,93,94,95,96,97,98,99,100,101,102,103,104,105,106,107,108,109,110,111,112,113,114,115,116,117,118,119,120,121,122,123,124,125,126,127,128,129,130,131,132,133,134,135,136,137,138,139,140,141,142,143,144,145,146,147,148,149,150,151,152,153,154,155,156,157,158,159,160,161,162,163,164,165,166,167,168,169,170,171,172,173,174,175,176,177,178,179,180,181,182,183,184,185,186,187,188,189,190,191,192,193,194,195,196,197,198,199,200,201,202,203,204,205,206,207,208,209,210,211] i27n94) (finE none [6] (Q27 L r)))) := by
  unfold F27_j2 at h;rcases tf y6496 with h6497 | h6497
  · rw [ite_t h6497] at h; refine Rn.t h6497 ?_;refine Rn.g ?_;refine Ro.t 2 ?_;obtain ⟨y6498,h6499,h⟩ := bind_some h;rcases tf y6498 with h6500 | h6500
    · subst h6500; rw [if_pos rfl] at h;refine RunO.c1 (by kernel_rfl) (by kernel_rfl) (c45 h6499 _) ?_;refine Ro.t 3 ?_;obtain ⟨y6501,h6502,h⟩ := bind_some h;rcases tf y6501 with h6503 | h6503
      · subst h6503; rw [if_pos rfl] at h;refine RunO.c1 (by kernel_rfl) (by kernel_rfl) (c45 h6502 _) ?_;refine Ro.t 5 ?_;obtain ⟨y6504,h6505,h⟩ := bind_some h;refine RunO.c1 (by kernel_rfl) (by kernel_rfl) (c50 h6505 _) ?_;refine Ro.t 2 ?_;refine Ro.d (mkE [(6,(V.bool y6504))] 205) ?_;refine Run.ret ?_;have h := Option.some.inj h; subst h;exact ⟨(V.bool y6504),(by kernel_rfl),(by kernel_rfl),hp⟩
      · subst h6503; rw [if_neg (by decide)] at h;refine RunO.c1 (by kernel_rfl) (by kernel_rfl) (c45 h6502 _) ?_;refine Ro.t 8 ?_;refine Ro.d (mkE [(6,(V.bool false))] 205) ?_;refine Run.ret ?_;have h := Option.some.inj h; subst h;exact ⟨(V.bool false),(by kernel_rfl),(by kernel_rfl),hp⟩
    · subst h6500; rw [if_neg (by decide)] at h;refine RunO.c1 (by kernel_rfl) (by kernel_rfl) (c45 h6499 _) ?_;refine Ro.t 12 ?_;refine Ro.d (mkE [(6,(V.bool false))] 205) ?_;refine Run.ret ?_;have h := Option.some.inj h; subst h;exact ⟨(V.bool false),(by kernel_rfl),(by kernel_rfl),hp⟩
  · rw [ite_f h6497] at h; refine Rn.f h6497 ?_;refine Rn.g ?_;refine Ro.t 2 ?_;refine Ro.d (mkE [(2,(iN x2)),(0,(V.fp (E_Code.e x0))),(0,(V.fp (E_Unit.e x1))),(2,(iN (ln x1.fCode))),(9,(V.int .u8 x0.fKind)),(116,(V.bool (x0.fKind == (9 : Int))))] 77) ?_;rcases tf (x0.fKind == (9 : Int)) with h6506 | h6506
    · rw [ite_t h6506] at h; refine Rn.t h6506 ?_;refine Rn.g ?_;refine Ro.t 3 ?_;obtain ⟨y6507,h6508,h⟩ := bind_some h;refine RunO.c1 (by kernel_rfl) (by kernel_rfl) (c50 h6508 _) ?_;refine Ro.t 1 ?_;refine Ro.d (mkE [(6,(V.bool y6507))] 205) ?_;refine Run.ret ?_;have h := Option.some.inj h; subst h;exact ⟨(V.bool y6507),(by kernel_rfl),(by kernel_rfl),hp⟩
    · rw [ite_f h6506] at h; refine Rn.f h6506 ?_;refine Rn.g ?_;refine Ro.t 2 ?_;refine Ro.d (mkE [(2,(iN x2)),(0,(V.fp (E_Code.e x0))),(0,(V.fp (E_Unit.e x1))),(2,(iN (ln x1.fCode))),(9,(V.int .u8 x0.fKind)),(122,(V.bool (x0.fKind == (10 : Int))))] 71) ?_;rcases tf (x0.fKind == (10 : Int)) with h6509 | h6509
      · rw [ite_t h6509] at h; refine Rn.t h6509 ?_;refine Rn.g ?_;refine Ro.t 2 ?_;obtain ⟨y6510,h6511,h⟩ := bind_some h;rcases tf y6510 with h6512 | h6512
        · subst h6512; rw [if_pos rfl] at h;refine RunO.c1 (by kernel_rfl) (by kernel_rfl) (c45 h6511 _) ?_;refine Ro.t 5 ?_;refine Ro.p (len_fz (EI .u8) x1.fParams) ?_;obtain ⟨y6513,h6514,h⟩ := bind_some h;refine RunO.c1 (by kernel_rfl) (by kernel_rfl) (c49 h6514 _) ?_;refine Ro.t 2 ?_;refine Ro.d (mkE [(6,(V.bool y6513))] 205) ?_;refine Run.ret ?_;have h := Option.some.inj h; subst h;exact ⟨(V.bool y6513),(by kernel_rfl),(by kernel_rfl),hp⟩
        · subst h6512; rw [if_neg (by decide)] at h;refine RunO.c1 (by kernel_rfl) (by kernel_rfl) (c45 h6511 _) ?_;refine Ro.t 9 ?_;refine Ro.d (mkE [(6,(V.bool false))] 205) ?_;refine Run.ret ?_;have h := Option.some.inj h; subst h;exact ⟨(V.bool false),(by kernel_rfl),(by kernel_rfl),hp⟩
      · rw [ite_f h6509] at h; refine Rn.f h6509 ?_;refine Rn.g ?_;refine Ro.t 2 ?_;refine Ro.d (mkE [(2,(iN x2)),(0,(V.fp (E_Code.e x0))),(3,(iN (ln x1.fCode))),(9,(V.int .u8 x0.fKind)),(135,(V.bool (x0.fKind == (11 : Int))))] 58) ?_;rcases tf (x0.fKind == (11 : Int)) with h6515 | h6515
        · rw [ite_t h6515] at h; refine Rn.t h6515 ?_;refine Rn.g ?_;refine Ro.t 2 ?_;obtain ⟨y6516,h6517,h⟩ := bind_some h;rcases tf y6516 with h6518 | h6518
          · subst h6518; rw [if_pos rfl] at h;refine RunO.c1 (by kernel_rfl) (by kernel_rfl) (c49 h6517 _) ?_;refine Ro.t 3 ?_;obtain ⟨y6519,h6520,h⟩ := bind_some h;refine RunO.c1 (by kernel_rfl) (by kernel_rfl) (c45 h6520 _) ?_;refine Ro.t 2 ?_;refine Ro.d (mkE [(6,(V.bool y6519))] 205) ?_;refine Run.ret ?_;have h := Option.some.inj h; subst h;exact ⟨(V.bool y6519),(by kernel_rfl),(by kernel_rfl),hp⟩
          · subst h6518; rw [if_neg (by decide)] at h;refine RunO.c1 (by kernel_rfl) (by kernel_rfl) (c49 h6517 _) ?_;refine Ro.t 6 ?_;refine Ro.d (mkE [(6,(V.bool false))] 205) ?_;refine Run.ret ?_;have h := Option.some.inj h; subst h;exact ⟨(V.bool false),(by kernel_rfl),(by kernel_rfl),hp⟩
        · rw [ite_f h6515] at h; refine Rn.f h6515 ?_;refine Rn.g ?_;refine Ro.t 2 ?_;refine Ro.d (mkE [(2,(iN x2)),(0,(V.fp (E_Code.e x0))),(3,(iN (ln x1.fCode))),(9,(V.int .u8 x0.fKind)),(145,(V.bool (x0.fKind == (12 : Int))))] 48) ?_;rcases tf (x0.fKind == (12 : Int)) with h6521 | h6521
          · rw [ite_t h6521] at h; refine Rn.t h6521 ?_;refine Rn.g ?_;refine Ro.t 3 ?_;obtain ⟨y6522,h6523,h⟩ := bind_some h;refine RunO.c1 (by kernel_rfl) (by kernel_rfl) (c49 h6523 _) ?_;refine Ro.t 1 ?_;refine Ro.d (mkE [(6,(V.bool y6522))] 205) ?_;refine Run.ret ?_;have h := Option.some.inj h; subst h;exact ⟨(V.bool y6522),(by kernel_rfl),(by kernel_rfl),hp⟩
          · rw [ite_f h6521] at h; refine Rn.f h6521 ?_;refine Rn.g ?_;refine Ro.t 2 ?_;refine Ro.d (mkE [(3,(V.fp (E_Code.e x0))),(3,(iN (ln x1.fCode))),(9,(V.int .u8 x0.fKind)),(151,(V.bool (x0.fKind == (13 : Int))))] 42) ?_;rcases tf (x0.fKind == (13 : Int)) with h6524 | h6524
            · rw [ite_t h6524] at h; refine Rn.t h6524 ?_;refine Rn.g ?_;refine Ro.t 2 ?_;obtain ⟨y6525,h6526,h⟩ := bind_some h;rcases tf y6525 with h6527 | h6527
              · subst h6527; rw [if_pos rfl] at h;refine RunO.c1 (by kernel_rfl) (by kernel_rfl) (c26 h6526 _) ?_;refine Ro.t 3 ?_;obtain ⟨y6528,h6529,h⟩ := bind_some h;refine RunO.c1 (by kernel_rfl) (by kernel_rfl) (c45 h6529 _) ?_;refine Ro.t 2 ?_;refine Ro.d (mkE [(6,(V.bool y6528))] 205) ?_;refine Run.ret ?_;have h := Option.some.inj h; subst h;exact ⟨(V.bool y6528),(by kernel_rfl),(by kernel_rfl),hp⟩
              · subst h6527; rw [if_neg (by decide)] at h;refine RunO.c1 (by kernel_rfl) (by kernel_rfl) (c26 h6526 _) ?_;refine Ro.t 6 ?_;refine Ro.d (mkE [(6,(V.bool false))] 205) ?_;refine Run.ret ?_;have h := Option.some.inj h; subst h;exact ⟨(V.bool false),(by kernel_rfl),(by kernel_rfl),hp⟩
            · rw [ite_f h6524] at h; refine Rn.f h6524 ?_;refine Rn.g ?_;refine Ro.t 2 ?_;refine Ro.d (mkE [(3,(V.fp (E_Code.e x0))),(3,(iN (ln x1.fCode))),(9,(V.int .u8 x0.fKind)),(161,(V.bool (x0.fKind == (14 : Int))))] 32) ?_;rcases tf (x0.fKind == (14 : Int)) with h6530 | h6530
              · rw [ite_t h6530] at h; refine Rn.t h6530 ?_;refine Rn.g ?_;refine Ro.t 3 ?_;obtain ⟨y6531,h6532,h⟩ := bind_some h;refine RunO.c1 (by kernel_rfl) (by kernel_rfl) (c49 h6532 _) ?_;refine Ro.t 1 ?_;refine Ro.d (mkE [(6,(V.bool y6531))] 205) ?_;refine Run.ret ?_;have h := Option.some.inj h; subst h;exact ⟨(V.bool y6531),(by kernel_rfl),(by kernel_rfl),hp⟩
              · rw [ite_f h6530] at h; refine Rn.f h6530 ?_;refine Rn.g ?_;refine Ro.t 2 ?_;refine Ro.d (mkE [(3,(V.fp (E_Code.e x0))),(3,(iN (ln x1.fCode))),(9,(V.int .u8 x0.fKind)),(167,(V.bool (x0.fKind == (15 : Int))))] 26) ?_;rcases tf (x0.fKind == (15 : Int)) with h6533 | h6533
                · rw [ite_t h6533] at h; refine Rn.t h6533 ?_;refine Rn.g ?_;refine Ro.t 2 ?_;obtain ⟨y6534,h6535,h⟩ := bind_some h;rcases tf y6534 with h6536 | h6536
                  · subst h6536; rw [if_pos rfl] at h;refine RunO.c1 (by kernel_rfl) (by kernel_rfl) (c45 h6535 _) ?_;refine Ro.t 4 ?_;obtain ⟨y6537,h6538,h⟩ := bind_some h;rcases tf y6537 with h6539 | h6539
                    · subst h6539; rw [if_pos rfl] at h;refine RunO.c1 (by kernel_rfl) (by kernel_rfl) (c49 h6538 _) ?_;refine Ro.t 5 ?_;obtain ⟨y6540,h6541,h⟩ := bind_some h;refine RunO.c1 (by kernel_rfl) (by kernel_rfl) (c49 h6541 _) ?_;refine Ro.t 2 ?_;refine Ro.d (mkE [(6,(V.bool y6540))] 205) ?_;refine Run.ret ?_;have h := Option.some.inj h; subst h;exact ⟨(V.bool y6540),(by kernel_rfl),(by kernel_rfl),hp⟩
                    · subst h6539; rw [if_neg (by decide)] at h;refine RunO.c1 (by kernel_rfl) (by kernel_rfl) (c49 h6538 _) ?_;refine Ro.t 8 ?_;refine Ro.d (mkE [(6,(V.bool false))] 205) ?_;refine Run.ret ?_;have h := Option.some.inj h; subst h;exact ⟨(V.bool false),(by kernel_rfl),(by kernel_rfl),hp⟩
                  · subst h6536; rw [if_neg (by decide)] at h;refine RunO.c1 (by kernel_rfl) (by kernel_rfl) (c45 h6535 _) ?_;refine Ro.t 13 ?_;refine Ro.d (mkE [(6,(V.bool false))] 205) ?_;refine Run.ret ?_;have h := Option.some.inj h; subst h;exact ⟨(V.bool false),(by kernel_rfl),(by kernel_rfl),hp⟩
                · rw [ite_f h6533] at h; refine Rn.f h6533 ?_;refine Rn.g ?_;refine Ro.t 2 ?_;refine Ro.d (mkE [(3,(V.fp (E_Code.e x0))),(198,(V.bool (x0.fKind == (17 : Int))))] 9) ?_;rcases tf (x0.fKind == (17 : Int)) with h6542 | h6542
                  · rw [ite_t h6542] at h; refine Rn.t h6542 ?_;refine Rn.g ?_;refine Ro.t 2 ?_;rcases tf (decide (x0.fTrap ≥ (1 : Int))) with h6543 | h6543
                    · rw [ite_t h6543] at h; refine Ro.p (bool_of h6543) ?_;refine Ro.t 6 ?_;refine Ro.d (mkE [(6,(V.bool (decide (x0.fTrap ≤ (3 : Int)))))] 205) ?_;refine Run.ret ?_;have h := Option.some.inj h; subst h;exact ⟨(V.bool (decide (x0.fTrap ≤ (3 : Int)))),(by kernel_rfl),(by kernel_rfl),hp⟩
                    · rw [ite_f h6543] at h; refine Ro.p (bool_of h6543) ?_;refine Ro.t 6 ?_;refine Ro.d (mkE [(6,(V.bool false))] 205) ?_;refine Run.ret ?_;have h := Option.some.inj h; subst h;exact ⟨(V.bool false),(by kernel_rfl),(by kernel_rfl),hp⟩
                  · rw [ite_f h6542] at h; refine Rn.f h6542 ?_;refine Run.skip ?_;refine Rn.c (mkE [] 212) ?_;refine Rn.g ?_;refine Ro.t 1 ?_;refine Ro.d (mkE [(6,(V.bool false))] 205) ?_;refine Run.ret ?_;have h := Option.some.inj h; subst h;exact ⟨(V.bool false),(by kernel_rfl),(by kernel_rfl),hp⟩
def F27_j1 (x0 : T_Code) (x1 : T_Unit) (x2 : Int) (y6440 : Bool) : Option Bool :=
  if y6440 then
    (F45 x0.fA).bind fun y6442 =>
    some y6442
  else
    if (x0.fKind == (2 : Int)) then
      (F45 x0.fA).bind fun y6445 =>
      if y6445 then
        (F45 x0.fB).bind fun y6448 =>
        some y6448
      else
        some false
    else
      if (x0.fKind == (3 : Int)) then
        (F46 x0.fOp x0.fType).bind fun y6451 =>
        if y6451.2 then
          (F45 x0.fA).bind fun y6454 =>
          if y6454 then
            (F45 x0.fB).bind fun y6457 =>
            if y6457 then
              (F47 x0.fOp).bind fun y6460 =>
              if y6460 then
                if (x0.fC == (0 : Int)) then
                  some true
                else
                  (F47 x0.fOp).bind fun y6464 =>
                  if y6464 then
                    some false
                  else
                    (F45 x0.fC).bind fun y6467 =>
                    some y6467
              else
                (F47 x0.fOp).bind fun y6469 =>
                if y6469 then
                  some false
                else
                  (F45 x0.fC).bind fun y6472 =>
                  some y6472
            else
              some false
          else
            some false
        else
          some false
      else
        if (x0.fKind == (4 : Int)) then
          (F48 x0.fTo x0.fType).bind fun y6475 =>
          if y6475 then
            (F45 x0.fA).bind fun y6478 =>
            if y6478 then
              (F45 x0.fB).bind fun y6481 =>
              some y6481
            else
              some false
          else
            some false
        else
          if (x0.fKind == (5 : Int)) then
            (F45 x0.fA).bind fun y6484 =>
            if y6484 then
              (F49 x0.fB x1.fFrame).bind fun y6487 =>
              some y6487
            else
              some false
          else
            if (x0.fKind == (6 : Int)) then
              (F49 x0.fA x1.fFrame).bind fun y6490 =>
              if y6490 then
                (F45 x0.fB).bind fun y6493 =>
                some y6493
              else
                some false
            else
              if (x0.fKind == (7 : Int)) then
                F27_j2 x0 x1 x2 ((x0.fKind == (7 : Int)))
              else
                F27_j2 x0 x1 x2 ((x0.fKind == (8 : Int)))
theorem w27_j1 {x0 : T_Code} {x1 : T_Unit} {x2 : Int} {y6440 : Bool} {r : Bool} (h : F27_j1 x0 x1 x2 y6440 = some r) {H : Heap} {L : List Ob} (hp : HP H (L)) :
    Run T i27n89 (mkE [(2,(iN x2)),(0,(V.fp (E_Code.e x0))),(0,(V.fp (E_Unit.e x1))),(2,(iN (ln x1.fCode))),(9,(V.int .u8 x0.fKind)),(0,(V.bool y6440))] 193) H (blk 0 (thn T (.clr [2,3,4,6,7,8,9,16,17,18,19,20,21,22,23,24,25,26,27,28,29,30,31,32,33,34,35,36,37,38,39,40,41,42,43,44,45,46,47,48,49,50,51,52,53,54,55,56,57,58,59,60,61,62,63,64,65,66,67,68,69,70,71,72,73,74,75,76,77,78,79,80,81,82,83,84,85,86,87,88,89,90,91,92,93,94,95,96,97,98,99,100,101,102,103,104,105,106,107,108,109,110,111,112,113,114,115,116,117,118,119,120,121,122,123,124,125,126,127,128,129,130,131,132,133,134,135,136,137,138,139,140,141,142,143,144,145,146,147,148,149,150,151,152,153,154,155,156,157,158,159,160,161,162,163,164,165,166,167,168,169,170,171,172,173,174,175,176,177,178,179,180,181,182,183,184,185,186,187,188,189,190,191,192,193,194,195,196,197,198,199,200,201,202,203,204,205,206,207,208,209,210,211] i27n94) (finE none [6] (Q27 L r)))) := by
  unfold F27_j1 at h;rcases tf y6440 with h6441 | h6441
  · rw [ite_t h6441] at h; refine Rn.t h6441 ?_;refine Rn.g ?_;refine Ro.t 2 ?_;obtain ⟨y6442,h6443,h⟩ := bind_some h;refine RunO.c1 (by kernel_rfl) (by kernel_rfl) (c45 h6443 _) ?_;refine Ro.t 1 ?_;refine Ro.d (mkE [(6,(V.bool y6442))] 205) ?_;refine Run.ret ?_;have h := Option.some.inj h; subst h;exact ⟨(V.bool y6442),(by kernel_rfl),(by kernel_rfl),hp⟩
  · rw [ite_f h6441] at h; refine Rn.f h6441 ?_;refine Rn.g ?_;refine Ro.t 2 ?_;refine Ro.d (mkE [(2,(iN x2)),(0,(V.fp (E_Code.e x0))),(0,(V.fp (E_Unit.e x1))),(2,(iN (ln x1.fCode))),(9,(V.int .u8 x0.fKind)),(6,(V.bool (x0.fKind == (2 : Int))))] 187) ?_;rcases tf (x0.fKind == (2 : Int)) with h6444 | h6444
    · rw [ite_t h6444] at h; refine Rn.t h6444 ?_;refine Rn.g ?_;refine Ro.t 2 ?_;obtain ⟨y6445,h6446,h⟩ := bind_some h;rcases tf y6445 with h6447 | h6447
      · subst h6447; rw [if_pos rfl] at h;refine RunO.c1 (by kernel_rfl) (by kernel_rfl) (c45 h6446 _) ?_;refine Ro.t 3 ?_;obtain ⟨y6448,h6449,h⟩ := bind_some h;refine RunO.c1 (by kernel_rfl) (by kernel_rfl) (c45 h6449 _) ?_;refine Ro.t 2 ?_;refine Ro.d (mkE [(6,(V.bool y6448))] 205) ?_;refine Run.ret ?_;have h := Option.some.inj h; subst h;exact ⟨(V.bool y6448),(by kernel_rfl),(by kernel_rfl),hp⟩
      · subst h6447; rw [if_neg (by decide)] at h;refine RunO.c1 (by kernel_rfl) (by kernel_rfl) (c45 h6446 _) ?_;refine Ro.t 6 ?_;refine Ro.d (mkE [(6,(V.bool false))] 205) ?_;refine Run.ret ?_;have h := Option.some.inj h; subst h;exact ⟨(V.bool false),(by kernel_rfl),(by kernel_rfl),hp⟩
    · rw [ite_f h6444] at h; refine Rn.f h6444 ?_;refine Rn.g ?_;refine Ro.t 2 ?_;refine Ro.d (mkE [(2,(iN x2)),(0,(V.fp (E_Code.e x0))),(0,(V.fp (E_Unit.e x1))),(2,(iN (ln x1.fCode))),(9,(V.int .u8 x0.fKind)),(16,(V.bool (x0.fKind == (3 : Int))))] 177) ?_;rcases tf (x0.fKind == (3 : Int)) with h6450 | h6450
      · rw [ite_t h6450] at h; refine Rn.t h6450 ?_;refine Rn.g ?_;refine Ro.t 4 ?_;obtain ⟨y6451,h6452,h⟩ := bind_some h;refine RunO.c1 (by kernel_rfl) (by kernel_rfl) (c46 h6452 _) ?_;refine Ro.t 5 ?_;refine Ro.d (mkE [(3,(V.fp (E_Code.e x0))),(5,(V.bool y6451.2))] 202) ?_;refine Rn.g ?_;rcases tf y6451.2 with h6453 | h6453
        · rw [ite_t h6453] at h; refine Ro.p (bool_of h6453) ?_;refine Ro.t 3 ?_;obtain ⟨y6454,h6455,h⟩ := bind_some h;rcases tf y6454 with h6456 | h6456
          · subst h6456; rw [if_pos rfl] at h;refine RunO.c1 (by kernel_rfl) (by kernel_rfl) (c45 h6455 _) ?_;refine Ro.t 4 ?_;obtain ⟨y6457,h6458,h⟩ := bind_some h;rcases tf y6457 with h6459 | h6459
            · subst h6459; rw [if_pos rfl] at h;refine RunO.c1 (by kernel_rfl) (by kernel_rfl) (c45 h6458 _) ?_;refine Ro.t 4 ?_;obtain ⟨y6460,h6461,h⟩ := bind_some h;rcases tf y6460 with h6462 | h6462
              · subst h6462; rw [if_pos rfl] at h;refine RunO.c1 (by kernel_rfl) (by kernel_rfl) (c47 h6461 _) ?_;refine Ro.t 3 ?_;rcases tf (x0.fC == (0 : Int)) with h6463 | h6463
                · rw [ite_t h6463] at h; refine Ro.p (bool_of h6463) ?_;refine Ro.t 14 ?_;refine Ro.d (mkE [(6,(V.bool true))] 205) ?_;refine Run.ret ?_;have h := Option.some.inj h; subst h;exact ⟨(V.bool true),(by kernel_rfl),(by kernel_rfl),hp⟩
                · rw [ite_f h6463] at h; refine Ro.p (bool_of h6463) ?_;refine Ro.t 4 ?_;obtain ⟨y6464,h6465,h⟩ := bind_some h;rcases tf y6464 with h6466 | h6466
                  · subst h6466; rw [if_pos rfl] at h;refine RunO.c1 (by kernel_rfl) (by kernel_rfl) (c47 h6465 _) ?_;refine Ro.t 9 ?_;refine Ro.d (mkE [(6,(V.bool false))] 205) ?_;refine Run.ret ?_;have h := Option.some.inj h; subst h;exact ⟨(V.bool false),(by kernel_rfl),(by kernel_rfl),hp⟩
                  · subst h6466; rw [if_neg (by decide)] at h;refine RunO.c1 (by kernel_rfl) (by kernel_rfl) (c47 h6465 _) ?_;refine Ro.t 4 ?_;obtain ⟨y6467,h6468,h⟩ := bind_some h;refine RunO.c1 (by kernel_rfl) (by kernel_rfl) (c45 h6468 _) ?_;refine Ro.t 4 ?_;refine Ro.d (mkE [(6,(V.bool y6467))] 205) ?_;refine Run.ret ?_;have h := Option.some.inj h; subst h;exact ⟨(V.bool y6467),(by kernel_rfl),(by kernel_rfl),hp⟩
              · subst h6462; rw [if_neg (by decide)] at h;refine RunO.c1 (by kernel_rfl) (by kernel_rfl) (c47 h6461 _) ?_;refine Ro.t 8 ?_;obtain ⟨y6469,h6470,h⟩ := bind_some h;rcases tf y6469 with h6471 | h6471
                · subst h6471; rw [if_pos rfl] at h;refine RunO.c1 (by kernel_rfl) (by kernel_rfl) (c47 h6470 _) ?_;refine Ro.t 9 ?_;refine Ro.d (mkE [(6,(V.bool false))] 205) ?_;refine Run.ret ?_;have h := Option.some.inj h; subst h;exact ⟨(V.bool false),(by kernel_rfl),(by kernel_rfl),hp⟩
                · subst h6471; rw [if_neg (by decide)] at h;refine RunO.c1 (by kernel_rfl) (by kernel_rfl) (c47 h6470 _) ?_;refine Ro.t 4 ?_;obtain ⟨y6472,h6473,h⟩ := bind_some h;refine RunO.c1 (by kernel_rfl) (by kernel_rfl) (c45 h6473 _) ?_;refine Ro.t 4 ?_;refine Ro.d (mkE [(6,(V.bool y6472))] 205) ?_;refine Run.ret ?_;have h := Option.some.inj h; subst h;exact ⟨(V.bool y6472),(by kernel_rfl),(by kernel_rfl),hp⟩
            · subst h6459; rw [if_neg (by decide)] at h;refine RunO.c1 (by kernel_rfl) (by kernel_rfl) (c45 h6458 _) ?_;refine Ro.t 23 ?_;refine Ro.d (mkE [(6,(V.bool false))] 205) ?_;refine Run.ret ?_;have h := Option.some.inj h; subst h;exact ⟨(V.bool false),(by kernel_rfl),(by kernel_rfl),hp⟩
          · subst h6456; rw [if_neg (by decide)] at h;refine RunO.c1 (by kernel_rfl) (by kernel_rfl) (c45 h6455 _) ?_;refine Ro.t 28 ?_;refine Ro.d (mkE [(6,(V.bool false))] 205) ?_;refine Run.ret ?_;have h := Option.some.inj h; subst h;exact ⟨(V.bool false),(by kernel_rfl),(by kernel_rfl),hp⟩
        · rw [ite_f h6453] at h; refine Ro.p (bool_of h6453) ?_;refine Ro.t 32 ?_;refine Ro.d (mkE [(6,(V.bool false))] 205) ?_;refine Run.ret ?_;have h := Option.some.inj h; subst h;exact ⟨(V.bool false),(by kernel_rfl),(by kernel_rfl),hp⟩
      · rw [ite_f h6450] at h; refine Rn.f h6450 ?_;refine Rn.g ?_;refine Ro.t 2 ?_;refine Ro.d (mkE [(2,(iN x2)),(0,(V.fp (E_Code.e x0))),(0,(V.fp (E_Unit.e x1))),(2,(iN (ln x1.fCode))),(9,(V.int .u8 x0.fKind)),(58,(V.bool (x0.fKind == (4 : Int))))] 135) ?_;rcases tf (x0.fKind == (4 : Int)) with h6474 | h6474
        · rw [ite_t h6474] at h; refine Rn.t h6474 ?_;refine Rn.g ?_;refine Ro.t 4 ?_;obtain ⟨y6475,h6476,h⟩ := bind_some h;rcases tf y6475 with h6477 | h6477
          · subst h6477; rw [if_pos rfl] at h;refine RunO.c1 (by kernel_rfl) (by kernel_rfl) (c48 h6476 _) ?_;refine Ro.t 3 ?_;obtain ⟨y6478,h6479,h⟩ := bind_some h;rcases tf y6478 with h6480 | h6480
            · subst h6480; rw [if_pos rfl] at h;refine RunO.c1 (by kernel_rfl) (by kernel_rfl) (c45 h6479 _) ?_;refine Ro.t 4 ?_;obtain ⟨y6481,h6482,h⟩ := bind_some h;refine RunO.c1 (by kernel_rfl) (by kernel_rfl) (c45 h6482 _) ?_;refine Ro.t 2 ?_;refine Ro.d (mkE [(6,(V.bool y6481))] 205) ?_;refine Run.ret ?_;have h := Option.some.inj h; subst h;exact ⟨(V.bool y6481),(by kernel_rfl),(by kernel_rfl),hp⟩
            · subst h6480; rw [if_neg (by decide)] at h;refine RunO.c1 (by kernel_rfl) (by kernel_rfl) (c45 h6479 _) ?_;refine Ro.t 7 ?_;refine Ro.d (mkE [(6,(V.bool false))] 205) ?_;refine Run.ret ?_;have h := Option.some.inj h; subst h;exact ⟨(V.bool false),(by kernel_rfl),(by kernel_rfl),hp⟩
          · subst h6477; rw [if_neg (by decide)] at h;refine RunO.c1 (by kernel_rfl) (by kernel_rfl) (c48 h6476 _) ?_;refine Ro.t 11 ?_;refine Ro.d (mkE [(6,(V.bool false))] 205) ?_;refine Run.ret ?_;have h := Option.some.inj h; subst h;exact ⟨(V.bool false),(by kernel_rfl),(by kernel_rfl),hp⟩
        · rw [ite_f h6474] at h; refine Rn.f h6474 ?_;refine Rn.g ?_;refine Ro.t 2 ?_;refine Ro.d (mkE [(2,(iN x2)),(0,(V.fp (E_Code.e x0))),(0,(V.fp (E_Unit.e x1))),(2,(iN (ln x1.fCode))),(9,(V.int .u8 x0.fKind)),(75,(V.bool (x0.fKind == (5 : Int))))] 118) ?_;rcases tf (x0.fKind == (5 : Int)) with h6483 | h6483
          · rw [ite_t h6483] at h; refine Rn.t h6483 ?_;refine Rn.g ?_;refine Ro.t 2 ?_;obtain ⟨y6484,h6485,h⟩ := bind_some h;rcases tf y6484 with h6486 | h6486
            · subst h6486; rw [if_pos rfl] at h;refine RunO.c1 (by kernel_rfl) (by kernel_rfl) (c45 h6485 _) ?_;refine Ro.t 5 ?_;obtain ⟨y6487,h6488,h⟩ := bind_some h;refine RunO.c1 (by kernel_rfl) (by kernel_rfl) (c49 h6488 _) ?_;refine Ro.t 2 ?_;refine Ro.d (mkE [(6,(V.bool y6487))] 205) ?_;refine Run.ret ?_;have h := Option.some.inj h; subst h;exact ⟨(V.bool y6487),(by kernel_rfl),(by kernel_rfl),hp⟩
            · subst h6486; rw [if_neg (by decide)] at h;refine RunO.c1 (by kernel_rfl) (by kernel_rfl) (c45 h6485 _) ?_;refine Ro.t 8 ?_;refine Ro.d (mkE [(6,(V.bool false))] 205) ?_;refine Run.ret ?_;have h := Option.some.inj h; subst h;exact ⟨(V.bool false),(by kernel_rfl),(by kernel_rfl),hp⟩
          · rw [ite_f h6483] at h; refine Rn.f h6483 ?_;refine Rn.g ?_;refine Ro.t 2 ?_;refine Ro.d (mkE [(2,(iN x2)),(0,(V.fp (E_Code.e x0))),(0,(V.fp (E_Unit.e x1))),(2,(iN (ln x1.fCode))),(9,(V.int .u8 x0.fKind)),(87,(V.bool (x0.fKind == (6 : Int))))] 106) ?_;rcases tf (x0.fKind == (6 : Int)) with h6489 | h6489
            · rw [ite_t h6489] at h; refine Rn.t h6489 ?_;refine Rn.g ?_;refine Ro.t 4 ?_;obtain ⟨y6490,h6491,h⟩ := bind_some h;rcases tf y6490 with h6492 | h6492
              · subst h6492; rw [if_pos rfl] at h;refine RunO.c1 (by kernel_rfl) (by kernel_rfl) (c49 h6491 _) ?_;refine Ro.t 3 ?_;obtain ⟨y6493,h6494,h⟩ := bind_some h;refine RunO.c1 (by kernel_rfl) (by kernel_rfl) (c45 h6494 _) ?_;refine Ro.t 2 ?_;refine Ro.d (mkE [(6,(V.bool y6493))] 205) ?_;refine Run.ret ?_;have h := Option.some.inj h; subst h;exact ⟨(V.bool y6493),(by kernel_rfl),(by kernel_rfl),hp⟩
              · subst h6492; rw [if_neg (by decide)] at h;refine RunO.c1 (by kernel_rfl) (by kernel_rfl) (c49 h6491 _) ?_;refine Ro.t 6 ?_;refine Ro.d (mkE [(6,(V.bool false))] 205) ?_;refine Run.ret ?_;have h := Option.some.inj h; subst h;exact ⟨(V.bool false),(by kernel_rfl),(by kernel_rfl),hp⟩
            · rw [ite_f h6489] at h; refine Rn.f h6489 ?_;refine Run.seq ?_;refine Rn.g ?_;refine Ro.t 2 ?_;refine Ro.d (mkE [(2,(iN x2)),(0,(V.fp (E_Code.e x0))),(0,(V.fp (E_Unit.e x1))),(2,(iN (ln x1.fCode))),(9,(V.int .u8 x0.fKind)),(99,(V.bool (x0.fKind == (7 : Int))))] 94) ?_;rcases tf (x0.fKind == (7 : Int)) with h6544 | h6544
              · rw [ite_t h6544] at h; refine Rn.t h6544 ?_;refine Run.skip ?_;refine Rn.c (mkE [(2,(iN x2)),(0,(V.fp (E_Code.e x0))),(0,(V.fp (E_Unit.e x1))),(2,(iN (ln x1.fCode))),(9,(V.int .u8 x0.fKind)),(99,(V.bool (x0.fKind == (7 : Int))))] 94) ?_;exact w27_j2 h hp
              · rw [ite_f h6544] at h; refine Rn.f h6544 ?_;refine Run.rgn ?_;refine Ro.t 2 ?_;refine Ro.d (mkE [(2,(iN x2)),(0,(V.fp (E_Code.e x0))),(0,(V.fp (E_Unit.e x1))),(2,(iN (ln x1.fCode))),(9,(V.int .u8 x0.fKind)),(99,(V.bool (x0.fKind == (8 : Int))))] 94) ?_;exact w27_j2 h hp
def F27 (x0 : T_Code) (x1 : T_Unit) (x2 : Int) : Option Bool :=
  (F44 x0).bind fun y6329 =>
  if (!y6329) then
    some false
  else
    if (x0.fKind == (1 : Int)) then
      F27_j1 x0 x1 x2 ((x0.fKind == (1 : Int)))
    else
      F27_j1 x0 x1 x2 ((x0.fKind == (16 : Int)))
theorem w27 {x0 : T_Code} {x1 : T_Unit} {x2 : Int} {r : Bool} (h : F27 x0 x1 x2 = some r) {H : Heap} {L : List Ob} (hp : HP H (L)) : Fn T 27 [(E_Code.e x0),(E_Unit.e x1),(iN x2)] H (Q27 L r) := by
  refine Fn.enterE t27 (e0 := (mkE [(0,(E_Code.e x0)),(0,(E_Unit.e x1)),(0,(iN x2))] 209)) (by kernel_rfl) ?_;show Run T (.clr [] i27n98) _ _ (finE none [6] (Q27 L r));refine Rn.k (mkE [(0,(E_Code.e x0)),(0,(E_Unit.e x1)),(0,(iN x2))] 209) ?_;unfold F27 at h;refine Rn.g ?_;refine Ro.t 3 ?_;refine Ro.d (mkE [(2,(iN x2)),(0,(V.fp (E_Code.e x0))),(0,(V.fp (E_Unit.e x1)))] 207) ?_;refine Run.seq ?_;refine Rn.g ?_;refine Ro.t 1 ?_;obtain ⟨y6329,h6330,h⟩ := bind_some h;refine RunO.c1 (by kernel_rfl) (by kernel_rfl) (c44 h6330 _) ?_;refine Ro.t 1 ?_;refine Ro.d (mkE [(2,(iN x2)),(0,(V.fp (E_Code.e x0))),(0,(V.fp (E_Unit.e x1))),(7,(V.bool (!y6329)))] 199) ?_;rcases tf (!y6329) with h6331 | h6331
  · rw [ite_t h6331] at h; refine Rn.t h6331 ?_;refine Rn.g ?_;refine Ro.t 1 ?_;refine Ro.d (mkE [(6,(V.bool false))] 205) ?_;refine Run.ret ?_;have h := Option.some.inj h; subst h;exact ⟨(V.bool false),(by kernel_rfl),(by kernel_rfl),hp⟩
  · rw [ite_f h6331] at h; refine Rn.f h6331 ?_;refine Run.skip ?_;refine Rn.c (mkE [(2,(iN x2)),(0,(V.fp (E_Code.e x0))),(0,(V.fp (E_Unit.e x1)))] 207) ?_;refine Rn.g ?_;refine Ro.t 2 ?_;refine Ro.p (len_fz E_Code x1.fCode) ?_;refine Ro.t 1 ?_;refine Ro.d (mkE [(2,(iN x2)),(0,(V.fp (E_Code.e x0))),(0,(V.fp (E_Unit.e x1))),(2,(iN (ln x1.fCode)))] 204) ?_;refine Run.seq ?_;refine Rn.g ?_;refine Ro.t 2 ?_;refine Ro.d (mkE [(2,(iN x2)),(0,(V.fp (E_Code.e x0))),(0,(V.fp (E_Unit.e x1))),(2,(iN (ln x1.fCode))),(9,(V.int .u8 x0.fKind))] 194) ?_;refine Run.block ?_;refine Run.seq ?_;refine Rn.g ?_;refine Ro.t 2 ?_;refine Ro.d (mkE [(2,(iN x2)),(0,(V.fp (E_Code.e x0))),(0,(V.fp (E_Unit.e x1))),(2,(iN (ln x1.fCode))),(9,(V.int .u8 x0.fKind)),(0,(V.bool (x0.fKind == (1 : Int))))] 193) ?_;rcases tf (x0.fKind == (1 : Int)) with h6545 | h6545
    · rw [ite_t h6545] at h; refine Rn.t h6545 ?_;refine Run.skip ?_;refine Rn.c (mkE [(2,(iN x2)),(0,(V.fp (E_Code.e x0))),(0,(V.fp (E_Unit.e x1))),(2,(iN (ln x1.fCode))),(9,(V.int .u8 x0.fKind)),(0,(V.bool (x0.fKind == (1 : Int))))] 193) ?_;exact w27_j1 h hp
    · rw [ite_f h6545] at h; refine Rn.f h6545 ?_;refine Run.rgn ?_;refine Ro.t 2 ?_;refine Ro.d (mkE [(2,(iN x2)),(0,(V.fp (E_Code.e x0))),(0,(V.fp (E_Unit.e x1))),(2,(iN (ln x1.fCode))),(9,(V.int .u8 x0.fKind)),(0,(V.bool (x0.fKind == (16 : Int))))] 193) ?_;exact w27_j1 h hp
theorem c27 {x0 : T_Code} {x1 : T_Unit} {x2 : Int} {r : Bool} (h : F27 x0 x1 x2 = some r) (s : Bool) : Fn T 27 [(E_Code.e x0),(E_Unit.e x1),(iN x2)] [] (fun v hh => deep s hh deepN v = some (EB.e r)) := by
  refine (w27 h HP.nil).mono ?_;rintro v hh ⟨rfl,hp⟩;exact EB.hd s hh 38 _ (.inr rfl)
abbrev Q16 (L : List Ob) (r : Bool) : V → Heap → Prop := fun v h => v = EB.e r ∧ HP h (L)
abbrev RR16 (L : List Ob) (r : Bool) : List V → Heap → Prop := fun e h => endR none [4] (Q16 L r) e h
abbrev I16_1 (x0 : T_Unit) (x1 : Int) (L : List Ob) : (Int) → List V → Heap → Prop := fun s e h => e = (mkE [(1,(iN x1)),(0,(V.fp (E_Unit.e x0))),(2,(iN s))] 73) ∧ HP h (L)
abbrev J16_1 (x0 : T_Unit) (x1 : Int) (L : List Ob) : Unit → Nat → List V → Heap → Prop := fun a i e h => i = 0 ∧ clrEnv [4,5,34,35,36,37,38,39,40,41,42,43,44,45,46,47] e = (mkE [(1,(iN x1)),(0,(V.fp (E_Unit.e x0)))] 76) ∧ HP h (L)
def F16_1_b (x0 : T_Unit) (x1 : Int) (y6596 : Int) : Option (Stp (Int) Bool Unit) :=
  if (decide (y6596 < ((List.length x0.fParams : Nat) : Int))) then
    (idx x0.fParams y6596).bind fun y6616 =>
    (F26 y6616).bind fun y6618 =>
    if (!y6618) then
      some (.ret false)
    else
      some (.next ((IntKind.i64.wrap (y6596 + (1 : Int)))))
  else
    some (.go ())
theorem w16_1_b {x0 : T_Unit} {x1 : Int} {y6596 : Int} {t : (Stp (Int) Bool Unit)} (h : F16_1_b x0 x1 y6596 = some t) {H : Heap} {L : List Ob} (hp : HP H (L)) :
    Run T i16n18 (mkE [(1,(iN x1)),(0,(V.fp (E_Unit.e x0))),(2,(iN y6596))] 73) H (stp [4,34,35,36,37,38,39,40,41,42,43,44,45,46,47] (I16_1 x0 x1 L) (RR16 L) (J16_1 x0 x1 L) t) := by
  unfold F16_1_b at h;refine Run.seq ?_;refine Rn.g ?_;refine Ro.t 3 ?_;refine Ro.p (len_fz (EI .u8) x0.fParams) ?_;refine Ro.t 1 ?_;refine Ro.d (mkE [(1,(iN x1)),(0,(V.fp (E_Unit.e x0))),(2,(iN y6596)),(32,(V.bool (decide (y6596 < (ln x0.fParams)))))] 40) ?_;rcases tf (decide (y6596 < (ln x0.fParams))) with h6610 | h6610
  · rw [ite_t h6610] at h; refine Rn.t h6610 ?_;refine Run.skip ?_;refine Rn.c (mkE [(1,(iN x1)),(0,(V.fp (E_Unit.e x0))),(2,(iN y6596))] 73) ?_;refine Run.seq ?_;refine Run.block ?_;refine Rn.g ?_;refine Ro.t 3 ?_;obtain ⟨y6616,h6617,h⟩ := bind_some h;refine Ro.p (idx_fz (EI .u8) .i64 h6617) ?_;refine Ro.t 1 ?_;obtain ⟨y6618,h6619,h⟩ := bind_some h;refine RunO.c1 (by kernel_rfl) (by kernel_rfl) (c26 h6619 _) ?_;refine Ro.t 1 ?_;refine Ro.d (mkE [(1,(iN x1)),(0,(V.fp (E_Unit.e x0))),(2,(iN y6596)),(41,(V.bool (!y6618)))] 31) ?_;rcases tf (!y6618) with h6620 | h6620
    · rw [ite_t h6620] at h; refine Rn.t h6620 ?_;refine Rn.g ?_;refine Ro.t 1 ?_;refine Ro.d (mkE [(4,(V.bool false))] 74) ?_;refine Run.ret ?_;have h := Option.some.inj h; subst h;show RR16 L _ _ _;exact ⟨(V.bool false),(by kernel_rfl),(by kernel_rfl),hp⟩
    · rw [ite_f h6620] at h; refine Rn.f h6620 ?_;refine Run.skip ?_;refine Run.clrE (ts := [4,41,42,43,44,45,46,47]) (b := (.rgn i16r16)) (Q := (stp [4,34,35,36,37,38,39,40,41,42,43,44,45,46,47] (I16_1 x0 x1 L) (RR16 L) (J16_1 x0 x1 L) t)) (e' := (mkE [(1,(iN x1)),(0,(V.fp (E_Unit.e x0))),(2,(iN y6596))] 73)) (by kernel_rfl) ?_;refine Run.rgn ?_;refine Ro.t 3 ?_;refine RunO.nil ?_;have h := Option.some.inj h; subst h;show I16_1 x0 x1 L _ _ _;exact ⟨(by kernel_rfl),hp⟩
  · rw [ite_f h6610] at h; refine Rn.f h6610 ?_;refine Run.exit ?_;have h := Option.some.inj h; subst h;show J16_1 x0 x1 L () _ _ _;exact ⟨rfl,(by kernel_rfl),hp⟩
abbrev I16_2 (x0 : T_Unit) (x1 : Int) (L : List Ob) : (Int) → List V → Heap → Prop := fun s e h => e = (mkE [(1,(iN x1)),(0,(V.fp (E_Unit.e x0))),(3,(iN s))] 72) ∧ HP h (L)
abbrev J16_2 (x0 : T_Unit) (x1 : Int) (L : List Ob) : Unit → Nat → List V → Heap → Prop := fun a i e h => i = 2 ∧ clrEnv [1,4,6,48,49,50,51,52,53,54,55,56,57,58,59,60,61,62,63] e = (mkE [(2,(V.fp (E_Unit.e x0)))] 76) ∧ HP h (L)
def F16_2_b (x0 : T_Unit) (x1 : Int) (y6634 : Int) : Option (Stp (Int) Bool Unit) :=
  if (decide (y6634 < ((List.length x0.fCode : Nat) : Int))) then
    (idx x0.fCode y6634).bind fun y6654 =>
    (F27 y6654 x0 x1).bind fun y6656 =>
    if (!y6656) then
      some (.ret false)
    else
      some (.next ((IntKind.i64.wrap (y6634 + (1 : Int)))))
  else
    some (.go ())
theorem w16_2_b {x0 : T_Unit} {x1 : Int} {y6634 : Int} {t : (Stp (Int) Bool Unit)} (h : F16_2_b x0 x1 y6634 = some t) {H : Heap} {L : List Ob} (hp : HP H (L)) :
    Run T i16n34 (mkE [(1,(iN x1)),(0,(V.fp (E_Unit.e x0))),(3,(iN y6634))] 72) H (stp [4,48,49,50,51,52,53,54,55,56,57,58,59,60,61,62,63] (I16_2 x0 x1 L) (RR16 L) (J16_2 x0 x1 L) t) := by
  unfold F16_2_b at h;refine Run.seq ?_;refine Rn.g ?_;refine Ro.t 3 ?_;refine Ro.p (len_fz E_Code x0.fCode) ?_;refine Ro.t 1 ?_;refine Ro.d (mkE [(1,(iN x1)),(0,(V.fp (E_Unit.e x0))),(3,(iN y6634)),(45,(V.bool (decide (y6634 < (ln x0.fCode)))))] 26) ?_;rcases tf (decide (y6634 < (ln x0.fCode))) with h6648 | h6648
  · rw [ite_t h6648] at h; refine Rn.t h6648 ?_;refine Run.skip ?_;refine Rn.c (mkE [(1,(iN x1)),(0,(V.fp (E_Unit.e x0))),(3,(iN y6634))] 72) ?_;refine Run.seq ?_;refine Run.block ?_;refine Rn.g ?_;refine Ro.t 3 ?_;obtain ⟨y6654,h6655,h⟩ := bind_some h;refine Ro.p (idx_fz E_Code .i64 h6655) ?_;refine Ro.t 3 ?_;obtain ⟨y6656,h6657,h⟩ := bind_some h;refine RunO.c1 (by kernel_rfl) (by kernel_rfl) (c27 h6657 _) ?_;refine Ro.t 1 ?_;refine Ro.d (mkE [(1,(iN x1)),(0,(V.fp (E_Unit.e x0))),(3,(iN y6634)),(56,(V.bool (!y6656)))] 15) ?_;rcases tf (!y6656) with h6658 | h6658
    · rw [ite_t h6658] at h; refine Rn.t h6658 ?_;refine Rn.g ?_;refine Ro.t 1 ?_;refine Ro.d (mkE [(4,(V.bool false))] 74) ?_;refine Run.ret ?_;have h := Option.some.inj h; subst h;show RR16 L _ _ _;exact ⟨(V.bool false),(by kernel_rfl),(by kernel_rfl),hp⟩
    · rw [ite_f h6658] at h; refine Rn.f h6658 ?_;refine Run.skip ?_;refine Run.clrE (ts := [4,55,56,57,58,59,60,61,62,63]) (b := (.rgn i16r32)) (Q := (stp [4,48,49,50,51,52,53,54,55,56,57,58,59,60,61,62,63] (I16_2 x0 x1 L) (RR16 L) (J16_2 x0 x1 L) t)) (e' := (mkE [(1,(iN x1)),(0,(V.fp (E_Unit.e x0))),(3,(iN y6634))] 72)) (by kernel_rfl) ?_;refine Run.rgn ?_;refine Ro.t 3 ?_;refine RunO.nil ?_;have h := Option.some.inj h; subst h;show I16_2 x0 x1 L _ _ _;exact ⟨(by kernel_rfl),hp⟩
  · rw [ite_f h6648] at h; refine Rn.f h6648 ?_;refine Run.exit ?_;have h := Option.some.inj h; subst h;show J16_2 x0 x1 L () _ _ _;exact ⟨rfl,(by kernel_rfl),hp⟩
def F16 (x0 : T_Unit) (x1 : Int) : Option Bool :=
  if (decide (((List.length x0.fParams : Nat) : Int) > (8 : Int))) then
    some false
  else
    (F26 x0.fResult).bind fun y6578 =>
    if y6578 then
      if (decide (x0.fFrame < (0 : Int))) then
        some false
      else
        if (decide (x0.fFrame > (1073741824 : Int))) then
          some false
        else
          if (((List.length x0.fCode : Nat) : Int) == (0 : Int)) then
            some false
          else
            (iter (fun s : (Int) => F16_1_b x0 x1 s) FUEL ((0 : Int))).bind fun o => match o with
            | .ret r => some r
            | .go () =>
              (iter (fun s : (Int) => F16_2_b x0 x1 s) FUEL ((0 : Int))).bind fun o => match o with
              | .ret r => some r
              | .go () =>
                (idx x0.fCode (IntKind.i64.wrap (((List.length x0.fCode : Nat) : Int) - (1 : Int)))).bind fun y6660 =>
                if (decide (y6660.fKind ≥ (14 : Int))) then
                  some (decide (y6660.fKind ≤ (17 : Int)))
                else
                  some false
    else
      some false
theorem w16 {x0 : T_Unit} {x1 : Int} {r : Bool} (h : F16 x0 x1 = some r) {H : Heap} {L : List Ob} (hp : HP H (L)) : Fn T 16 [(E_Unit.e x0),(iN x1)] H (Q16 L r) := by
  refine Fn.enterE t16 (e0 := (mkE [(0,(E_Unit.e x0)),(0,(iN x1))] 77)) (by kernel_rfl) ?_;show Run T (.clr [] i16n45) _ _ (finE none [4] (Q16 L r));refine Rn.k (mkE [(0,(E_Unit.e x0)),(0,(iN x1))] 77) ?_;unfold F16 at h;refine Rn.g ?_;refine Ro.t 2 ?_;refine Ro.d (mkE [(1,(iN x1)),(0,(V.fp (E_Unit.e x0)))] 76) ?_;refine Run.seq ?_;refine Rn.g ?_;refine Ro.t 2 ?_;refine Ro.p (len_fz (EI .u8) x0.fParams) ?_;rcases tf (decide ((ln x0.fParams) > (8 : Int))) with h6577 | h6577
  · rw [ite_t h6577] at h; refine Ro.p (bool_of h6577) ?_;refine Ro.t 22 ?_;refine Ro.d (mkE [(1,(iN x1)),(0,(V.fp (E_Unit.e x0))),(30,(V.bool true))] 45) ?_;refine Run.condT (by kernel_rfl) ?_;refine Rn.g ?_;refine Ro.t 1 ?_;refine Ro.d (mkE [(4,(V.bool false))] 74) ?_;refine Run.ret ?_;have h := Option.some.inj h; subst h;exact ⟨(V.bool false),(by kernel_rfl),(by kernel_rfl),hp⟩
  · rw [ite_f h6577] at h; refine Ro.p (bool_of h6577) ?_;refine Ro.t 3 ?_;obtain ⟨y6578,h6579,h⟩ := bind_some h;rcases tf y6578 with h6580 | h6580
    · subst h6580; rw [if_pos rfl] at h;refine RunO.c1 (by kernel_rfl) (by kernel_rfl) (c26 h6579 _) ?_;refine Ro.t 5 ?_;rcases tf (decide (x0.fFrame < (0 : Int))) with h6581 | h6581
      · rw [ite_t h6581] at h; refine Ro.p (bool_of h6581) ?_;refine Ro.t 12 ?_;refine Ro.d (mkE [(1,(iN x1)),(0,(V.fp (E_Unit.e x0))),(30,(V.bool true))] 45) ?_;refine Run.condT (by kernel_rfl) ?_;refine Rn.g ?_;refine Ro.t 1 ?_;refine Ro.d (mkE [(4,(V.bool false))] 74) ?_;refine Run.ret ?_;have h := Option.some.inj h; subst h;exact ⟨(V.bool false),(by kernel_rfl),(by kernel_rfl),hp⟩
      · rw [ite_f h6581] at h; refine Ro.p (bool_of h6581) ?_;refine Ro.t 4 ?_;rcases tf (decide (x0.fFrame > (1073741824 : Int))) with h6582 | h6582
        · rw [ite_t h6582] at h; refine Ro.p (bool_of h6582) ?_;refine Ro.t 7 ?_;refine Ro.d (mkE [(1,(iN x1)),(0,(V.fp (E_Unit.e x0))),(30,(V.bool true))] 45) ?_;refine Run.condT (by kernel_rfl) ?_;refine Rn.g ?_;refine Ro.t 1 ?_;refine Ro.d (mkE [(4,(V.bool false))] 74) ?_;refine Run.ret ?_;have h := Option.some.inj h; subst h;exact ⟨(V.bool false),(by kernel_rfl),(by kernel_rfl),hp⟩
        · rw [ite_f h6582] at h; refine Ro.p (bool_of h6582) ?_;refine Ro.t 4 ?_;refine Ro.p (len_fz E_Code x0.fCode) ?_;refine Ro.t 2 ?_;refine Ro.d (mkE [(1,(iN x1)),(0,(V.fp (E_Unit.e x0))),(30,(V.bool ((ln x0.fCode) == (0 : Int))))] 45) ?_;rcases tf ((ln x0.fCode) == (0 : Int)) with h6583 | h6583
          · rw [ite_t h6583] at h; refine Rn.t h6583 ?_;refine Rn.g ?_;refine Ro.t 1 ?_;refine Ro.d (mkE [(4,(V.bool false))] 74) ?_;refine Run.ret ?_;have h := Option.some.inj h; subst h;exact ⟨(V.bool false),(by kernel_rfl),(by kernel_rfl),hp⟩
          · rw [ite_f h6583] at h; refine Rn.f h6583 ?_;refine Run.skip ?_;refine Rn.c (mkE [(1,(iN x1)),(0,(V.fp (E_Unit.e x0)))] 76) ?_;refine Run.seq ?_;refine Rn.g ?_;refine Ro.t 1 ?_;refine Ro.d (mkE [(1,(iN x1)),(0,(V.fp (E_Unit.e x0))),(2,(iN (0 : Int)))] 73) ?_;refine Run.block ?_;obtain ⟨o,h6621,h⟩ := bind_some h;refine (Run.iter (I := I16_1 x0 x1 L) (RR := RR16 L) (J := J16_1 x0 x1 L) (fun s e h' t hI hf => ?_) FUEL h6621 (by exact ⟨(by kernel_rfl),hp⟩)).mono ?_
            · obtain ⟨rfl,hp⟩ := hI; exact w16_1_b hf hp
            · rintro X e' H hq;cases o with
              | ret r => cases X <;> first | exact hq.elim | (cases h; exact hq)
              | go a =>
                cases X with | nrm => exact hq.elim | ret => exact hq.elim | ext i => ?_;obtain ⟨rfl,he,hp⟩ := hq
                dsimp only at h
                refine Run.clrE (ts := [4,5,34,35,36,37,38,39,40,41,42,43,44,45,46,47]) (b := i16n42) (Q := (finE none [4] (Q16 L r))) he ?_;refine Run.seq ?_;refine Rn.g ?_;refine Ro.t 1 ?_;refine Ro.d (mkE [(1,(iN x1)),(0,(V.fp (E_Unit.e x0))),(3,(iN (0 : Int)))] 72) ?_;refine Run.block ?_;obtain ⟨o,h6659,h⟩ := bind_some h;refine (Run.iter (I := I16_2 x0 x1 L) (RR := RR16 L) (J := J16_2 x0 x1 L) (fun s e h' t hI hf => ?_) FUEL h6659 (by exact ⟨(by kernel_rfl),hp⟩)).mono ?_
                · obtain ⟨rfl,hp⟩ := hI; exact w16_2_b hf hp
                · rintro X e' H hq;cases o with
                  | ret r => cases X <;> first | exact hq.elim | (cases h; exact hq)
                  | go a =>
                    cases X with | nrm => exact hq.elim | ret => exact hq.elim | ext i => ?_;obtain ⟨rfl,he,hp⟩ := hq
                    dsimp only at h
                    refine Run.clrE (ts := [1,4,6,48,49,50,51,52,53,54,55,56,57,58,59,60,61,62,63]) (b := i16n41) (Q := (finE none [4] (Q16 L r))) he ?_;refine Rn.g ?_;refine Ro.t 4 ?_;refine Ro.p (len_fz E_Code x0.fCode) ?_;refine Ro.t 1 ?_;obtain ⟨y6660,h6661,h⟩ := bind_some h;refine Ro.p (idx_fz E_Code .i64 h6661) ?_;refine Ro.t 3 ?_;refine Ro.d (mkE [(7,(V.int .u8 y6660.fKind))] 71) ?_;refine Rn.g ?_;refine Ro.t 1 ?_;rcases tf (decide (y6660.fKind ≥ (14 : Int))) with h6662 | h6662
                    · rw [ite_t h6662] at h; refine Ro.p (bool_of h6662) ?_;refine Ro.t 5 ?_;refine Ro.d (mkE [(4,(V.bool (decide (y6660.fKind ≤ (17 : Int)))))] 74) ?_;refine Run.ret ?_;have h := Option.some.inj h; subst h;exact ⟨(V.bool (decide (y6660.fKind ≤ (17 : Int)))),(by kernel_rfl),(by kernel_rfl),hp⟩
                    · rw [ite_f h6662] at h; refine Ro.p (bool_of h6662) ?_;refine Ro.t 5 ?_;refine Ro.d (mkE [(4,(V.bool false))] 74) ?_;refine Run.ret ?_;have h := Option.some.inj h; subst h;exact ⟨(V.bool false),(by kernel_rfl),(by kernel_rfl),hp⟩
    · subst h6580; rw [if_neg (by decide)] at h;refine RunO.c1 (by kernel_rfl) (by kernel_rfl) (c26 h6579 _) ?_;refine Ro.t 18 ?_;refine Ro.d (mkE [(1,(iN x1)),(0,(V.fp (E_Unit.e x0))),(30,(V.bool true))] 45) ?_;refine Run.condT (by kernel_rfl) ?_;refine Rn.g ?_;refine Ro.t 1 ?_;refine Ro.d (mkE [(4,(V.bool false))] 74) ?_;refine Run.ret ?_;have h := Option.some.inj h; subst h;exact ⟨(V.bool false),(by kernel_rfl),(by kernel_rfl),hp⟩
theorem c16 {x0 : T_Unit} {x1 : Int} {r : Bool} (h : F16 x0 x1 = some r) (s : Bool) : Fn T 16 [(E_Unit.e x0),(iN x1)] [] (fun v hh => deep s hh deepN v = some (EB.e r)) := by
  refine (w16 h HP.nil).mono ?_;rintro v hh ⟨rfl,hp⟩;exact EB.hd s hh 38 _ (.inr rfl)
abbrev Q7 (L : List Ob) (r : (Int × Int)) : V → Heap → Prop := fun v h => v = .tup [(EI .i64).e r.1,(EI .i64).e r.2] ∧ HP h (L)
abbrev RR7 (L : List Ob) (r : (Int × Int)) : List V → Heap → Prop := fun e h => endR none [2,3] (Q7 L r) e h
abbrev I7_1 (x0 : (List T_Unit)) (L : List Ob) : (Int) → List V → Heap → Prop := fun s e h => e = (mkE [(0,(Zl E_Unit x0)),(3,(iN s))] 18) ∧ HP h (L)
abbrev J7_1 (x0 : (List T_Unit)) (L : List Ob) : Unit → Nat → List V → Heap → Prop := fun a i e h => i = 0 ∧ clrEnv [0,2,3,4,8,9,10,11,12,13,14,15,16,17,18,19,20,21,22] e = (mkE [] 23) ∧ HP h (L)
def F7_1_b (x0 : (List T_Unit)) (y6698 : Int) : Option (Stp (Int) (Int × Int) Unit) :=
  if (decide (y6698 < ((List.length x0 : Nat) : Int))) then
    (idx x0 y6698).bind fun y6718 =>
    (F16 y6718 ((List.length x0 : Nat) : Int)).bind fun y6720 =>
    if (!y6720) then
      some (.ret ((4 : Int),y6698))
    else
      some (.next ((IntKind.i64.wrap (y6698 + (1 : Int)))))
  else
    some (.go ())
theorem w7_1_b {x0 : (List T_Unit)} {y6698 : Int} {t : (Stp (Int) (Int × Int) Unit)} (h : F7_1_b x0 y6698 = some t) {H : Heap} {L : List Ob} (hp : HP H (L)) :
    Run T i7n18 (mkE [(0,(Zl E_Unit x0)),(3,(iN y6698))] 18) H (stp [2,3,8,9,10,11,12,13,14,15,16,17,18,19,20,21,22] (I7_1 x0 L) (RR7 L) (J7_1 x0 L) t) := by
  unfold F7_1_b at h;refine Run.seq ?_;refine Rn.g ?_;refine Ro.t 2 ?_;refine Ro.p (len_fz E_Unit x0) ?_;refine Ro.t 1 ?_;refine Ro.d (mkE [(0,(Zl E_Unit x0)),(3,(iN y6698)),(6,(V.bool (decide (y6698 < (ln x0)))))] 11) ?_;rcases tf (decide (y6698 < (ln x0))) with h6712 | h6712
  · rw [ite_t h6712] at h; refine Rn.t h6712 ?_;refine Run.skip ?_;refine Rn.c (mkE [(0,(Zl E_Unit x0)),(3,(iN y6698))] 18) ?_;refine Run.seq ?_;refine Run.block ?_;refine Rn.g ?_;refine Ro.t 2 ?_;obtain ⟨y6718,h6719,h⟩ := bind_some h;refine Ro.p (idx_fz E_Unit .i64 h6719) ?_;refine Ro.t 2 ?_;refine Ro.p (len_fz E_Unit x0) ?_;obtain ⟨y6720,h6721,h⟩ := bind_some h;refine RunO.c1 (by kernel_rfl) (by kernel_rfl) (c16 h6721 _) ?_;refine Ro.t 1 ?_;refine Ro.d (mkE [(0,(Zl E_Unit x0)),(3,(iN y6698)),(16,(V.bool (!y6720)))] 1) ?_;rcases tf (!y6720) with h6722 | h6722
    · rw [ite_t h6722] at h; refine Rn.t h6722 ?_;refine Rn.g ?_;refine Ro.t 3 ?_;refine Ro.d (mkE [(2,(iN (4 : Int))),(0,(iN y6698))] 19) ?_;refine Run.ret ?_;have h := Option.some.inj h; subst h;show RR7 L _ _ _;exact ⟨(V.tup [(iN (4 : Int)),(iN y6698)]),(by kernel_rfl),(by kernel_rfl),hp⟩
    · rw [ite_f h6722] at h; refine Rn.f h6722 ?_;refine Run.skip ?_;refine Run.clrE (ts := [2,3,14,15,16,17,18,19,20,21,22]) (b := (.rgn i7r16)) (Q := (stp [2,3,8,9,10,11,12,13,14,15,16,17,18,19,20,21,22] (I7_1 x0 L) (RR7 L) (J7_1 x0 L) t)) (e' := (mkE [(0,(Zl E_Unit x0)),(3,(iN y6698))] 18)) (by kernel_rfl) ?_;refine Run.rgn ?_;refine Ro.t 3 ?_;refine RunO.nil ?_;have h := Option.some.inj h; subst h;show I7_1 x0 L _ _ _;exact ⟨(by kernel_rfl),hp⟩
  · rw [ite_f h6712] at h; refine Rn.f h6712 ?_;refine Run.exit ?_;have h := Option.some.inj h; subst h;show J7_1 x0 L () _ _ _;exact ⟨rfl,(by kernel_rfl),hp⟩
def F7 (x0 : (List T_Unit)) : Option (Int × Int) :=
  if (decide (((List.length x0 : Nat) : Int) > (64 : Int))) then
    some ((3 : Int),(0 : Int))
  else
    (iter (fun s : (Int) => F7_1_b x0 s) FUEL ((0 : Int))).bind fun o => match o with
    | .ret r => some r
    | .go () =>
      some ((0 : Int),(0 : Int))
theorem w7 {x0 : (List T_Unit)} {r : (Int × Int)} (h : F7 x0 = some r) {H : Heap} {L : List Ob} (hp : HP H (L)) : Fn T 7 [(Zl E_Unit x0)] H (Q7 L r) := by
  refine Fn.enterE t7 (e0 := (mkE [(0,(Zl E_Unit x0))] 22)) (by kernel_rfl) ?_;show Run T (.clr [] i7n26) _ _ (finE none [2,3] (Q7 L r));refine Rn.k (mkE [(0,(Zl E_Unit x0))] 22) ?_;unfold F7 at h;refine Rn.g ?_;refine Ro.t 2 ?_;refine Ro.d (mkE [(0,(Zl E_Unit x0))] 22) ?_;refine Run.seq ?_;refine Rn.g ?_;refine Ro.t 1 ?_;refine Ro.p (len_fz E_Unit x0) ?_;refine Ro.t 1 ?_;refine Ro.d (mkE [(0,(Zl E_Unit x0)),(6,(V.bool (decide ((ln x0) > (64 : Int)))))] 15) ?_;rcases tf (decide ((ln x0) > (64 : Int))) with h6685 | h6685
  · rw [ite_t h6685] at h; refine Rn.t h6685 ?_;refine Rn.g ?_;refine Ro.t 2 ?_;refine Ro.d (mkE [(2,(iN (3 : Int))),(0,(iN (0 : Int)))] 19) ?_;refine Run.ret ?_;have h := Option.some.inj h; subst h;exact ⟨(V.tup [(iN (3 : Int)),(iN (0 : Int))]),(by kernel_rfl),(by kernel_rfl),hp⟩
  · rw [ite_f h6685] at h; refine Rn.f h6685 ?_;refine Run.skip ?_;refine Rn.c (mkE [(0,(Zl E_Unit x0))] 22) ?_;refine Run.seq ?_;refine Rn.g ?_;refine Ro.t 1 ?_;refine Ro.d (mkE [(0,(Zl E_Unit x0)),(3,(iN (0 : Int)))] 18) ?_;refine Run.block ?_;obtain ⟨o,h6723,h⟩ := bind_some h;refine (Run.iter (I := I7_1 x0 L) (RR := RR7 L) (J := J7_1 x0 L) (fun s e h' t hI hf => ?_) FUEL h6723 (by exact ⟨(by kernel_rfl),hp⟩)).mono ?_
    · obtain ⟨rfl,hp⟩ := hI; exact w7_1_b hf hp
    · rintro X e' H hq;cases o with
      | ret r => cases X <;> first | exact hq.elim | (cases h; exact hq)
      | go a =>
        cases X with | nrm => exact hq.elim | ret => exact hq.elim | ext i => ?_;obtain ⟨rfl,he,hp⟩ := hq
        dsimp only at h
        refine Run.clrE (ts := [0,2,3,4,8,9,10,11,12,13,14,15,16,17,18,19,20,21,22]) (b := i7n23) (Q := (finE none [2,3] (Q7 L r))) he ?_;refine Rn.g ?_;refine Ro.t 2 ?_;refine Ro.d (mkE [(2,(iN (0 : Int))),(0,(iN (0 : Int)))] 19) ?_;refine Run.ret ?_;have h := Option.some.inj h; subst h;exact ⟨(V.tup [(iN (0 : Int)),(iN (0 : Int))]),(by kernel_rfl),(by kernel_rfl),hp⟩
theorem c7 {x0 : (List T_Unit)} {r : (Int × Int)} (h : F7 x0 = some r) (s : Bool) : Fn T 7 [(Zl E_Unit x0)] [] (fun v hh => deep s hh deepN v = some (.tup [(EI .i64).e r.1,(EI .i64).e r.2])) := by
  refine (w7 h HP.nil).mono ?_;rintro v hh ⟨rfl,hp⟩;exact congrArg (Option.map V.tup) (omapc ((EI .i64).hd s hh 37 _ (.inr rfl)) (omapc ((EI .i64).hd s hh 37 _ (.inr rfl)) omapn))
abbrev Q3 (L : List Ob) (r : Bool) : V → Heap → Prop := fun v h => v = EB.e r ∧ HP h (L)
abbrev RR3 (L : List Ob) (r : Bool) : List V → Heap → Prop := fun e h => endR none [2] (Q3 L r) e h
def F3 (x0 : (List T_Unit)) : Option Bool :=
  (F4 x0).bind fun y6735 =>
  if y6735 then
    (F5).bind fun y6738 =>
    some y6738
  else
    (F6 x0).bind fun y6740 =>
    (F7 x0).bind fun y6742 =>
    if (y6740.1 == y6742.1) then
      if (y6740.2 == y6742.2) then
        (F5).bind fun y6746 =>
        some y6746
      else
        some false
    else
      some false
theorem w3 {x0 : (List T_Unit)} {r : Bool} (h : F3 x0 = some r) {H : Heap} {L : List Ob} (hp : HP H (L)) : Fn T 3 [(Zl E_Unit x0)] H (Q3 L r) := by
  refine Fn.enterE t3 (e0 := (mkE [(0,(Zl E_Unit x0))] 30)) (by kernel_rfl) ?_;show Run T (.clr [] i3n13) _ _ (finE none [2] (Q3 L r));refine Rn.k (mkE [(0,(Zl E_Unit x0))] 30) ?_;unfold F3 at h;refine Rn.g ?_;refine Ro.t 1 ?_;refine Ro.d (mkE [(0,(Zl E_Unit x0))] 30) ?_;refine Run.seq ?_;refine Rn.g ?_;refine Ro.t 1 ?_;obtain ⟨y6735,h6736,h⟩ := bind_some h;refine RunO.c1 (by kernel_rfl) (by kernel_rfl) (c4 h6736 _) ?_;refine Ro.d (mkE [(0,(Zl E_Unit x0)),(7,(V.bool y6735))] 22) ?_;rcases tf y6735 with h6737 | h6737
  · rw [ite_t h6737] at h; refine Rn.t h6737 ?_;refine Rn.g ?_;obtain ⟨y6738,h6739,h⟩ := bind_some h;refine RunO.c1 (by kernel_rfl) (by kernel_rfl) (c5 h6739 _) ?_;refine Ro.t 1 ?_;refine Ro.d (mkE [(2,(V.bool y6738))] 28) ?_;refine Run.ret ?_;have h := Option.some.inj h; subst h;exact ⟨(V.bool y6738),(by kernel_rfl),(by kernel_rfl),hp⟩
  · rw [ite_f h6737] at h; refine Rn.f h6737 ?_;refine Run.skip ?_;refine Rn.c (mkE [(0,(Zl E_Unit x0))] 30) ?_;refine Rn.g ?_;refine Ro.t 1 ?_;obtain ⟨y6740,h6741,h⟩ := bind_some h;refine RunO.c1 (by kernel_rfl) (by kernel_rfl) (c6 h6741 _) ?_;refine Ro.t 5 ?_;refine Ro.d (mkE [(0,(Zl E_Unit x0)),(2,(iN y6740.1)),(0,(iN y6740.2))] 26) ?_;refine Rn.g ?_;refine Ro.t 1 ?_;obtain ⟨y6742,h6743,h⟩ := bind_some h;refine RunO.c1 (by kernel_rfl) (by kernel_rfl) (c7 h6743 _) ?_;refine Ro.t 5 ?_;refine Ro.d (mkE [(3,(iN y6740.1)),(0,(iN y6740.2)),(0,(iN y6742.1)),(0,(iN y6742.2))] 24) ?_;refine Rn.g ?_;refine Ro.t 2 ?_;rcases tf (y6740.1 == y6742.1) with h6744 | h6744
    · rw [ite_t h6744] at h; refine Ro.p (bool_of h6744) ?_;refine Ro.t 3 ?_;rcases tf (y6740.2 == y6742.2) with h6745 | h6745
      · rw [ite_t h6745] at h; refine Ro.p (bool_of h6745) ?_;refine Ro.t 2 ?_;obtain ⟨y6746,h6747,h⟩ := bind_some h;refine RunO.c1 (by kernel_rfl) (by kernel_rfl) (c5 h6747 _) ?_;refine Ro.t 2 ?_;refine Ro.d (mkE [(2,(V.bool y6746))] 28) ?_;refine Run.ret ?_;have h := Option.some.inj h; subst h;exact ⟨(V.bool y6746),(by kernel_rfl),(by kernel_rfl),hp⟩
      · rw [ite_f h6745] at h; refine Ro.p (bool_of h6745) ?_;refine Ro.t 5 ?_;refine Ro.d (mkE [(2,(V.bool false))] 28) ?_;refine Run.ret ?_;have h := Option.some.inj h; subst h;exact ⟨(V.bool false),(by kernel_rfl),(by kernel_rfl),hp⟩
    · rw [ite_f h6744] at h; refine Ro.p (bool_of h6744) ?_;refine Ro.t 9 ?_;refine Ro.d (mkE [(2,(V.bool false))] 28) ?_;refine Run.ret ?_;have h := Option.some.inj h; subst h;exact ⟨(V.bool false),(by kernel_rfl),(by kernel_rfl),hp⟩
theorem c3 {x0 : (List T_Unit)} {r : Bool} (h : F3 x0 = some r) (s : Bool) : Fn T 3 [(Zl E_Unit x0)] [] (fun v hh => deep s hh deepN v = some (EB.e r)) := by
  refine (w3 h HP.nil).mono ?_;rintro v hh ⟨rfl,hp⟩;exact EB.hd s hh 38 _ (.inr rfl)
end Go.Eng.Cod
