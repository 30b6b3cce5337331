/- Functions of this seat, run on unknown values by the rules of the small machine (no condition beyond those stated). -/
import Derived.Test.YtolhfdcgmcaglaaDoorCodIr
import Derived.Test.YtolhfdcgmcaglaaDoorEngTUp
import Derived.Test.YtolhfdcgmcaglaaDoorEngZUp
namespace Go.Eng.Cod
open Go Go.Eng
set_option linter.unusedSectionVars false
set_option linter.unusedVariables false
set_option linter.unusedSimpArgs false
set_option maxRecDepth 20000
abbrev Q4 (L : List Ob) (r : Bool) : V → Heap → Prop := fun v h => v = EB.e r ∧ HP h (L)
abbrev RR4 (L : List Ob) (r : Bool) : List V → Heap → Prop := fun e h => endR none [2] (Q4 L r) e h
abbrev I4_1 (x0 : (List T_Unit)) (L : List Ob) : (Int × Int) → List V → Heap → Prop := fun s e h => e = (mkE [(0,(Zl E_Unit x0)),(2,(iN s.1)),(0,(iN s.2))] 46) ∧ HP h (L)
abbrev J4_1 (x0 : (List T_Unit)) (L : List Ob) : (Int) → Nat → List V → Heap → Prop := fun a i e h => i = 0 ∧ clrEnv [2,4,5,6,7,8,9,10,11,12,13,14,15,16,17,18,19,20,21,22,23,24,25,26,27,28,29,30,31,32,33,34,35,36,37,38,39,40,41,42,43] e = (mkE [(0,(Zl E_Unit x0)),(2,(iN a))] 47) ∧ HP h (L)
def F4_1_b (x0 : (List T_Unit)) (y67 : Int) (y68 : Int) : Option (Stp (Int × Int) Bool (Int)) :=
  if (decide (y68 < ((List.length x0 : Nat) : Int))) then
    if (decide (y67 ≤ (2000 : Int))) then
      (idx x0 y68).bind fun y105 =>
      (idx x0 y68).bind fun y107 =>
      (idx x0 y68).bind fun y109 =>
      (idx x0 y68).bind fun y111 =>
      if (decide (((List.length y111.fCode : Nat) : Int) > (600 : Int))) then
        some (.ret true)
      else
        some (.next ((IntKind.i64.wrap ((IntKind.i64.wrap ((IntKind.i64.wrap (y67 + ((List.length y105.fCode : Nat) : Int))) + ((List.length y107.fParams : Nat) : Int))) + ((List.length y109.fName : Nat) : Int))),(IntKind.i64.wrap (y68 + (1 : Int)))))
    else
      some (.go (y67))
  else
    some (.go (y67))
theorem w4_1_b {x0 : (List T_Unit)} {y67 : Int} {y68 : Int} {t : (Stp (Int × Int) Bool (Int))} (h : F4_1_b x0 y67 y68 = some t) {H : Heap} {L : List Ob} (hp : HP H (L)) :
    Run T i4n16 (mkE [(0,(Zl E_Unit x0)),(2,(iN y67)),(0,(iN y68))] 46) H (stp [2,5,6,7,8,9,10,11,12,13,14,15,16,17,18,19,20,21,22,23,24,25,26,27,28,29,30,31,32,33,34,35,36,37,38,39,40,41,42,43] (I4_1 x0 L) (RR4 L) (J4_1 x0 L) t) := by
  unfold F4_1_b at h;refine Run.seq ?_;refine Rn.g ?_;refine Ro.t 2 ?_;refine Ro.p (len_fz E_Unit x0) ?_;rcases tf (decide (y68 < (ln x0))) with h94 | h94
  · rw [ite_t h94] at h; refine Ro.p (bool_of h94) ?_;refine Ro.t 4 ?_;refine Ro.d (mkE [(0,(Zl E_Unit x0)),(2,(iN y67)),(0,(iN y68)),(7,(V.bool (decide (y67 ≤ (2000 : Int)))))] 38) ?_;rcases tf (decide (y67 ≤ (2000 : Int))) with h95 | h95
    · rw [ite_t h95] at h; refine Rn.t h95 ?_;refine Run.skip ?_;refine Rn.c (mkE [(0,(Zl E_Unit x0)),(2,(iN y67)),(0,(iN y68))] 46) ?_;refine Run.seq ?_;refine Run.block ?_;refine Rn.g ?_;refine Ro.t 3 ?_;obtain ⟨y105,h106,h⟩ := bind_some h;refine Ro.p (idx_fz E_Unit .i64 h106) ?_;refine Ro.t 2 ?_;refine Ro.p (len_fz E_Code y105.fCode) ?_;refine Ro.t 3 ?_;obtain ⟨y107,h108,h⟩ := bind_some h;refine Ro.p (idx_fz E_Unit .i64 h108) ?_;refine Ro.t 2 ?_;refine Ro.p (len_fz (EI .u8) y107.fParams) ?_;refine Ro.t 3 ?_;obtain ⟨y109,h110,h⟩ := bind_some h;refine Ro.p (idx_fz E_Unit .i64 h110) ?_;refine Ro.t 5 ?_;refine Ro.d (mkE [(0,(Zl E_Unit x0)),(2,(iN (IntKind.i64.wrap ((IntKind.i64.wrap ((IntKind.i64.wrap (y67 + (ln y105.fCode))) + (ln y107.fParams))) + (ln y109.fName))))),(0,(iN y68))] 46) ?_;refine Rn.g ?_;refine Ro.t 2 ?_;obtain ⟨y111,h112,h⟩ := bind_some h;refine Ro.p (idx_fz E_Unit .i64 h112) ?_;refine Ro.t 2 ?_;refine Ro.p (len_fz E_Code y111.fCode) ?_;refine Ro.t 1 ?_;refine Ro.d (mkE [(0,(Zl E_Unit x0)),(2,(iN (IntKind.i64.wrap ((IntKind.i64.wrap ((IntKind.i64.wrap (y67 + (ln y105.fCode))) + (ln y107.fParams))) + (ln y109.fName))))),(0,(iN y68)),(38,(V.bool (decide ((ln y111.fCode) > (600 : Int)))))] 7) ?_;rcases tf (decide ((ln y111.fCode) > (600 : Int))) with h113 | h113
      · rw [ite_t h113] at h; refine Rn.t h113 ?_;refine Rn.g ?_;refine Ro.t 1 ?_;refine Ro.d (mkE [(2,(V.bool true))] 48) ?_;refine Run.ret ?_;have h := Option.some.inj h; subst h;show RR4 L _ _ _;exact ⟨(V.bool true),(by kernel_rfl),(by kernel_rfl),hp⟩
      · rw [ite_f h113] at h; refine Rn.f h113 ?_;refine Run.skip ?_;refine Run.clrE (ts := [2,15,16,17,18,19,20,21,22,23,24,25,26,27,28,29,30,31,32,33,34,35,36,37,38,39,40,41,42,43]) (b := (.rgn i4r14)) (Q := (stp [2,5,6,7,8,9,10,11,12,13,14,15,16,17,18,19,20,21,22,23,24,25,26,27,28,29,30,31,32,33,34,35,36,37,38,39,40,41,42,43] (I4_1 x0 L) (RR4 L) (J4_1 x0 L) t)) (e' := (mkE [(0,(Zl E_Unit x0)),(2,(iN (IntKind.i64.wrap ((IntKind.i64.wrap ((IntKind.i64.wrap (y67 + (ln y105.fCode))) + (ln y107.fParams))) + (ln y109.fName))))),(0,(iN y68))] 46)) (by kernel_rfl) ?_;refine Run.rgn ?_;refine Ro.t 3 ?_;refine RunO.nil ?_;have h := Option.some.inj h; subst h;show I4_1 x0 L _ _ _;exact ⟨(by kernel_rfl),hp⟩
    · rw [ite_f h95] at h; refine Rn.f h95 ?_;refine Run.exit ?_;have h := Option.some.inj h; subst h;show J4_1 x0 L _ _ _ _;exact ⟨rfl,(by kernel_rfl),hp⟩
  · rw [ite_f h94] at h; refine Ro.p (bool_of h94) ?_;refine Ro.t 4 ?_;refine Ro.d (mkE [(0,(Zl E_Unit x0)),(2,(iN y67)),(0,(iN y68)),(7,(V.bool false))] 38) ?_;refine Run.condF (by kernel_rfl) ?_;refine Run.exit ?_;have h := Option.some.inj h; subst h;show J4_1 x0 L _ _ _ _;exact ⟨rfl,(by kernel_rfl),hp⟩
def F4 (x0 : (List T_Unit)) : Option Bool :=
  (iter (fun s : (Int × Int) => F4_1_b x0 s.1 s.2) FUEL ((0 : Int),(0 : Int))).bind fun o => match o with
  | .ret r => some r
  | .go (y91) =>
    if (decide (y91 > (2000 : Int))) then
      some true
    else
      some (decide (((List.length x0 : Nat) : Int) > (100 : Int)))
theorem w4 {x0 : (List T_Unit)} {r : Bool} (h : F4 x0 = some r) {H : Heap} {L : List Ob} (hp : HP H (L)) : Fn T 4 [(Zl E_Unit x0)] H (Q4 L r) := by
  refine Fn.enterE t4 (e0 := (mkE [(0,(Zl E_Unit x0))] 50)) (by kernel_rfl) ?_;show Run T (.clr [] i4n24) _ _ (finE none [2] (Q4 L r));refine Rn.k (mkE [(0,(Zl E_Unit x0))] 50) ?_;unfold F4 at h;refine Rn.g ?_;refine Ro.t 1 ?_;refine Ro.d (mkE [(0,(Zl E_Unit x0))] 50) ?_;refine Rn.g ?_;refine Ro.t 1 ?_;refine Ro.d (mkE [(0,(Zl E_Unit x0)),(2,(iN (0 : Int)))] 47) ?_;refine Run.seq ?_;refine Rn.g ?_;refine Ro.t 1 ?_;refine Ro.d (mkE [(0,(Zl E_Unit x0)),(2,(iN (0 : Int))),(0,(iN (0 : Int)))] 46) ?_;refine Run.block ?_;obtain ⟨o,h114,h⟩ := bind_some h;refine (Run.iter (I := I4_1 x0 L) (RR := RR4 L) (J := J4_1 x0 L) (fun s e h' t hI hf => ?_) FUEL h114 (by exact ⟨(by kernel_rfl),hp⟩)).mono ?_
  · obtain ⟨rfl,hp⟩ := hI; exact w4_1_b hf hp
  · rintro X e' H hq;cases o with
    | ret r => cases X <;> first | exact hq.elim | (cases h; exact hq)
    | go y91 =>
      cases X with | nrm => exact hq.elim | ret => exact hq.elim | ext i => ?_;obtain ⟨rfl,he,hp⟩ := hq
      dsimp only at h
      refine Run.clrE (ts := [2,4,5,6,7,8,9,10,11,12,13,14,15,16,17,18,19,20,21,22,23,24,25,26,27,28,29,30,31,32,33,34,35,36,37,38,39,40,41,42,43]) (b := i4n21) (Q := (finE none [2] (Q4 L r))) he ?_;refine Rn.g ?_;refine Ro.t 1 ?_;rcases tf (decide (y91 > (2000 : Int))) with h115 | h115
      · rw [ite_t h115] at h; refine Ro.p (bool_of h115) ?_;refine Ro.t 6 ?_;refine Ro.d (mkE [(2,(V.bool true))] 48) ?_;refine Run.ret ?_;have h := Option.some.inj h; subst h;exact ⟨(V.bool true),(by kernel_rfl),(by kernel_rfl),hp⟩
      · rw [ite_f h115] at h; refine Ro.p (bool_of h115) ?_;refine Ro.t 2 ?_;refine Ro.p (len_fz E_Unit x0) ?_;refine Ro.t 3 ?_;refine Ro.d (mkE [(2,(V.bool (decide ((ln x0) > (100 : Int)))))] 48) ?_;refine Run.ret ?_;have h := Option.some.inj h; subst h;exact ⟨(V.bool (decide ((ln x0) > (100 : Int)))),(by kernel_rfl),(by kernel_rfl),hp⟩
theorem c4 {x0 : (List T_Unit)} {r : Bool} (h : F4 x0 = some r) (s : Bool) : Fn T 4 [(Zl E_Unit x0)] [] (fun v hh => deep s hh deepN v = some (EB.e r)) := by
  refine (w4 h HP.nil).mono ?_;rintro v hh ⟨rfl,hp⟩;exact EB.hd s hh 38 _ (.inr rfl)
abbrev Q8 (L : List Ob) (r : ((List T_Unit) × (List Int))) : V → Heap → Prop := fun v h => v = .tup [(EL E_Unit).e r.1,(EL (EI .u8)).e r.2] ∧ HP h (L)
abbrev RR8 (L : List Ob) (r : ((List T_Unit) × (List Int))) : List V → Heap → Prop := fun e h => endR none [0,1] (Q8 L r) e h
def F8 : Option ((List T_Unit) × (List Int)) :=
  some (([(⟨([102] : List UInt8),([] : List Int),(4 : Int),(0 : Int),([(⟨(1 : Int),(0 : Int),(0 : Int),(0 : Int),(0 : Int),(0 : Int),(0 : Int),(0 : Int),(300 : Int)⟩ : T_Code),(⟨(16 : Int),(0 : Int),(0 : Int),(0 : Int),(0 : Int),(0 : Int),(0 : Int),(0 : Int),(0 : Int)⟩ : T_Code)] : List T_Code)⟩ : T_Unit)] : List T_Unit),([(1 : Int),(1 : Int),(102 : Int),(0 : Int),(4 : Int),(0 : Int),(2 : Int),(1 : Int),(0 : Int),(44 : Int),(1 : Int),(0 : Int),(0 : Int),(0 : Int),(0 : Int),(0 : Int),(0 : Int),(16 : Int),(0 : Int)] : List Int))
theorem w8 {r : ((List T_Unit) × (List Int))} (h : F8 = some r) {H : Heap} {L : List Ob} (hp : HP H (L)) : Fn T 8 [] H (Q8 L r) := by
  refine Fn.enterE t8 (e0 := (mkE [] 10)) (by kernel_rfl) ?_;show Run T (.clr [] i8n5) _ _ (finE none [0,1] (Q8 L r));refine Rn.k (mkE [] 10) ?_;unfold F8 at h;refine Rn.g ?_;refine Ro.t 2 ?_;refine Ro.d (mkE [] 10) ?_;refine Rn.g ?_;refine Ro.t 6 ?_;refine Ro.d (mkE [(2,(V.fz (List.map E_Unit.e ([(⟨([102] : List UInt8),([] : List Int),(4 : Int),(0 : Int),([(⟨(1 : Int),(0 : Int),(0 : Int),(0 : Int),(0 : Int),(0 : Int),(0 : Int),(0 : Int),(300 : Int)⟩ : T_Code),(⟨(16 : Int),(0 : Int),(0 : Int),(0 : Int),(0 : Int),(0 : Int),(0 : Int),(0 : Int),(0 : Int)⟩ : T_Code)] : List T_Code)⟩ : T_Unit)] : List T_Unit))))] 7) ?_;refine Rn.g ?_;refine Ro.t 4 ?_;refine Ro.d (mkE [(0,(V.fz (List.map E_Unit.e ([(⟨([102] : List UInt8),([] : List Int),(4 : Int),(0 : Int),([(⟨(1 : Int),(0 : Int),(0 : Int),(0 : Int),(0 : Int),(0 : Int),(0 : Int),(0 : Int),(300 : Int)⟩ : T_Code),(⟨(16 : Int),(0 : Int),(0 : Int),(0 : Int),(0 : Int),(0 : Int),(0 : Int),(0 : Int),(0 : Int)⟩ : T_Code)] : List T_Code)⟩ : T_Unit)] : List T_Unit)))),(0,(V.fz (List.map (EI .u8).e ([(1 : Int),(1 : Int),(102 : Int),(0 : Int),(4 : Int),(0 : Int),(2 : Int),(1 : Int),(0 : Int),(44 : Int),(1 : Int),(0 : Int),(0 : Int),(0 : Int),(0 : Int),(0 : Int),(0 : Int),(16 : Int),(0 : Int)] : List Int))))] 8) ?_;refine Run.ret ?_;have h := Option.some.inj h; subst h;exact ⟨(V.tup [(V.fz (List.map E_Unit.e ([(⟨([102] : List UInt8),([] : List Int),(4 : Int),(0 : Int),([(⟨(1 : Int),(0 : Int),(0 : Int),(0 : Int),(0 : Int),(0 : Int),(0 : Int),(0 : Int),(300 : Int)⟩ : T_Code),(⟨(16 : Int),(0 : Int),(0 : Int),(0 : Int),(0 : Int),(0 : Int),(0 : Int),(0 : Int),(0 : Int)⟩ : T_Code)] : List T_Code)⟩ : T_Unit)] : List T_Unit))),(V.fz (List.map (EI .u8).e ([(1 : Int),(1 : Int),(102 : Int),(0 : Int),(4 : Int),(0 : Int),(2 : Int),(1 : Int),(0 : Int),(44 : Int),(1 : Int),(0 : Int),(0 : Int),(0 : Int),(0 : Int),(0 : Int),(0 : Int),(16 : Int),(0 : Int)] : List Int)))]),(by kernel_rfl),(by kernel_rfl),hp⟩
theorem c8 {r : ((List T_Unit) × (List Int))} (h : F8 = some r)  : Fn T 8 [] [] (fun v hh => deep false hh deepN v = some (.tup [(EL E_Unit).e r.1,(EL (EI .u8)).e r.2])) := by
  refine (w8 h HP.nil).mono ?_;rintro v hh ⟨rfl,hp⟩;exact congrArg (Option.map V.tup) (omapc ((EL E_Unit).hd false hh 37 _ (.inl rfl)) (omapc ((EL (EI .u8)).hd false hh 37 _ (.inl rfl)) omapn))
abbrev Q11 (L : List Ob) (r : T_Unit) : V → Heap → Prop := fun v h => v = E_Unit.e r ∧ HP h (L)
abbrev RR11 (L : List Ob) (r : T_Unit) : List V → Heap → Prop := fun e h => endR (some [some (some 5)]) [0] (Q11 L r) e h
def F11 : Option T_Unit :=
  some (⟨([102] : List UInt8),([] : List Int),(4 : Int),(1 : Int),([(⟨(6 : Int),(0 : Int),(0 : Int),(0 : Int),(0 : Int),(0 : Int),(3 : Int),(0 : Int),(0 : Int)⟩ : T_Code),(⟨(1 : Int),(0 : Int),(0 : Int),(0 : Int),(0 : Int),(3 : Int),(0 : Int),(0 : Int),(5 : Int)⟩ : T_Code),(⟨(2 : Int),(0 : Int),(0 : Int),(0 : Int),(0 : Int),(1 : Int),(3 : Int),(0 : Int),(0 : Int)⟩ : T_Code),(⟨(5 : Int),(0 : Int),(0 : Int),(0 : Int),(0 : Int),(3 : Int),(0 : Int),(0 : Int),(0 : Int)⟩ : T_Code),(⟨(16 : Int),(0 : Int),(0 : Int),(0 : Int),(0 : Int),(1 : Int),(0 : Int),(0 : Int),(0 : Int)⟩ : T_Code)] : List T_Code)⟩ : T_Unit)
theorem w11 {r : T_Unit} (h : F11 = some r) {H : Heap} {L : List Ob} (hp : HP H (L)) : Fn T 11 [] H (Q11 L r) := by
  refine Fn.enterE t11 (e0 := (mkE [] 8)) (by kernel_rfl) ?_;show Run T (.fin [some (some 5)] (.clr [] i11n3)) _ _ (finE (some [some (some 5)]) [0] (Q11 L r));refine Run.finb ?_;refine Rn.k (mkE [] 8) ?_;unfold F11 at h;refine Rn.g ?_;refine RunO.alloc hp (by kernel_rfl) ?_;intro b126 H hp;have hp : HP H ((some (b126,0),[(ES.e ([] : List UInt8)),(V.fz (List.map (EI .u8).e ([] : List Int))),(V.int .u8 (0 : Int)),(iN (0 : Int)),(V.fz (List.map E_Code.e ([] : List T_Code)))]) :: L) := hp;refine Ro.d (mkE [(0,(V.ptr b126 0 0))] 7) ?_;refine Rn.g ?_;refine Ro.t 7 ?_;refine RunO.st hp (by kernel_rfl) 0 (off := 0) (v := (V.ag [(ES.e ([102] : List UInt8)),(V.fz (List.map (EI .u8).e ([] : List Int))),(V.int .u8 (4 : Int)),(iN (1 : Int)),(V.fz (List.map E_Code.e ([(⟨(6 : Int),(0 : Int),(0 : Int),(0 : Int),(0 : Int),(0 : Int),(3 : Int),(0 : Int),(0 : Int)⟩ : T_Code),(⟨(1 : Int),(0 : Int),(0 : Int),(0 : Int),(0 : Int),(3 : Int),(0 : Int),(0 : Int),(5 : Int)⟩ : T_Code),(⟨(2 : Int),(0 : Int),(0 : Int),(0 : Int),(0 : Int),(1 : Int),(3 : Int),(0 : Int),(0 : Int)⟩ : T_Code),(⟨(5 : Int),(0 : Int),(0 : Int),(0 : Int),(0 : Int),(3 : Int),(0 : Int),(0 : Int),(0 : Int)⟩ : T_Code),(⟨(16 : Int),(0 : Int),(0 : Int),(0 : Int),(0 : Int),(1 : Int),(0 : Int),(0 : Int),(0 : Int)⟩ : T_Code)] : List T_Code)))])) (cs' := [(ES.e ([102] : List UInt8)),(V.fz (List.map (EI .u8).e ([] : List Int))),(V.int .u8 (4 : Int)),(iN (1 : Int)),(V.fz (List.map E_Code.e ([(⟨(6 : Int),(0 : Int),(0 : Int),(0 : Int),(0 : Int),(0 : Int),(3 : Int),(0 : Int),(0 : Int)⟩ : T_Code),(⟨(1 : Int),(0 : Int),(0 : Int),(0 : Int),(0 : Int),(3 : Int),(0 : Int),(0 : Int),(5 : Int)⟩ : T_Code),(⟨(2 : Int),(0 : Int),(0 : Int),(0 : Int),(0 : Int),(1 : Int),(3 : Int),(0 : Int),(0 : Int)⟩ : T_Code),(⟨(5 : Int),(0 : Int),(0 : Int),(0 : Int),(0 : Int),(3 : Int),(0 : Int),(0 : Int),(0 : Int)⟩ : T_Code),(⟨(16 : Int),(0 : Int),(0 : Int),(0 : Int),(0 : Int),(1 : Int),(0 : Int),(0 : Int),(0 : Int)⟩ : T_Code)] : List T_Code)))]) rfl (by kernel_rfl) (by kernel_rfl) (by kernel_rfl) ?_;intro H hp;refine Ro.d (mkE [(0,(V.ptr b126 0 0))] 7) ?_;refine Run.ret ?_;have h := Option.some.inj h; subst h;have hw := resW_cells (env := (mkE [(0,(V.ptr b126 0 0))] 7)) (H := H) (ds := [some (some 5)]) (res := [0]) (vs := [(V.ag [(ES.e ([102] : List UInt8)),(V.fz (List.map (EI .u8).e ([] : List Int))),(V.int .u8 (4 : Int)),(iN (1 : Int)),(V.fz (List.map E_Code.e ([(⟨(6 : Int),(0 : Int),(0 : Int),(0 : Int),(0 : Int),(0 : Int),(3 : Int),(0 : Int),(0 : Int)⟩ : T_Code),(⟨(1 : Int),(0 : Int),(0 : Int),(0 : Int),(0 : Int),(3 : Int),(0 : Int),(0 : Int),(5 : Int)⟩ : T_Code),(⟨(2 : Int),(0 : Int),(0 : Int),(0 : Int),(0 : Int),(1 : Int),(3 : Int),(0 : Int),(0 : Int)⟩ : T_Code),(⟨(5 : Int),(0 : Int),(0 : Int),(0 : Int),(0 : Int),(3 : Int),(0 : Int),(0 : Int),(0 : Int)⟩ : T_Code),(⟨(16 : Int),(0 : Int),(0 : Int),(0 : Int),(0 : Int),(1 : Int),(0 : Int),(0 : Int),(0 : Int)⟩ : T_Code)] : List T_Code)))])]) (omapc (Eq.trans (b := ldV _ (V.ptr b126 0 0) (some 5)) (by kernel_rfl) (hp.ld 0 rfl (by kernel_rfl))) omapn);have hp := hp.del 0;exact ⟨(V.ag [(ES.e ([102] : List UInt8)),(V.fz (List.map (EI .u8).e ([] : List Int))),(V.int .u8 (4 : Int)),(iN (1 : Int)),(V.fz (List.map E_Code.e ([(⟨(6 : Int),(0 : Int),(0 : Int),(0 : Int),(0 : Int),(0 : Int),(3 : Int),(0 : Int),(0 : Int)⟩ : T_Code),(⟨(1 : Int),(0 : Int),(0 : Int),(0 : Int),(0 : Int),(3 : Int),(0 : Int),(0 : Int),(5 : Int)⟩ : T_Code),(⟨(2 : Int),(0 : Int),(0 : Int),(0 : Int),(0 : Int),(1 : Int),(3 : Int),(0 : Int),(0 : Int)⟩ : T_Code),(⟨(5 : Int),(0 : Int),(0 : Int),(0 : Int),(0 : Int),(3 : Int),(0 : Int),(0 : Int),(0 : Int)⟩ : T_Code),(⟨(16 : Int),(0 : Int),(0 : Int),(0 : Int),(0 : Int),(1 : Int),(0 : Int),(0 : Int),(0 : Int)⟩ : T_Code)] : List T_Code)))]),(hw),(by kernel_rfl),hp⟩
theorem c11 {r : T_Unit} (h : F11 = some r)  : Fn T 11 [] [] (fun v hh => deep false hh deepN v = some (E_Unit.e r)) := by
  refine (w11 h HP.nil).mono ?_;rintro v hh ⟨rfl,hp⟩;exact E_Unit.hd false hh 38 _ (.inl rfl)
abbrev Q24 (L : List Ob) (r : Bool) : V → Heap → Prop := fun v h => v = EB.e r ∧ HP h (L)
abbrev RR24 (L : List Ob) (r : Bool) : List V → Heap → Prop := fun e h => endR none [2] (Q24 L r) e h
def F24 (x0 : Int) : Option Bool :=
  if (decide (x0 ≥ (1 : Int))) then
    some (decide (x0 ≤ (5 : Int)))
  else
    some false
theorem w24 {x0 : Int} {r : Bool} (h : F24 x0 = some r) {H : Heap} {L : List Ob} (hp : HP H (L)) : Fn T 24 [(V.int .u8 x0)] H (Q24 L r) := by
  refine Fn.enterE t24 (e0 := (mkE [(0,(V.int .u8 x0))] 8)) (by kernel_rfl) ?_;show Run T (.clr [] i24n3) _ _ (finE none [2] (Q24 L r));refine Rn.k (mkE [(0,(V.int .u8 x0))] 8) ?_;unfold F24 at h;refine Rn.g ?_;refine Ro.t 1 ?_;refine Ro.d (mkE [(0,(V.int .u8 x0))] 8) ?_;refine Rn.g ?_;refine Ro.t 1 ?_;rcases tf (decide (x0 ≥ (1 : Int))) with h137 | h137
  · rw [ite_t h137] at h; refine Ro.p (bool_of h137) ?_;refine Ro.t 5 ?_;refine Ro.d (mkE [(2,(V.bool (decide (x0 ≤ (5 : Int)))))] 6) ?_;refine Run.ret ?_;have h := Option.some.inj h; subst h;exact ⟨(V.bool (decide (x0 ≤ (5 : Int)))),(by kernel_rfl),(by kernel_rfl),hp⟩
  · rw [ite_f h137] at h; refine Ro.p (bool_of h137) ?_;refine Ro.t 5 ?_;refine Ro.d (mkE [(2,(V.bool false))] 6) ?_;refine Run.ret ?_;have h := Option.some.inj h; subst h;exact ⟨(V.bool false),(by kernel_rfl),(by kernel_rfl),hp⟩
theorem c24 {x0 : Int} {r : Bool} (h : F24 x0 = some r) (s : Bool) : Fn T 24 [(V.int .u8 x0)] [] (fun v hh => deep s hh deepN v = some (EB.e r)) := by
  refine (w24 h HP.nil).mono ?_;rintro v hh ⟨rfl,hp⟩;exact EB.hd s hh 38 _ (.inr rfl)
abbrev Q40 (L : List Ob) (r : Bool) : V → Heap → Prop := fun v h => v = EB.e r ∧ HP h (L)
abbrev RR40 (L : List Ob) (r : Bool) : List V → Heap → Prop := fun e h => endR none [2] (Q40 L r) e h
def F40 (x0 : Int) : Option Bool :=
  if (decide (x0 ≥ (1 : Int))) then
    some (decide (x0 ≤ (17 : Int)))
  else
    some false
theorem w40 {x0 : Int} {r : Bool} (h : F40 x0 = some r) {H : Heap} {L : List Ob} (hp : HP H (L)) : Fn T 40 [(V.int .u8 x0)] H (Q40 L r) := by
  refine Fn.enterE t40 (e0 := (mkE [(0,(V.int .u8 x0))] 8)) (by kernel_rfl) ?_;show Run T (.clr [] i40n3) _ _ (finE none [2] (Q40 L r));refine Rn.k (mkE [(0,(V.int .u8 x0))] 8) ?_;unfold F40 at h;refine Rn.g ?_;refine Ro.t 1 ?_;refine Ro.d (mkE [(0,(V.int .u8 x0))] 8) ?_;refine Rn.g ?_;refine Ro.t 1 ?_;rcases tf (decide (x0 ≥ (1 : Int))) with h182 | h182
  · rw [ite_t h182] at h; refine Ro.p (bool_of h182) ?_;refine Ro.t 5 ?_;refine Ro.d (mkE [(2,(V.bool (decide (x0 ≤ (17 : Int)))))] 6) ?_;refine Run.ret ?_;have h := Option.some.inj h; subst h;exact ⟨(V.bool (decide (x0 ≤ (17 : Int)))),(by kernel_rfl),(by kernel_rfl),hp⟩
  · rw [ite_f h182] at h; refine Ro.p (bool_of h182) ?_;refine Ro.t 5 ?_;refine Ro.d (mkE [(2,(V.bool false))] 6) ?_;refine Run.ret ?_;have h := Option.some.inj h; subst h;exact ⟨(V.bool false),(by kernel_rfl),(by kernel_rfl),hp⟩
theorem c40 {x0 : Int} {r : Bool} (h : F40 x0 = some r) (s : Bool) : Fn T 40 [(V.int .u8 x0)] [] (fun v hh => deep s hh deepN v = some (EB.e r)) := by
  refine (w40 h HP.nil).mono ?_;rintro v hh ⟨rfl,hp⟩;exact EB.hd s hh 38 _ (.inr rfl)
abbrev Q58 (L : List Ob) (r : Bool) : V → Heap → Prop := fun v h => v = EB.e r ∧ HP h (L)
abbrev RR58 (L : List Ob) (r : Bool) : List V → Heap → Prop := fun e h => endR none [2] (Q58 L r) e h
def F58 (x0 : Int) : Option Bool :=
  if (x0 == (2 : Int)) then
    some true
  else
    if (x0 == (3 : Int)) then
      some true
    else
      some (x0 == (4 : Int))
theorem w58 {x0 : Int} {r : Bool} (h : F58 x0 = some r) {H : Heap} {L : List Ob} (hp : HP H (L)) : Fn T 58 [(V.int .u8 x0)] H (Q58 L r) := by
  refine Fn.enterE t58 (e0 := (mkE [(0,(V.int .u8 x0))] 12)) (by kernel_rfl) ?_;show Run T (.clr [] i58n3) _ _ (finE none [2] (Q58 L r));refine Rn.k (mkE [(0,(V.int .u8 x0))] 12) ?_;unfold F58 at h;refine Rn.g ?_;refine Ro.t 1 ?_;refine Ro.d (mkE [(0,(V.int .u8 x0))] 12) ?_;refine Rn.g ?_;refine Ro.t 1 ?_;rcases tf (x0 == (2 : Int)) with h233 | h233
  · rw [ite_t h233] at h; refine Ro.p (bool_of h233) ?_;refine Ro.t 9 ?_;refine Ro.d (mkE [(2,(V.bool true))] 10) ?_;refine Run.ret ?_;have h := Option.some.inj h; subst h;exact ⟨(V.bool true),(by kernel_rfl),(by kernel_rfl),hp⟩
  · rw [ite_f h233] at h; refine Ro.p (bool_of h233) ?_;refine Ro.t 2 ?_;rcases tf (x0 == (3 : Int)) with h234 | h234
    · rw [ite_t h234] at h; refine Ro.p (bool_of h234) ?_;refine Ro.t 6 ?_;refine Ro.d (mkE [(2,(V.bool true))] 10) ?_;refine Run.ret ?_;have h := Option.some.inj h; subst h;exact ⟨(V.bool true),(by kernel_rfl),(by kernel_rfl),hp⟩
    · rw [ite_f h234] at h; refine Ro.p (bool_of h234) ?_;refine Ro.t 6 ?_;refine Ro.d (mkE [(2,(V.bool (x0 == (4 : Int))))] 10) ?_;refine Run.ret ?_;have h := Option.some.inj h; subst h;exact ⟨(V.bool (x0 == (4 : Int))),(by kernel_rfl),(by kernel_rfl),hp⟩
theorem c58 {x0 : Int} {r : Bool} (h : F58 x0 = some r) (s : Bool) : Fn T 58 [(V.int .u8 x0)] [] (fun v hh => deep s hh deepN v = some (EB.e r)) := by
  refine (w58 h HP.nil).mono ?_;rintro v hh ⟨rfl,hp⟩;exact EB.hd s hh 38 _ (.inr rfl)
abbrev Q41 (L : List Ob) (r : Bool) : V → Heap → Prop := fun v h => v = EB.e r ∧ HP h (L)
abbrev RR41 (L : List Ob) (r : Bool) : List V → Heap → Prop := fun e h => endR none [4] (Q41 L r) e h
def F41 (x0 : Int) (x1 : Int) : Option Bool :=
  (F58 x0).bind fun y245 =>
  if y245 then
    (F58 x1).bind fun y248 =>
    if y248 then
      some true
    else
      some (x1 == (5 : Int))
  else
    if (x0 == (5 : Int)) then
      (F58 x1).bind fun y252 =>
      if y252 then
        some true
      else
        some (x1 == (5 : Int))
    else
      some false
theorem w41 {x0 : Int} {x1 : Int} {r : Bool} (h : F41 x0 x1 = some r) {H : Heap} {L : List Ob} (hp : HP H (L)) : Fn T 41 [(V.int .u8 x0),(V.int .u8 x1)] H (Q41 L r) := by
  refine Fn.enterE t41 (e0 := (mkE [(0,(V.int .u8 x0)),(0,(V.int .u8 x1))] 17)) (by kernel_rfl) ?_;show Run T (.clr [] i41n3) _ _ (finE none [4] (Q41 L r));refine Rn.k (mkE [(0,(V.int .u8 x0)),(0,(V.int .u8 x1))] 17) ?_;unfold F41 at h;refine Rn.g ?_;refine Ro.t 1 ?_;refine Ro.d (mkE [(0,(V.int .u8 x0)),(0,(V.int .u8 x1))] 17) ?_;refine Rn.g ?_;refine Ro.t 1 ?_;obtain ⟨y245,h246,h⟩ := bind_some h;rcases tf y245 with h247 | h247
  · subst h247; rw [if_pos rfl] at h;refine RunO.c1 (by kernel_rfl) (by kernel_rfl) (c58 h246 _) ?_;refine Ro.t 6 ?_;obtain ⟨y248,h249,h⟩ := bind_some h;rcases tf y248 with h250 | h250
    · subst h250; rw [if_pos rfl] at h;refine RunO.c1 (by kernel_rfl) (by kernel_rfl) (c58 h249 _) ?_;refine Ro.t 6 ?_;refine Ro.d (mkE [(4,(V.bool true))] 14) ?_;refine Run.ret ?_;have h := Option.some.inj h; subst h;exact ⟨(V.bool true),(by kernel_rfl),(by kernel_rfl),hp⟩
    · subst h250; rw [if_neg (by decide)] at h;refine RunO.c1 (by kernel_rfl) (by kernel_rfl) (c58 h249 _) ?_;refine Ro.t 6 ?_;refine Ro.d (mkE [(4,(V.bool (x1 == (5 : Int))))] 14) ?_;refine Run.ret ?_;have h := Option.some.inj h; subst h;exact ⟨(V.bool (x1 == (5 : Int))),(by kernel_rfl),(by kernel_rfl),hp⟩
  · subst h247; rw [if_neg (by decide)] at h;refine RunO.c1 (by kernel_rfl) (by kernel_rfl) (c58 h246 _) ?_;refine Ro.t 2 ?_;rcases tf (x0 == (5 : Int)) with h251 | h251
    · rw [ite_t h251] at h; refine Ro.p (bool_of h251) ?_;refine Ro.t 3 ?_;obtain ⟨y252,h253,h⟩ := bind_some h;rcases tf y252 with h254 | h254
      · subst h254; rw [if_pos rfl] at h;refine RunO.c1 (by kernel_rfl) (by kernel_rfl) (c58 h253 _) ?_;refine Ro.t 6 ?_;refine Ro.d (mkE [(4,(V.bool true))] 14) ?_;refine Run.ret ?_;have h := Option.some.inj h; subst h;exact ⟨(V.bool true),(by kernel_rfl),(by kernel_rfl),hp⟩
      · subst h254; rw [if_neg (by decide)] at h;refine RunO.c1 (by kernel_rfl) (by kernel_rfl) (c58 h253 _) ?_;refine Ro.t 6 ?_;refine Ro.d (mkE [(4,(V.bool (x1 == (5 : Int))))] 14) ?_;refine Run.ret ?_;have h := Option.some.inj h; subst h;exact ⟨(V.bool (x1 == (5 : Int))),(by kernel_rfl),(by kernel_rfl),hp⟩
    · rw [ite_f h251] at h; refine Ro.p (bool_of h251) ?_;refine Ro.t 10 ?_;refine Ro.d (mkE [(4,(V.bool false))] 14) ?_;refine Run.ret ?_;have h := Option.some.inj h; subst h;exact ⟨(V.bool false),(by kernel_rfl),(by kernel_rfl),hp⟩
theorem c41 {x0 : Int} {x1 : Int} {r : Bool} (h : F41 x0 x1 = some r) (s : Bool) : Fn T 41 [(V.int .u8 x0),(V.int .u8 x1)] [] (fun v hh => deep s hh deepN v = some (EB.e r)) := by
  refine (w41 h HP.nil).mono ?_;rintro v hh ⟨rfl,hp⟩;exact EB.hd s hh 38 _ (.inr rfl)
abbrev Q42 (L : List Ob) (r : (Int × Bool)) : V → Heap → Prop := fun v h => v = .tup [(EI .u8).e r.1,EB.e r.2] ∧ HP h (L)
abbrev RR42 (L : List Ob) (r : (Int × Bool)) : List V → Heap → Prop := fun e h => endR none [4,5] (Q42 L r) e h
def F42_j1 (x1 : Int) (y3660 : Bool) : Option (Int × Bool) :=
  if (!y3660) then
    some ((0 : Int),false)
  else
    some (x1,true)
theorem w42_j1 {x1 : Int} {y3660 : Bool} {r : (Int × Bool)} (h : F42_j1 x1 y3660 = some r) {H : Heap} {L : List Ob} (hp : HP H (L)) :
    Run T i42n98 (mkE [(1,(V.int .u8 x1)),(4,(V.bool y3660))] 41) H (finE none [4,5] (Q42 L r)) := by
  unfold F42_j1 at h;refine Run.seq ?_;refine Rn.g ?_;refine Ro.t 2 ?_;refine Ro.d (mkE [(1,(V.int .u8 x1)),(44,(V.bool (!y3660)))] 1) ?_;rcases tf (!y3660) with h3662 | h3662
  · rw [ite_t h3662] at h; refine Rn.t h3662 ?_;refine Rn.g ?_;refine Ro.t 2 ?_;refine Ro.d (mkE [(4,(V.int .u8 (0 : Int))),(0,(V.bool false))] 42) ?_;refine Run.ret ?_;have h := Option.some.inj h; subst h;exact ⟨(V.tup [(V.int .u8 (0 : Int)),(V.bool false)]),(by kernel_rfl),(by kernel_rfl),hp⟩
  · rw [ite_f h3662] at h; refine Rn.f h3662 ?_;refine Run.skip ?_;refine Rn.c (mkE [(1,(V.int .u8 x1))] 46) ?_;refine Rn.g ?_;refine Ro.t 3 ?_;refine Ro.d (mkE [(4,(V.int .u8 x1)),(0,(V.bool true))] 42) ?_;refine Run.ret ?_;have h := Option.some.inj h; subst h;exact ⟨(V.tup [(V.int .u8 x1),(V.bool true)]),(by kernel_rfl),(by kernel_rfl),hp⟩
def F42_j2 : Option (Int × Bool) :=
  some ((1 : Int),true)
theorem w42_j2 {r : (Int × Bool)} (h : F42_j2 = some r) {H : Heap} {L : List Ob} (hp : HP H (L)) :
    Run T i42n87 (mkE [] 48) H (blk 0 (thn T (.clr [0,4,5,13,14,15,16,17,18,19,20,21,22,23,24,25,26,27,28,29,30,31,32,33,34,35,36,37,38,39,40,41,42,43,44] i42n98) (finE none [4,5] (Q42 L r)))) := by
  unfold F42_j2 at h;refine Run.seq ?_;refine Rn.g ?_;refine Ro.t 2 ?_;refine Ro.d (mkE [(4,(V.int .u8 (1 : Int))),(0,(V.bool true))] 42) ?_;refine Run.ret ?_;have h := Option.some.inj h; subst h;exact ⟨(V.tup [(V.int .u8 (1 : Int)),(V.bool true)]),(by kernel_rfl),(by kernel_rfl),hp⟩
def F42_j3 (x1 : Int) : Option (Int × Bool) :=
  if (x1 == (1 : Int)) then
    F42_j1 x1 (false)
  else
    F42_j2
theorem w42_j3 {x1 : Int} {r : (Int × Bool)} (h : F42_j3 x1 = some r) {H : Heap} {L : List Ob} (hp : HP H (L)) :
    Run T i42n82 (mkE [(1,(V.int .u8 x1)),(4,(V.bool false))] 41) H (blk 5 (thn T (.clr [1,6,13,14,15,16,17,18,19,20,21,22,23,24,25,26,27,28,29,30,31,32,33,34,35,36,37,38,39,40,41,42,43,44] i42n87) (blk 0 (thn T (.clr [0,4,5,13,14,15,16,17,18,19,20,21,22,23,24,25,26,27,28,29,30,31,32,33,34,35,36,37,38,39,40,41,42,43,44] i42n98) (finE none [4,5] (Q42 L r)))))) := by
  unfold F42_j3 at h;refine Rn.g ?_;refine Ro.t 2 ?_;refine Ro.d (mkE [(1,(V.int .u8 x1)),(4,(V.bool false)),(37,(V.bool (x1 == (1 : Int))))] 3) ?_;rcases tf (x1 == (1 : Int)) with h4492 | h4492
  · rw [ite_t h4492] at h; refine Rn.t h4492 ?_;refine Run.exit ?_;refine Rn.c (mkE [(1,(V.int .u8 x1)),(4,(V.bool false))] 41) ?_;exact w42_j1 h hp
  · rw [ite_f h4492] at h; refine Rn.f h4492 ?_;refine Run.skip ?_;refine Rn.c (mkE [] 48) ?_;exact w42_j2 h hp
def F42_j4 (x1 : Int) : Option (Int × Bool) :=
  F42_j1 x1 ((x1 != (5 : Int)))
theorem w42_j4 {x1 : Int} {r : (Int × Bool)} (h : F42_j4 x1 = some r) {H : Heap} {L : List Ob} (hp : HP H (L)) :
    Run T i42n77 (mkE [(1,(V.int .u8 x1))] 46) H (blk 4 (thn T (.clr [13,14,15,16,17,18,19,20,21,22,23,24,25,26,27,28,29,30,31,32,33,34,35,36,37,38,39,40,41,42] i42n82) (blk 5 (thn T (.clr [1,6,13,14,15,16,17,18,19,20,21,22,23,24,25,26,27,28,29,30,31,32,33,34,35,36,37,38,39,40,41,42,43,44] i42n87) (blk 0 (thn T (.clr [0,4,5,13,14,15,16,17,18,19,20,21,22,23,24,25,26,27,28,29,30,31,32,33,34,35,36,37,38,39,40,41,42,43,44] i42n98) (finE none [4,5] (Q42 L r)))))))) := by
  unfold F42_j4 at h;refine Rn.g ?_;refine Ro.t 3 ?_;refine Ro.d (mkE [(1,(V.int .u8 x1)),(4,(V.bool (x1 != (5 : Int))))] 41) ?_;refine Run.exit ?_;refine Rn.c (mkE [(1,(V.int .u8 x1)),(4,(V.bool (x1 != (5 : Int))))] 41) ?_;exact w42_j1 h hp
def F42_j5 (x1 : Int) : Option (Int × Bool) :=
  (F58 x1).bind fun y4699 =>
  F42_j1 x1 (y4699)
theorem w42_j5 {x1 : Int} {r : (Int × Bool)} (h : F42_j5 x1 = some r) {H : Heap} {L : List Ob} (hp : HP H (L)) :
    Run T i42n73 (mkE [(1,(V.int .u8 x1))] 46) H (blk 3 (thn T (.clr [6,13,14,15,16,17,18,19,20,21,22,23,24,25,26,27,28,29,30,31,32,33,34,35,36,37,38,39,40] i42n77) (blk 4 (thn T (.clr [13,14,15,16,17,18,19,20,21,22,23,24,25,26,27,28,29,30,31,32,33,34,35,36,37,38,39,40,41,42] i42n82) (blk 5 (thn T (.clr [1,6,13,14,15,16,17,18,19,20,21,22,23,24,25,26,27,28,29,30,31,32,33,34,35,36,37,38,39,40,41,42,43,44] i42n87) (blk 0 (thn T (.clr [0,4,5,13,14,15,16,17,18,19,20,21,22,23,24,25,26,27,28,29,30,31,32,33,34,35,36,37,38,39,40,41,42,43,44] i42n98) (finE none [4,5] (Q42 L r)))))))))) := by
  unfold F42_j5 at h;refine Rn.g ?_;refine Ro.t 1 ?_;obtain ⟨y4699,h4700,h⟩ := bind_some h;refine RunO.c1 (by kernel_rfl) (by kernel_rfl) (c58 h4700 _) ?_;refine Ro.t 1 ?_;refine Ro.d (mkE [(1,(V.int .u8 x1)),(4,(V.bool y4699))] 41) ?_;refine Run.exit ?_;refine Rn.c (mkE [(1,(V.int .u8 x1)),(4,(V.bool y4699))] 41) ?_;exact w42_j1 h hp
def F42_j6 (x1 : Int) : Option (Int × Bool) :=
  F42_j1 x1 ((x1 != (1 : Int)))
theorem w42_j6 {x1 : Int} {r : (Int × Bool)} (h : F42_j6 x1 = some r) {H : Heap} {L : List Ob} (hp : HP H (L)) :
    Run T i42n69 (mkE [(1,(V.int .u8 x1))] 46) H (blk 2 (thn T (.clr [6,13,14,15,16,17,18,19,20,21,22,23,24,25,26,27,28,29,30,31,32,33,34,35,36,37,38] i42n73) (blk 3 (thn T (.clr [6,13,14,15,16,17,18,19,20,21,22,23,24,25,26,27,28,29,30,31,32,33,34,35,36,37,38,39,40] i42n77) (blk 4 (thn T (.clr [13,14,15,16,17,18,19,20,21,22,23,24,25,26,27,28,29,30,31,32,33,34,35,36,37,38,39,40,41,42] i42n82) (blk 5 (thn T (.clr [1,6,13,14,15,16,17,18,19,20,21,22,23,24,25,26,27,28,29,30,31,32,33,34,35,36,37,38,39,40,41,42,43,44] i42n87) (blk 0 (thn T (.clr [0,4,5,13,14,15,16,17,18,19,20,21,22,23,24,25,26,27,28,29,30,31,32,33,34,35,36,37,38,39,40,41,42,43,44] i42n98) (finE none [4,5] (Q42 L r)))))))))))) := by
  unfold F42_j6 at h;refine Rn.g ?_;refine Ro.t 3 ?_;refine Ro.d (mkE [(1,(V.int .u8 x1)),(4,(V.bool (x1 != (1 : Int))))] 41) ?_;refine Run.exit ?_;refine Rn.c (mkE [(1,(V.int .u8 x1)),(4,(V.bool (x1 != (1 : Int))))] 41) ?_;exact w42_j1 h hp
def F42 (x0 : Int) (x1 : Int) : Option (Int × Bool) :=
  if (decide (x1 < (1 : Int))) then
    some ((0 : Int),false)
  else
    if (decide (x1 > (5 : Int))) then
      some ((0 : Int),false)
    else
      if (x0 == (1 : Int)) then
        F42_j6 x1
      else
        if (x0 == (2 : Int)) then
          F42_j6 x1
        else
          if (x0 == (3 : Int)) then
            F42_j6 x1
          else
            if (x0 == (4 : Int)) then
              F42_j6 x1
            else
              if (x0 == (17 : Int)) then
                F42_j6 x1
              else
                if (x0 == (5 : Int)) then
                  F42_j5 x1
                else
                  if (x0 == (9 : Int)) then
                    F42_j5 x1
                  else
                    if (x0 == (10 : Int)) then
                      F42_j5 x1
                    else
                      if (x0 == (6 : Int)) then
                        F42_j4 x1
                      else
                        if (x0 == (7 : Int)) then
                          F42_j4 x1
                        else
                          if (x0 == (8 : Int)) then
                            F42_j4 x1
                          else
                            if (x0 == (18 : Int)) then
                              F42_j4 x1
                            else
                              if (x0 == (13 : Int)) then
                                F42_j3 x1
                              else
                                if (x0 == (14 : Int)) then
                                  F42_j3 x1
                                else
                                  if (x0 == (15 : Int)) then
                                    F42_j3 x1
                                  else
                                    if (x0 == (16 : Int)) then
                                      F42_j3 x1
                                    else
                                      if (x0 == (11 : Int)) then
                                        F42_j2
                                      else
                                        if (x0 == (12 : Int)) then
                                          F42_j2
                                        else
                                          F42_j1 x1 (false)
theorem w42 {x0 : Int} {x1 : Int} {r : (Int × Bool)} (h : F42 x0 x1 = some r) {H : Heap} {L : List Ob} (hp : HP H (L)) : Fn T 42 [(V.int .u8 x0),(V.int .u8 x1)] H (Q42 L r) := by
  refine Fn.enterE t42 (e0 := (mkE [(0,(V.int .u8 x0)),(0,(V.int .u8 x1))] 46)) (by kernel_rfl) ?_;show Run T (.clr [] i42n102) _ _ (finE none [4,5] (Q42 L r));refine Rn.k (mkE [(0,(V.int .u8 x0)),(0,(V.int .u8 x1))] 46) ?_;unfold F42 at h;refine Rn.g ?_;refine Ro.t 2 ?_;refine Ro.d (mkE [(0,(V.int .u8 x0)),(0,(V.int .u8 x1))] 46) ?_;refine Run.seq ?_;refine Rn.g ?_;refine Ro.t 1 ?_;rcases tf (decide (x1 < (1 : Int))) with h2552 | h2552
  · rw [ite_t h2552] at h; refine Ro.p (bool_of h2552) ?_;refine Ro.t 4 ?_;refine Ro.d (mkE [(0,(V.int .u8 x0)),(0,(V.int .u8 x1)),(10,(V.bool true))] 35) ?_;refine Run.condT (by kernel_rfl) ?_;refine Rn.g ?_;refine Ro.t 2 ?_;refine Ro.d (mkE [(4,(V.int .u8 (0 : Int))),(0,(V.bool false))] 42) ?_;refine Run.ret ?_;have h := Option.some.inj h; subst h;exact ⟨(V.tup [(V.int .u8 (0 : Int)),(V.bool false)]),(by kernel_rfl),(by kernel_rfl),hp⟩
  · rw [ite_f h2552] at h; refine Ro.p (bool_of h2552) ?_;refine Ro.t 4 ?_;refine Ro.d (mkE [(0,(V.int .u8 x0)),(0,(V.int .u8 x1)),(10,(V.bool (decide (x1 > (5 : Int)))))] 35) ?_;rcases tf (decide (x1 > (5 : Int))) with h2553 | h2553
    · rw [ite_t h2553] at h; refine Rn.t h2553 ?_;refine Rn.g ?_;refine Ro.t 2 ?_;refine Ro.d (mkE [(4,(V.int .u8 (0 : Int))),(0,(V.bool false))] 42) ?_;refine Run.ret ?_;have h := Option.some.inj h; subst h;exact ⟨(V.tup [(V.int .u8 (0 : Int)),(V.bool false)]),(by kernel_rfl),(by kernel_rfl),hp⟩
    · rw [ite_f h2553] at h; refine Rn.f h2553 ?_;refine Run.skip ?_;refine Rn.c (mkE [(0,(V.int .u8 x0)),(0,(V.int .u8 x1))] 46) ?_;refine Rn.g ?_;refine Ro.t 1 ?_;refine Ro.d (mkE [(0,(V.int .u8 x0)),(0,(V.int .u8 x1)),(4,(V.bool false))] 41) ?_;refine Run.seq ?_;refine Rn.g ?_;refine Ro.t 1 ?_;refine Ro.d (mkE [(1,(V.int .u8 x1)),(4,(V.bool false)),(6,(V.int .u8 x0))] 34) ?_;refine Run.block ?_;refine Run.seq ?_;refine Run.block ?_;refine Run.seq ?_;refine Run.block ?_;refine Run.seq ?_;refine Run.block ?_;refine Run.seq ?_;refine Run.block ?_;refine Run.seq ?_;refine Run.block ?_;refine Run.seq ?_;refine Run.seq ?_;refine Run.seq ?_;refine Rn.g ?_;refine Ro.t 2 ?_;refine Ro.d (mkE [(1,(V.int .u8 x1)),(4,(V.bool false)),(6,(V.int .u8 x0)),(0,(V.bool (x0 == (1 : Int))))] 33) ?_;rcases tf (x0 == (1 : Int)) with h4740 | h4740
      · rw [ite_t h4740] at h; refine Rn.t h4740 ?_;refine Run.skip ?_;refine Rn.c (mkE [(1,(V.int .u8 x1)),(4,(V.bool false)),(6,(V.int .u8 x0)),(0,(V.bool (x0 == (1 : Int))))] 33) ?_;refine Run.cond (t := true) (by rw [← h4740]; kernel_rfl) ?_;refine Run.exit ?_;refine Rn.c (mkE [(1,(V.int .u8 x1))] 46) ?_;exact w42_j6 h hp
      · rw [ite_f h4740] at h; refine Rn.f h4740 ?_;refine Rn.g ?_;refine Ro.t 2 ?_;refine Ro.d (mkE [(1,(V.int .u8 x1)),(4,(V.bool false)),(6,(V.int .u8 x0)),(0,(V.bool (x0 == (2 : Int))))] 33) ?_;rcases tf (x0 == (2 : Int)) with h4741 | h4741
        · rw [ite_t h4741] at h; refine Rn.t h4741 ?_;refine Run.skip ?_;refine Rn.c (mkE [(1,(V.int .u8 x1)),(4,(V.bool false)),(6,(V.int .u8 x0)),(0,(V.bool (x0 == (2 : Int))))] 33) ?_;refine Run.cond (t := true) (by rw [← h4741]; kernel_rfl) ?_;refine Run.exit ?_;refine Rn.c (mkE [(1,(V.int .u8 x1))] 46) ?_;exact w42_j6 h hp
        · rw [ite_f h4741] at h; refine Rn.f h4741 ?_;refine Rn.g ?_;refine Ro.t 2 ?_;refine Ro.d (mkE [(1,(V.int .u8 x1)),(4,(V.bool false)),(6,(V.int .u8 x0)),(0,(V.bool (x0 == (3 : Int))))] 33) ?_;rcases tf (x0 == (3 : Int)) with h4742 | h4742
          · rw [ite_t h4742] at h; refine Rn.t h4742 ?_;refine Run.skip ?_;refine Rn.c (mkE [(1,(V.int .u8 x1)),(4,(V.bool false)),(6,(V.int .u8 x0)),(0,(V.bool (x0 == (3 : Int))))] 33) ?_;refine Run.cond (t := true) (by rw [← h4742]; kernel_rfl) ?_;refine Run.exit ?_;refine Rn.c (mkE [(1,(V.int .u8 x1))] 46) ?_;exact w42_j6 h hp
          · rw [ite_f h4742] at h; refine Rn.f h4742 ?_;refine Rn.g ?_;refine Ro.t 2 ?_;refine Ro.d (mkE [(1,(V.int .u8 x1)),(4,(V.bool false)),(6,(V.int .u8 x0)),(0,(V.bool (x0 == (4 : Int))))] 33) ?_;rcases tf (x0 == (4 : Int)) with h4743 | h4743
            · rw [ite_t h4743] at h; refine Rn.t h4743 ?_;refine Run.skip ?_;refine Rn.c (mkE [(1,(V.int .u8 x1)),(4,(V.bool false)),(6,(V.int .u8 x0)),(0,(V.bool (x0 == (4 : Int))))] 33) ?_;refine Run.cond (t := true) (by rw [← h4743]; kernel_rfl) ?_;refine Run.exit ?_;refine Rn.c (mkE [(1,(V.int .u8 x1))] 46) ?_;exact w42_j6 h hp
            · rw [ite_f h4743] at h; refine Rn.f h4743 ?_;refine Run.rgn ?_;refine Ro.t 2 ?_;refine Ro.d (mkE [(1,(V.int .u8 x1)),(4,(V.bool false)),(6,(V.int .u8 x0)),(0,(V.bool (x0 == (17 : Int))))] 33) ?_;rcases tf (x0 == (17 : Int)) with h4744 | h4744
              · rw [ite_t h4744] at h; refine Rn.t h4744 ?_;refine Run.exit ?_;refine Rn.c (mkE [(1,(V.int .u8 x1))] 46) ?_;exact w42_j6 h hp
              · rw [ite_f h4744] at h; refine Rn.f h4744 ?_;refine Run.skip ?_;refine Rn.c (mkE [(1,(V.int .u8 x1)),(4,(V.bool false)),(6,(V.int .u8 x0))] 34) ?_;refine Run.seq ?_;refine Run.seq ?_;refine Rn.g ?_;refine Ro.t 2 ?_;refine Ro.d (mkE [(1,(V.int .u8 x1)),(4,(V.bool false)),(6,(V.int .u8 x0)),(6,(V.bool (x0 == (5 : Int))))] 27) ?_;rcases tf (x0 == (5 : Int)) with h4748 | h4748
                · rw [ite_t h4748] at h; refine Rn.t h4748 ?_;refine Run.skip ?_;refine Rn.c (mkE [(1,(V.int .u8 x1)),(4,(V.bool false)),(6,(V.int .u8 x0)),(6,(V.bool (x0 == (5 : Int))))] 27) ?_;refine Run.cond (t := true) (by rw [← h4748]; kernel_rfl) ?_;refine Run.exit ?_;refine Rn.c (mkE [(1,(V.int .u8 x1))] 46) ?_;exact w42_j5 h hp
                · rw [ite_f h4748] at h; refine Rn.f h4748 ?_;refine Rn.g ?_;refine Ro.t 2 ?_;refine Ro.d (mkE [(1,(V.int .u8 x1)),(4,(V.bool false)),(6,(V.int .u8 x0)),(6,(V.bool (x0 == (9 : Int))))] 27) ?_;rcases tf (x0 == (9 : Int)) with h4749 | h4749
                  · rw [ite_t h4749] at h; refine Rn.t h4749 ?_;refine Run.skip ?_;refine Rn.c (mkE [(1,(V.int .u8 x1)),(4,(V.bool false)),(6,(V.int .u8 x0)),(6,(V.bool (x0 == (9 : Int))))] 27) ?_;refine Run.cond (t := true) (by rw [← h4749]; kernel_rfl) ?_;refine Run.exit ?_;refine Rn.c (mkE [(1,(V.int .u8 x1))] 46) ?_;exact w42_j5 h hp
                  · rw [ite_f h4749] at h; refine Rn.f h4749 ?_;refine Run.rgn ?_;refine Ro.t 2 ?_;refine Ro.d (mkE [(1,(V.int .u8 x1)),(4,(V.bool false)),(6,(V.int .u8 x0)),(6,(V.bool (x0 == (10 : Int))))] 27) ?_;rcases tf (x0 == (10 : Int)) with h4750 | h4750
                    · rw [ite_t h4750] at h; refine Rn.t h4750 ?_;refine Run.exit ?_;refine Rn.c (mkE [(1,(V.int .u8 x1))] 46) ?_;exact w42_j5 h hp
                    · rw [ite_f h4750] at h; refine Rn.f h4750 ?_;refine Run.skip ?_;refine Rn.c (mkE [(1,(V.int .u8 x1)),(4,(V.bool false)),(6,(V.int .u8 x0))] 34) ?_;refine Run.seq ?_;refine Run.seq ?_;refine Rn.g ?_;refine Ro.t 2 ?_;refine Ro.d (mkE [(1,(V.int .u8 x1)),(4,(V.bool false)),(6,(V.int .u8 x0)),(10,(V.bool (x0 == (6 : Int))))] 23) ?_;rcases tf (x0 == (6 : Int)) with h4755 | h4755
                      · rw [ite_t h4755] at h; refine Rn.t h4755 ?_;refine Run.skip ?_;refine Rn.c (mkE [(1,(V.int .u8 x1)),(4,(V.bool false)),(6,(V.int .u8 x0)),(10,(V.bool (x0 == (6 : Int))))] 23) ?_;refine Run.cond (t := true) (by rw [← h4755]; kernel_rfl) ?_;refine Run.exit ?_;refine Rn.c (mkE [(1,(V.int .u8 x1))] 46) ?_;exact w42_j4 h hp
                      · rw [ite_f h4755] at h; refine Rn.f h4755 ?_;refine Rn.g ?_;refine Ro.t 2 ?_;refine Ro.d (mkE [(1,(V.int .u8 x1)),(4,(V.bool false)),(6,(V.int .u8 x0)),(10,(V.bool (x0 == (7 : Int))))] 23) ?_;rcases tf (x0 == (7 : Int)) with h4756 | h4756
                        · rw [ite_t h4756] at h; refine Rn.t h4756 ?_;refine Run.skip ?_;refine Rn.c (mkE [(1,(V.int .u8 x1)),(4,(V.bool false)),(6,(V.int .u8 x0)),(10,(V.bool (x0 == (7 : Int))))] 23) ?_;refine Run.cond (t := true) (by rw [← h4756]; kernel_rfl) ?_;refine Run.exit ?_;refine Rn.c (mkE [(1,(V.int .u8 x1))] 46) ?_;exact w42_j4 h hp
                        · rw [ite_f h4756] at h; refine Rn.f h4756 ?_;refine Rn.g ?_;refine Ro.t 2 ?_;refine Ro.d (mkE [(1,(V.int .u8 x1)),(4,(V.bool false)),(6,(V.int .u8 x0)),(10,(V.bool (x0 == (8 : Int))))] 23) ?_;rcases tf (x0 == (8 : Int)) with h4757 | h4757
                          · rw [ite_t h4757] at h; refine Rn.t h4757 ?_;refine Run.skip ?_;refine Rn.c (mkE [(1,(V.int .u8 x1)),(4,(V.bool false)),(6,(V.int .u8 x0)),(10,(V.bool (x0 == (8 : Int))))] 23) ?_;refine Run.cond (t := true) (by rw [← h4757]; kernel_rfl) ?_;refine Run.exit ?_;refine Rn.c (mkE [(1,(V.int .u8 x1))] 46) ?_;exact w42_j4 h hp
                          · rw [ite_f h4757] at h; refine Rn.f h4757 ?_;refine Run.rgn ?_;refine Ro.t 2 ?_;refine Ro.d (mkE [(1,(V.int .u8 x1)),(4,(V.bool false)),(6,(V.int .u8 x0)),(10,(V.bool (x0 == (18 : Int))))] 23) ?_;rcases tf (x0 == (18 : Int)) with h4758 | h4758
                            · rw [ite_t h4758] at h; refine Rn.t h4758 ?_;refine Run.exit ?_;refine Rn.c (mkE [(1,(V.int .u8 x1))] 46) ?_;exact w42_j4 h hp
                            · rw [ite_f h4758] at h; refine Rn.f h4758 ?_;refine Run.skip ?_;refine Rn.c (mkE [(1,(V.int .u8 x1)),(4,(V.bool false)),(6,(V.int .u8 x0))] 34) ?_;refine Run.seq ?_;refine Run.seq ?_;refine Rn.g ?_;refine Ro.t 2 ?_;refine Ro.d (mkE [(1,(V.int .u8 x1)),(4,(V.bool false)),(6,(V.int .u8 x0)),(15,(V.bool (x0 == (13 : Int))))] 18) ?_;rcases tf (x0 == (13 : Int)) with h4763 | h4763
                              · rw [ite_t h4763] at h; refine Rn.t h4763 ?_;refine Run.skip ?_;refine Rn.c (mkE [(1,(V.int .u8 x1)),(4,(V.bool false)),(6,(V.int .u8 x0)),(15,(V.bool (x0 == (13 : Int))))] 18) ?_;refine Run.cond (t := true) (by rw [← h4763]; kernel_rfl) ?_;refine Run.exit ?_;refine Rn.c (mkE [(1,(V.int .u8 x1)),(4,(V.bool false))] 41) ?_;exact w42_j3 h hp
                              · rw [ite_f h4763] at h; refine Rn.f h4763 ?_;refine Rn.g ?_;refine Ro.t 2 ?_;refine Ro.d (mkE [(1,(V.int .u8 x1)),(4,(V.bool false)),(6,(V.int .u8 x0)),(15,(V.bool (x0 == (14 : Int))))] 18) ?_;rcases tf (x0 == (14 : Int)) with h4764 | h4764
                                · rw [ite_t h4764] at h; refine Rn.t h4764 ?_;refine Run.skip ?_;refine Rn.c (mkE [(1,(V.int .u8 x1)),(4,(V.bool false)),(6,(V.int .u8 x0)),(15,(V.bool (x0 == (14 : Int))))] 18) ?_;refine Run.cond (t := true) (by rw [← h4764]; kernel_rfl) ?_;refine Run.exit ?_;refine Rn.c (mkE [(1,(V.int .u8 x1)),(4,(V.bool false))] 41) ?_;exact w42_j3 h hp
                                · rw [ite_f h4764] at h; refine Rn.f h4764 ?_;refine Rn.g ?_;refine Ro.t 2 ?_;refine Ro.d (mkE [(1,(V.int .u8 x1)),(4,(V.bool false)),(6,(V.int .u8 x0)),(15,(V.bool (x0 == (15 : Int))))] 18) ?_;rcases tf (x0 == (15 : Int)) with h4765 | h4765
                                  · rw [ite_t h4765] at h; refine Rn.t h4765 ?_;refine Run.skip ?_;refine Rn.c (mkE [(1,(V.int .u8 x1)),(4,(V.bool false)),(6,(V.int .u8 x0)),(15,(V.bool (x0 == (15 : Int))))] 18) ?_;refine Run.cond (t := true) (by rw [← h4765]; kernel_rfl) ?_;refine Run.exit ?_;refine Rn.c (mkE [(1,(V.int .u8 x1)),(4,(V.bool false))] 41) ?_;exact w42_j3 h hp
                                  · rw [ite_f h4765] at h; refine Rn.f h4765 ?_;refine Run.rgn ?_;refine Ro.t 2 ?_;refine Ro.d (mkE [(1,(V.int .u8 x1)),(4,(V.bool false)),(6,(V.int .u8 x0)),(15,(V.bool (x0 == (16 : Int))))] 18) ?_;rcases tf (x0 == (16 : Int)) with h4766 | h4766
                                    · rw [ite_t h4766] at h; refine Rn.t h4766 ?_;refine Run.exit ?_;refine Rn.c (mkE [(1,(V.int .u8 x1)),(4,(V.bool false))] 41) ?_;exact w42_j3 h hp
                                    · rw [ite_f h4766] at h; refine Rn.f h4766 ?_;refine Run.skip ?_;refine Rn.c (mkE [(1,(V.int .u8 x1)),(4,(V.bool false)),(6,(V.int .u8 x0))] 34) ?_;refine Run.seq ?_;refine Rn.g ?_;refine Ro.t 2 ?_;refine Ro.d (mkE [(1,(V.int .u8 x1)),(4,(V.bool false)),(6,(V.int .u8 x0)),(20,(V.bool (x0 == (11 : Int))))] 13) ?_;rcases tf (x0 == (11 : Int)) with h4767 | h4767
                                      · rw [ite_t h4767] at h; refine Rn.t h4767 ?_;refine Run.skip ?_;refine Rn.c (mkE [(1,(V.int .u8 x1)),(4,(V.bool false)),(27,(V.bool (x0 == (11 : Int))))] 13) ?_;refine Run.cond (t := true) (by rw [← h4767]; kernel_rfl) ?_;refine Run.exit ?_;refine Rn.c (mkE [] 48) ?_;exact w42_j2 h hp
                                      · rw [ite_f h4767] at h; refine Rn.f h4767 ?_;refine Run.rgn ?_;refine Ro.t 2 ?_;refine Ro.d (mkE [(1,(V.int .u8 x1)),(4,(V.bool false)),(27,(V.bool (x0 == (12 : Int))))] 13) ?_;rcases tf (x0 == (12 : Int)) with h4768 | h4768
                                        · rw [ite_t h4768] at h; refine Rn.t h4768 ?_;refine Run.exit ?_;refine Rn.c (mkE [] 48) ?_;exact w42_j2 h hp
                                        · rw [ite_f h4768] at h; refine Rn.f h4768 ?_;refine Run.skip ?_;refine Run.clrE (ts := [13,14,15,16,17,18,19,20,21,22,23,24,25,26,27,28,29,30,31,32,33,34,35,36]) (b := (.exit 0)) (Q := (blk 1 (thn T (.clr [6,13,14,15,16,17,18,19,20,21,22,23,24,25,26,27,28,29,30,31,32,33,34,35,36] i42n69) (blk 2 (thn T (.clr [6,13,14,15,16,17,18,19,20,21,22,23,24,25,26,27,28,29,30,31,32,33,34,35,36,37,38] i42n73) (blk 3 (thn T (.clr [6,13,14,15,16,17,18,19,20,21,22,23,24,25,26,27,28,29,30,31,32,33,34,35,36,37,38,39,40] i42n77) (blk 4 (thn T (.clr [13,14,15,16,17,18,19,20,21,22,23,24,25,26,27,28,29,30,31,32,33,34,35,36,37,38,39,40,41,42] i42n82) (blk 5 (thn T (.clr [1,6,13,14,15,16,17,18,19,20,21,22,23,24,25,26,27,28,29,30,31,32,33,34,35,36,37,38,39,40,41,42,43,44] i42n87) (blk 0 (thn T (.clr [0,4,5,13,14,15,16,17,18,19,20,21,22,23,24,25,26,27,28,29,30,31,32,33,34,35,36,37,38,39,40,41,42,43,44] i42n98) (finE none [4,5] (Q42 L r))))))))))))))) (e' := (mkE [(1,(V.int .u8 x1)),(4,(V.bool false))] 41)) (by kernel_rfl) ?_;refine Run.exit ?_;refine Rn.c (mkE [(1,(V.int .u8 x1)),(4,(V.bool false))] 41) ?_;exact w42_j1 h hp
theorem c42 {x0 : Int} {x1 : Int} {r : (Int × Bool)} (h : F42 x0 x1 = some r) (s : Bool) : Fn T 42 [(V.int .u8 x0),(V.int .u8 x1)] [] (fun v hh => deep s hh deepN v = some (.tup [(EI .u8).e r.1,EB.e r.2])) := by
  refine (w42 h HP.nil).mono ?_;rintro v hh ⟨rfl,hp⟩;exact congrArg (Option.map V.tup) (omapc ((EI .u8).hd s hh 37 _ (.inr rfl)) (omapc (EB.hd s hh 37 _ (.inr rfl)) omapn))
abbrev Q56 (L : List Ob) (r : Bool) : V → Heap → Prop := fun v h => v = EB.e r ∧ HP h (L)
abbrev RR56 (L : List Ob) (r : Bool) : List V → Heap → Prop := fun e h => endR none [2] (Q56 L r) e h
def F56 (x0 : Int) : Option Bool :=
  if (x0 == (17 : Int)) then
    some true
  else
    some (x0 == (18 : Int))
theorem w56 {x0 : Int} {r : Bool} (h : F56 x0 = some r) {H : Heap} {L : List Ob} (hp : HP H (L)) : Fn T 56 [(V.int .u8 x0)] H (Q56 L r) := by
  refine Fn.enterE t56 (e0 := (mkE [(0,(V.int .u8 x0))] 8)) (by kernel_rfl) ?_;show Run T (.clr [] i56n3) _ _ (finE none [2] (Q56 L r));refine Rn.k (mkE [(0,(V.int .u8 x0))] 8) ?_;unfold F56 at h;refine Rn.g ?_;refine Ro.t 1 ?_;refine Ro.d (mkE [(0,(V.int .u8 x0))] 8) ?_;refine Rn.g ?_;refine Ro.t 1 ?_;rcases tf (x0 == (17 : Int)) with h4779 | h4779
  · rw [ite_t h4779] at h; refine Ro.p (bool_of h4779) ?_;refine Ro.t 5 ?_;refine Ro.d (mkE [(2,(V.bool true))] 6) ?_;refine Run.ret ?_;have h := Option.some.inj h; subst h;exact ⟨(V.bool true),(by kernel_rfl),(by kernel_rfl),hp⟩
  · rw [ite_f h4779] at h; refine Ro.p (bool_of h4779) ?_;refine Ro.t 5 ?_;refine Ro.d (mkE [(2,(V.bool (x0 == (18 : Int))))] 6) ?_;refine Run.ret ?_;have h := Option.some.inj h; subst h;exact ⟨(V.bool (x0 == (18 : Int))),(by kernel_rfl),(by kernel_rfl),hp⟩
theorem c56 {x0 : Int} {r : Bool} (h : F56 x0 = some r) (s : Bool) : Fn T 56 [(V.int .u8 x0)] [] (fun v hh => deep s hh deepN v = some (EB.e r)) := by
  refine (w56 h HP.nil).mono ?_;rintro v hh ⟨rfl,hp⟩;exact EB.hd s hh 38 _ (.inr rfl)
abbrev Q59 (L : List Ob) (r : Bool) : V → Heap → Prop := fun v h => v = EB.e r ∧ HP h (L)
abbrev RR59 (L : List Ob) (r : Bool) : List V → Heap → Prop := fun e h => endR none [3] (Q59 L r) e h
def F59 (x0 : Int) (x1 : Int) : Option Bool :=
  if (decide (x1 ≥ (0 : Int))) then
    some (decide (x1 < x0))
  else
    some false
theorem w59 {x0 : Int} {x1 : Int} {r : Bool} (h : F59 x0 x1 = some r) {H : Heap} {L : List Ob} (hp : HP H (L)) : Fn T 59 [(iN x0),(V.fp (iN x1))] H (Q59 L r) := by
  refine Fn.enterE t59 (e0 := (mkE [(0,(iN x0)),(0,(V.fp (iN x1)))] 9)) (by kernel_rfl) ?_;show Run T (.clr [] i59n3) _ _ (finE none [3] (Q59 L r));refine Rn.k (mkE [(0,(iN x0)),(0,(V.fp (iN x1)))] 9) ?_;unfold F59 at h;refine Rn.g ?_;refine Ro.t 1 ?_;refine Ro.d (mkE [(0,(iN x0)),(0,(V.fp (iN x1)))] 9) ?_;refine Rn.g ?_;refine Ro.t 1 ?_;rcases tf (decide (x1 ≥ (0 : Int))) with h4787 | h4787
  · rw [ite_t h4787] at h; refine Ro.p (bool_of h4787) ?_;refine Ro.t 6 ?_;refine Ro.d (mkE [(3,(V.bool (decide (x1 < x0))))] 7) ?_;refine Run.ret ?_;have h := Option.some.inj h; subst h;exact ⟨(V.bool (decide (x1 < x0))),(by kernel_rfl),(by kernel_rfl),hp⟩
  · rw [ite_f h4787] at h; refine Ro.p (bool_of h4787) ?_;refine Ro.t 6 ?_;refine Ro.d (mkE [(3,(V.bool false))] 7) ?_;refine Run.ret ?_;have h := Option.some.inj h; subst h;exact ⟨(V.bool false),(by kernel_rfl),(by kernel_rfl),hp⟩
theorem c59 {x0 : Int} {x1 : Int} {r : Bool} (h : F59 x0 x1 = some r) (s : Bool) : Fn T 59 [(iN x0),(V.fp (iN x1))] [] (fun v hh => deep s hh deepN v = some (EB.e r)) := by
  refine (w59 h HP.nil).mono ?_;rintro v hh ⟨rfl,hp⟩;exact EB.hd s hh 38 _ (.inr rfl)
abbrev Q43 (L : List Ob) (r : Bool) : V → Heap → Prop := fun v h => v = EB.e r ∧ HP h (L)
abbrev RR43 (L : List Ob) (r : Bool) : List V → Heap → Prop := fun e h => endR none [10] (Q43 L r) e h
def F43 (x0 : Int) (x1 : Int) (x2 : T_Code) (x3 : T_Unit) (x4 : Int) : Option Bool :=
  if (x0 == (0 : Int)) then
    some (x1 == (0 : Int))
  else
    if (x0 == (7 : Int)) then
      (F56 x2.fOp).bind fun y4862 =>
      if y4862 then
        some (x1 == (0 : Int))
      else
        (F59 (8 : Int) x1).bind fun y4865 =>
        some y4865
    else
      if (x0 == (1 : Int)) then
        (F59 (8 : Int) x1).bind fun y4868 =>
        some y4868
      else
        if (x0 == (2 : Int)) then
          (F59 x3.fFrame x1).bind fun y4871 =>
          some y4871
        else
          if (x0 == (3 : Int)) then
            (F59 ((List.length x3.fCode : Nat) : Int) x1).bind fun y4874 =>
            some y4874
          else
            if (x0 == (4 : Int)) then
              (F59 ((List.length x3.fParams : Nat) : Int) x1).bind fun y4877 =>
              some y4877
            else
              if (x0 == (5 : Int)) then
                (F59 (8 : Int) x1).bind fun y4880 =>
                some y4880
              else
                (F59 x4 x1).bind fun y4882 =>
                some y4882
theorem w43 {x0 : Int} {x1 : Int} {x2 : T_Code} {x3 : T_Unit} {x4 : Int} {r : Bool} (h : F43 x0 x1 x2 x3 x4 = some r) {H : Heap} {L : List Ob} (hp : HP H (L)) : Fn T 43 [(V.int .u8 x0),(iN x1),(E_Code.e x2),(V.fp (E_Unit.e x3)),(iN x4)] H (Q43 L r) := by
  refine Fn.enterE t43 (e0 := (mkE [(0,(V.int .u8 x0)),(0,(iN x1)),(0,(E_Code.e x2)),(0,(V.fp (E_Unit.e x3))),(0,(iN x4))] 59)) (by kernel_rfl) ?_;show Run T (.clr [] i43n50) _ _ (finE none [10] (Q43 L r));refine Rn.k (mkE [(0,(V.int .u8 x0)),(0,(iN x1)),(0,(E_Code.e x2)),(0,(V.fp (E_Unit.e x3))),(0,(iN x4))] 59) ?_;unfold F43 at h;refine Rn.g ?_;refine Ro.t 3 ?_;refine Ro.d (mkE [(0,(V.int .u8 x0)),(2,(V.fp (E_Unit.e x3))),(0,(iN x4)),(1,(V.fp (iN x1))),(0,(V.fp (E_Code.e x2)))] 56) ?_;refine Rn.g ?_;refine Ro.t 2 ?_;refine Ro.d (mkE [(0,(V.int .u8 x0)),(2,(V.fp (E_Unit.e x3))),(0,(iN x4)),(1,(V.fp (iN x1))),(0,(V.fp (E_Code.e x2))),(3,(V.fn 59 [(V.fp (iN x1))]))] 52) ?_;refine Run.seq ?_;refine Rn.g ?_;refine Ro.t 1 ?_;refine Ro.d (mkE [(3,(V.fp (E_Unit.e x3))),(0,(iN x4)),(1,(V.fp (iN x1))),(0,(V.fp (E_Code.e x2))),(3,(V.fn 59 [(V.fp (iN x1))])),(1,(V.int .u8 x0))] 50) ?_;refine Run.block ?_;refine Rn.g ?_;refine Ro.t 2 ?_;refine Ro.d (mkE [(3,(V.fp (E_Unit.e x3))),(0,(iN x4)),(1,(V.fp (iN x1))),(0,(V.fp (E_Code.e x2))),(3,(V.fn 59 [(V.fp (iN x1))])),(1,(V.int .u8 x0)),(0,(V.bool (x0 == (0 : Int))))] 49) ?_;rcases tf (x0 == (0 : Int)) with h4857 | h4857
  · rw [ite_t h4857] at h; refine Rn.t h4857 ?_;refine Rn.g ?_;refine Ro.t 3 ?_;refine Ro.d (mkE [(10,(V.bool (x1 == (0 : Int))))] 53) ?_;refine Run.ret ?_;have h := Option.some.inj h; subst h;exact ⟨(V.bool (x1 == (0 : Int))),(by kernel_rfl),(by kernel_rfl),hp⟩
  · rw [ite_f h4857] at h; refine Rn.f h4857 ?_;refine Rn.g ?_;refine Ro.t 2 ?_;refine Ro.d (mkE [(3,(V.fp (E_Unit.e x3))),(0,(iN x4)),(1,(V.fp (iN x1))),(0,(V.fp (E_Code.e x2))),(3,(V.fn 59 [(V.fp (iN x1))])),(1,(V.int .u8 x0)),(4,(V.bool (x0 == (7 : Int))))] 45) ?_;rcases tf (x0 == (7 : Int)) with h4858 | h4858
    · rw [ite_t h4858] at h; refine Rn.t h4858 ?_;refine Run.seq ?_;refine Rn.g ?_;refine Ro.t 2 ?_;obtain ⟨y4862,h4863,h⟩ := bind_some h;refine RunO.c1 (by kernel_rfl) (by kernel_rfl) (c56 h4863 _) ?_;refine Ro.d (mkE [(6,(V.fp (iN x1))),(4,(V.fn 59 [(V.fp (iN x1))])),(10,(V.bool y4862))] 41) ?_;rcases tf y4862 with h4864 | h4864
      · rw [ite_t h4864] at h; refine Rn.t h4864 ?_;refine Rn.g ?_;refine Ro.t 3 ?_;refine Ro.d (mkE [(10,(V.bool (x1 == (0 : Int))))] 53) ?_;refine Run.ret ?_;have h := Option.some.inj h; subst h;exact ⟨(V.bool (x1 == (0 : Int))),(by kernel_rfl),(by kernel_rfl),hp⟩
      · rw [ite_f h4864] at h; refine Rn.f h4864 ?_;refine Run.skip ?_;refine Rn.c (mkE [(11,(V.fn 59 [(V.fp (iN x1))]))] 52) ?_;refine Rn.g ?_;refine Ro.t 1 ?_;obtain ⟨y4865,h4866,h⟩ := bind_some h;refine RunO.h1 (n := 59) (caps := [(V.fp (iN x1))]) (us := [(iN (8 : Int)),(V.fp (iN x1))]) (by kernel_rfl) (by kernel_rfl) (by kernel_rfl) ((w59 h4866 hp).mono ?_);rintro _ H ⟨rfl,hp⟩;have hp : HP H (L) := hp;refine Ro.t 1 ?_;refine Ro.d (mkE [(10,(V.bool y4865))] 53) ?_;refine Run.ret ?_;have h := Option.some.inj h; subst h;exact ⟨(V.bool y4865),(by kernel_rfl),(by kernel_rfl),hp⟩
    · rw [ite_f h4858] at h; refine Rn.f h4858 ?_;refine Rn.g ?_;refine Ro.t 2 ?_;refine Ro.d (mkE [(3,(V.fp (E_Unit.e x3))),(0,(iN x4)),(6,(V.fn 59 [(V.fp (iN x1))])),(1,(V.int .u8 x0)),(13,(V.bool (x0 == (1 : Int))))] 36) ?_;rcases tf (x0 == (1 : Int)) with h4867 | h4867
      · rw [ite_t h4867] at h; refine Rn.t h4867 ?_;refine Rn.g ?_;refine Ro.t 1 ?_;obtain ⟨y4868,h4869,h⟩ := bind_some h;refine RunO.h1 (n := 59) (caps := [(V.fp (iN x1))]) (us := [(iN (8 : Int)),(V.fp (iN x1))]) (by kernel_rfl) (by kernel_rfl) (by kernel_rfl) ((w59 h4869 hp).mono ?_);rintro _ H ⟨rfl,hp⟩;have hp : HP H (L) := hp;refine Ro.t 1 ?_;refine Ro.d (mkE [(10,(V.bool y4868))] 53) ?_;refine Run.ret ?_;have h := Option.some.inj h; subst h;exact ⟨(V.bool y4868),(by kernel_rfl),(by kernel_rfl),hp⟩
      · rw [ite_f h4867] at h; refine Rn.f h4867 ?_;refine Rn.g ?_;refine Ro.t 2 ?_;refine Ro.d (mkE [(3,(V.fp (E_Unit.e x3))),(0,(iN x4)),(6,(V.fn 59 [(V.fp (iN x1))])),(1,(V.int .u8 x0)),(17,(V.bool (x0 == (2 : Int))))] 32) ?_;rcases tf (x0 == (2 : Int)) with h4870 | h4870
        · rw [ite_t h4870] at h; refine Rn.t h4870 ?_;refine Rn.g ?_;refine Ro.t 5 ?_;obtain ⟨y4871,h4872,h⟩ := bind_some h;refine RunO.h1 (n := 59) (caps := [(V.fp (iN x1))]) (us := [(iN x3.fFrame),(V.fp (iN x1))]) (by kernel_rfl) (by kernel_rfl) (by kernel_rfl) ((w59 h4872 hp).mono ?_);rintro _ H ⟨rfl,hp⟩;have hp : HP H (L) := hp;refine Ro.t 1 ?_;refine Ro.d (mkE [(10,(V.bool y4871))] 53) ?_;refine Run.ret ?_;have h := Option.some.inj h; subst h;exact ⟨(V.bool y4871),(by kernel_rfl),(by kernel_rfl),hp⟩
        · rw [ite_f h4870] at h; refine Rn.f h4870 ?_;refine Rn.g ?_;refine Ro.t 2 ?_;refine Ro.d (mkE [(3,(V.fp (E_Unit.e x3))),(0,(iN x4)),(6,(V.fn 59 [(V.fp (iN x1))])),(1,(V.int .u8 x0)),(25,(V.bool (x0 == (3 : Int))))] 24) ?_;rcases tf (x0 == (3 : Int)) with h4873 | h4873
          · rw [ite_t h4873] at h; refine Rn.t h4873 ?_;refine Rn.g ?_;refine Ro.t 5 ?_;refine Ro.p (len_fz E_Code x3.fCode) ?_;obtain ⟨y4874,h4875,h⟩ := bind_some h;refine RunO.h1 (n := 59) (caps := [(V.fp (iN x1))]) (us := [(iN (ln x3.fCode)),(V.fp (iN x1))]) (by kernel_rfl) (by kernel_rfl) (by kernel_rfl) ((w59 h4875 hp).mono ?_);rintro _ H ⟨rfl,hp⟩;have hp : HP H (L) := hp;refine Ro.t 1 ?_;refine Ro.d (mkE [(10,(V.bool y4874))] 53) ?_;refine Run.ret ?_;have h := Option.some.inj h; subst h;exact ⟨(V.bool y4874),(by kernel_rfl),(by kernel_rfl),hp⟩
          · rw [ite_f h4873] at h; refine Rn.f h4873 ?_;refine Rn.g ?_;refine Ro.t 2 ?_;refine Ro.d (mkE [(3,(V.fp (E_Unit.e x3))),(0,(iN x4)),(6,(V.fn 59 [(V.fp (iN x1))])),(1,(V.int .u8 x0)),(34,(V.bool (x0 == (4 : Int))))] 15) ?_;rcases tf (x0 == (4 : Int)) with h4876 | h4876
            · rw [ite_t h4876] at h; refine Rn.t h4876 ?_;refine Rn.g ?_;refine Ro.t 5 ?_;refine Ro.p (len_fz (EI .u8) x3.fParams) ?_;obtain ⟨y4877,h4878,h⟩ := bind_some h;refine RunO.h1 (n := 59) (caps := [(V.fp (iN x1))]) (us := [(iN (ln x3.fParams)),(V.fp (iN x1))]) (by kernel_rfl) (by kernel_rfl) (by kernel_rfl) ((w59 h4878 hp).mono ?_);rintro _ H ⟨rfl,hp⟩;have hp : HP H (L) := hp;refine Ro.t 1 ?_;refine Ro.d (mkE [(10,(V.bool y4877))] 53) ?_;refine Run.ret ?_;have h := Option.some.inj h; subst h;exact ⟨(V.bool y4877),(by kernel_rfl),(by kernel_rfl),hp⟩
            · rw [ite_f h4876] at h; refine Rn.f h4876 ?_;refine Rn.g ?_;refine Ro.t 2 ?_;refine Ro.d (mkE [(4,(iN x4)),(6,(V.fn 59 [(V.fp (iN x1))])),(45,(V.bool (x0 == (5 : Int))))] 6) ?_;rcases tf (x0 == (5 : Int)) with h4879 | h4879
              · rw [ite_t h4879] at h; refine Rn.t h4879 ?_;refine Rn.g ?_;refine Ro.t 1 ?_;obtain ⟨y4880,h4881,h⟩ := bind_some h;refine RunO.h1 (n := 59) (caps := [(V.fp (iN x1))]) (us := [(iN (8 : Int)),(V.fp (iN x1))]) (by kernel_rfl) (by kernel_rfl) (by kernel_rfl) ((w59 h4881 hp).mono ?_);rintro _ H ⟨rfl,hp⟩;have hp : HP H (L) := hp;refine Ro.t 1 ?_;refine Ro.d (mkE [(10,(V.bool y4880))] 53) ?_;refine Run.ret ?_;have h := Option.some.inj h; subst h;exact ⟨(V.bool y4880),(by kernel_rfl),(by kernel_rfl),hp⟩
              · rw [ite_f h4879] at h; refine Rn.f h4879 ?_;refine Run.skip ?_;refine Rn.c (mkE [(4,(iN x4)),(6,(V.fn 59 [(V.fp (iN x1))]))] 52) ?_;refine Rn.g ?_;refine Ro.t 2 ?_;obtain ⟨y4882,h4883,h⟩ := bind_some h;refine RunO.h1 (n := 59) (caps := [(V.fp (iN x1))]) (us := [(iN x4),(V.fp (iN x1))]) (by kernel_rfl) (by kernel_rfl) (by kernel_rfl) ((w59 h4883 hp).mono ?_);rintro _ H ⟨rfl,hp⟩;have hp : HP H (L) := hp;refine Ro.t 1 ?_;refine Ro.d (mkE [(10,(V.bool y4882))] 53) ?_;refine Run.ret ?_;have h := Option.some.inj h; subst h;exact ⟨(V.bool y4882),(by kernel_rfl),(by kernel_rfl),hp⟩
theorem c43 {x0 : Int} {x1 : Int} {x2 : T_Code} {x3 : T_Unit} {x4 : Int} {r : Bool} (h : F43 x0 x1 x2 x3 x4 = some r) (s : Bool) : Fn T 43 [(V.int .u8 x0),(iN x1),(E_Code.e x2),(V.fp (E_Unit.e x3)),(iN x4)] [] (fun v hh => deep s hh deepN v = some (EB.e r)) := by
  refine (w43 h HP.nil).mono ?_;rintro v hh ⟨rfl,hp⟩;exact EB.hd s hh 38 _ (.inr rfl)
abbrev Q25 (L : List Ob) (r : Bool) : V → Heap → Prop := fun v h => v = EB.e r ∧ HP h (L)
abbrev RR25 (L : List Ob) (r : Bool) : List V → Heap → Prop := fun e h => endR none [6] (Q25 L r) e h
def F25_j2 (x0 : T_Code) (x1 : T_Unit) (x2 : Int) (y4915 : T_form) : Option Bool :=
  (F43 y4915.fa x0.fA x0 x1 x2).bind fun y4987 =>
  if y4987 then
    (F43 y4915.fb x0.fB x0 x1 x2).bind fun y4990 =>
    if y4990 then
      if y4915.frow then
        some true
      else
        (F43 y4915.fc x0.fC x0 x1 x2).bind fun y4994 =>
        some y4994
    else
      some false
  else
    some false
theorem w25_j2 {x0 : T_Code} {x1 : T_Unit} {x2 : Int} {y4915 : T_form} {r : Bool} (h : F25_j2 x0 x1 x2 y4915 = some r) {b4917 : Nat} {H : Heap} {L : List Ob} (hp : HP H ((some (b4917,0),[(V.int .u8 y4915.fa),(V.int .u8 y4915.fb),(V.int .u8 y4915.fc),(V.bool y4915.fop),(V.bool y4915.ft),(V.bool y4915.fto),(V.bool y4915.ftrap),(V.bool y4915.fbits),(V.bool y4915.frow)]) :: L)) :
    Run T i25n56 (mkE [(1,(V.fp (E_Unit.e x1))),(0,(iN x2)),(0,(V.fp (E_Code.e x0))),(3,(V.ptr b4917 0 0))] 169) H (finE none [6] (Q25 L r)) := by
  unfold F25_j2 at h;refine Rn.g ?_;refine Ro.t 1 ?_;refine Ro.p (hp.ld 0 (off := 0) (n := none) (v := (V.int .u8 y4915.fa)) rfl (by kernel_rfl)) ?_;refine Ro.t 5 ?_;obtain ⟨y4987,h4988,h⟩ := bind_some h;rcases tf y4987 with h4989 | h4989
  · subst h4989; rw [if_pos rfl] at h;refine RunO.c1 (by kernel_rfl) (by kernel_rfl) (c43 h4988 _) ?_;refine Ro.t 2 ?_;refine Ro.p (hp.ld 0 (off := 1) (n := none) (v := (V.int .u8 y4915.fb)) rfl (by kernel_rfl)) ?_;refine Ro.t 5 ?_;obtain ⟨y4990,h4991,h⟩ := bind_some h;rcases tf y4990 with h4992 | h4992
    · subst h4992; rw [if_pos rfl] at h;refine RunO.c1 (by kernel_rfl) (by kernel_rfl) (c43 h4991 _) ?_;refine Ro.t 3 ?_;rcases tf y4915.frow with h4993 | h4993
      · rw [ite_t h4993] at h; refine Ro.p (Eq.trans (hp.ld 0 (off := 8) (n := none) (v := (V.bool y4915.frow)) rfl (by kernel_rfl)) (bool_of h4993)) ?_;refine Ro.t 12 ?_;refine Ro.d (mkE [(6,(V.bool true))] 170) ?_;refine Run.ret ?_;have h := Option.some.inj h; subst h;have hp := hp.del 0;exact ⟨(V.bool true),(by kernel_rfl),(by kernel_rfl),hp⟩
      · rw [ite_f h4993] at h; refine Ro.p (Eq.trans (hp.ld 0 (off := 8) (n := none) (v := (V.bool y4915.frow)) rfl (by kernel_rfl)) (bool_of h4993)) ?_;refine Ro.t 2 ?_;refine Ro.p (hp.ld 0 (off := 2) (n := none) (v := (V.int .u8 y4915.fc)) rfl (by kernel_rfl)) ?_;refine Ro.t 5 ?_;obtain ⟨y4994,h4995,h⟩ := bind_some h;refine RunO.c1 (by kernel_rfl) (by kernel_rfl) (c43 h4995 _) ?_;refine Ro.t 3 ?_;refine Ro.d (mkE [(6,(V.bool y4994))] 170) ?_;refine Run.ret ?_;have h := Option.some.inj h; subst h;have hp := hp.del 0;exact ⟨(V.bool y4994),(by kernel_rfl),(by kernel_rfl),hp⟩
    · subst h4992; rw [if_neg (by decide)] at h;refine RunO.c1 (by kernel_rfl) (by kernel_rfl) (c43 h4991 _) ?_;refine Ro.t 16 ?_;refine Ro.d (mkE [(6,(V.bool false))] 170) ?_;refine Run.ret ?_;have h := Option.some.inj h; subst h;have hp := hp.del 0;exact ⟨(V.bool false),(by kernel_rfl),(by kernel_rfl),hp⟩
  · subst h4989; rw [if_neg (by decide)] at h;refine RunO.c1 (by kernel_rfl) (by kernel_rfl) (c43 h4988 _) ?_;refine Ro.t 25 ?_;refine Ro.d (mkE [(6,(V.bool false))] 170) ?_;refine Run.ret ?_;have h := Option.some.inj h; subst h;have hp := hp.del 0;exact ⟨(V.bool false),(by kernel_rfl),(by kernel_rfl),hp⟩
def F25_j1 (x0 : T_Code) (x1 : T_Unit) (x2 : Int) (y4915 : T_form) : Option Bool :=
  if y4915.fop then
    (F42 x0.fOp x0.fType).bind fun y4997 =>
    if (!y4997.2) then
      some false
    else
      F25_j2 x0 x1 x2 y4915
  else
    F25_j2 x0 x1 x2 y4915
theorem w25_j1 {x0 : T_Code} {x1 : T_Unit} {x2 : Int} {y4915 : T_form} {r : Bool} (h : F25_j1 x0 x1 x2 y4915 = some r) {b4917 : Nat} {H : Heap} {L : List Ob} (hp : HP H ((some (b4917,0),[(V.int .u8 y4915.fa),(V.int .u8 y4915.fb),(V.int .u8 y4915.fc),(V.bool y4915.fop),(V.bool y4915.ft),(V.bool y4915.fto),(V.bool y4915.ftrap),(V.bool y4915.fbits),(V.bool y4915.frow)]) :: L)) :
    Run T i25n57 (mkE [(1,(V.fp (E_Unit.e x1))),(0,(iN x2)),(0,(V.fp (E_Code.e x0))),(3,(V.ptr b4917 0 0))] 169) H (finE none [6] (Q25 L r)) := by
  unfold F25_j1 at h;refine Run.seq ?_;refine Rn.g ?_;refine Ro.t 1 ?_;refine Ro.p (hp.ld 0 (off := 3) (n := none) (v := (V.bool y4915.fop)) rfl (by kernel_rfl)) ?_;refine Ro.d (mkE [(1,(V.fp (E_Unit.e x1))),(0,(iN x2)),(0,(V.fp (E_Code.e x0))),(3,(V.ptr b4917 0 0)),(126,(V.bool y4915.fop))] 42) ?_;rcases tf y4915.fop with h4996 | h4996
  · rw [ite_t h4996] at h; refine Rn.t h4996 ?_;refine Rn.g ?_;refine Ro.t 4 ?_;obtain ⟨y4997,h4998,h⟩ := bind_some h;refine RunO.c1 (by kernel_rfl) (by kernel_rfl) (c42 h4998 _) ?_;refine Ro.t 5 ?_;refine Ro.d (mkE [(1,(V.fp (E_Unit.e x1))),(0,(iN x2)),(0,(V.fp (E_Code.e x0))),(3,(V.ptr b4917 0 0)),(1,(V.bool y4997.2))] 167) ?_;refine Rn.g ?_;refine Ro.t 2 ?_;refine Ro.d (mkE [(1,(V.fp (E_Unit.e x1))),(0,(iN x2)),(0,(V.fp (E_Code.e x0))),(3,(V.ptr b4917 0 0)),(136,(V.bool (!y4997.2)))] 32) ?_;rcases tf (!y4997.2) with h4999 | h4999
    · rw [ite_t h4999] at h; refine Rn.t h4999 ?_;refine Rn.g ?_;refine Ro.t 1 ?_;refine Ro.d (mkE [(6,(V.bool false))] 170) ?_;refine Run.ret ?_;have h := Option.some.inj h; subst h;have hp := hp.del 0;exact ⟨(V.bool false),(by kernel_rfl),(by kernel_rfl),hp⟩
    · rw [ite_f h4999] at h; refine Rn.f h4999 ?_;refine Run.skip ?_;refine Rn.c (mkE [(1,(V.fp (E_Unit.e x1))),(0,(iN x2)),(0,(V.fp (E_Code.e x0))),(3,(V.ptr b4917 0 0))] 169) ?_;exact w25_j2 h hp
  · rw [ite_f h4996] at h; refine Rn.f h4996 ?_;refine Run.skip ?_;refine Rn.c (mkE [(1,(V.fp (E_Unit.e x1))),(0,(iN x2)),(0,(V.fp (E_Code.e x0))),(3,(V.ptr b4917 0 0))] 169) ?_;exact w25_j2 h hp
def F25_j6 (x0 : T_Code) (x1 : T_Unit) (x2 : Int) (y4915 : T_form) (y5033 : Bool) : Option Bool :=
  if y5033 then
    some false
  else
    if (x0.fKind == (13 : Int)) then
      if (decide (x0.fType < (1 : Int))) then
        some false
      else
        if (decide (x0.fType > (5 : Int))) then
          some false
        else
          F25_j1 x0 x1 x2 y4915
    else
      F25_j1 x0 x1 x2 y4915
theorem w25_j6 {x0 : T_Code} {x1 : T_Unit} {x2 : Int} {y4915 : T_form} {y5033 : Bool} {r : Bool} (h : F25_j6 x0 x1 x2 y4915 y5033 = some r) {b4917 : Nat} {H : Heap} {L : List Ob} (hp : HP H ((some (b4917,0),[(V.int .u8 y4915.fa),(V.int .u8 y4915.fb),(V.int .u8 y4915.fc),(V.bool y4915.fop),(V.bool y4915.ft),(V.bool y4915.fto),(V.bool y4915.ftrap),(V.bool y4915.fbits),(V.bool y4915.frow)]) :: L)) :
    Run T i25n36 (mkE [(1,(V.fp (E_Unit.e x1))),(0,(iN x2)),(0,(V.fp (E_Code.e x0))),(3,(V.ptr b4917 0 0)),(100,(V.bool y5033))] 68) H (blk 0 (thn T (.clr [6,18,19,20,21,22,23,24,25,26,27,28,29,30,31,32,33,34,35,36,37,38,39,40,41,42,43,44,45,46,47,48,49,50,51,52,53,54,55,56,57,58,59,60,61,62,63,64,65,66,67,68,69,70,71,72,73,74,75,76,77,78,79,80,81,82,83,84,85,86,87,88,89,90,91,92,93,94,95,96,97,98,99,100,101,102,103,104,105,106,107,108,109,110,111,112,113,114,115,116,117,118,119,120,121,122,123,124,125,126,127,128,129,130,131,132] i25n57) (finE none [6] (Q25 L r)))) := by
  unfold F25_j6 at h;rcases tf y5033 with h5034 | h5034
  · rw [ite_t h5034] at h; refine Rn.t h5034 ?_;refine Rn.g ?_;refine Ro.t 1 ?_;refine Ro.d (mkE [(6,(V.bool false))] 170) ?_;refine Run.ret ?_;have h := Option.some.inj h; subst h;have hp := hp.del 0;exact ⟨(V.bool false),(by kernel_rfl),(by kernel_rfl),hp⟩
  · rw [ite_f h5034] at h; refine Rn.f h5034 ?_;refine Rn.g ?_;refine Ro.t 2 ?_;rcases tf (x0.fKind == (13 : Int)) with h5035 | h5035
    · rw [ite_t h5035] at h; refine Ro.p (bool_of h5035) ?_;refine Ro.t 3 ?_;rcases tf (decide (x0.fType < (1 : Int))) with h5036 | h5036
      · rw [ite_t h5036] at h; refine Ro.p (bool_of h5036) ?_;refine Ro.t 7 ?_;refine Ro.d (mkE [(1,(V.fp (E_Unit.e x1))),(0,(iN x2)),(0,(V.fp (E_Code.e x0))),(3,(V.ptr b4917 0 0)),(111,(V.bool true))] 57) ?_;refine Run.condT (by kernel_rfl) ?_;refine Rn.g ?_;refine Ro.t 1 ?_;refine Ro.d (mkE [(6,(V.bool false))] 170) ?_;refine Run.ret ?_;have h := Option.some.inj h; subst h;have hp := hp.del 0;exact ⟨(V.bool false),(by kernel_rfl),(by kernel_rfl),hp⟩
      · rw [ite_f h5036] at h; refine Ro.p (bool_of h5036) ?_;refine Ro.t 7 ?_;refine Ro.d (mkE [(1,(V.fp (E_Unit.e x1))),(0,(iN x2)),(0,(V.fp (E_Code.e x0))),(3,(V.ptr b4917 0 0)),(111,(V.bool (decide (x0.fType > (5 : Int)))))] 57) ?_;rcases tf (decide (x0.fType > (5 : Int))) with h5037 | h5037
        · rw [ite_t h5037] at h; refine Rn.t h5037 ?_;refine Rn.g ?_;refine Ro.t 1 ?_;refine Ro.d (mkE [(6,(V.bool false))] 170) ?_;refine Run.ret ?_;have h := Option.some.inj h; subst h;have hp := hp.del 0;exact ⟨(V.bool false),(by kernel_rfl),(by kernel_rfl),hp⟩
        · rw [ite_f h5037] at h; refine Rn.f h5037 ?_;refine Run.skip ?_;refine Rn.c (mkE [(1,(V.fp (E_Unit.e x1))),(0,(iN x2)),(0,(V.fp (E_Code.e x0))),(3,(V.ptr b4917 0 0))] 169) ?_;exact w25_j1 h hp
    · rw [ite_f h5035] at h; refine Ro.p (bool_of h5035) ?_;refine Ro.t 11 ?_;refine Ro.d (mkE [(1,(V.fp (E_Unit.e x1))),(0,(iN x2)),(0,(V.fp (E_Code.e x0))),(3,(V.ptr b4917 0 0)),(111,(V.bool false))] 57) ?_;refine Run.condF (by kernel_rfl) ?_;refine Run.skip ?_;refine Rn.c (mkE [(1,(V.fp (E_Unit.e x1))),(0,(iN x2)),(0,(V.fp (E_Code.e x0))),(3,(V.ptr b4917 0 0))] 169) ?_;exact w25_j1 h hp
def F25_j5 (x0 : T_Code) (x1 : T_Unit) (x2 : Int) (y4915 : T_form) (y5028 : Bool) : Option Bool :=
  if y5028 then
    some false
  else
    if y4915.fto then
      (F41 x0.fTo x0.fType).bind fun y5039 =>
      F25_j6 x0 x1 x2 y4915 ((!y5039))
    else
      F25_j6 x0 x1 x2 y4915 (false)
theorem w25_j5 {x0 : T_Code} {x1 : T_Unit} {x2 : Int} {y4915 : T_form} {y5028 : Bool} {r : Bool} (h : F25_j5 x0 x1 x2 y4915 y5028 = some r) {b4917 : Nat} {H : Heap} {L : List Ob} (hp : HP H ((some (b4917,0),[(V.int .u8 y4915.fa),(V.int .u8 y4915.fb),(V.int .u8 y4915.fc),(V.bool y4915.fop),(V.bool y4915.ft),(V.bool y4915.fto),(V.bool y4915.ftrap),(V.bool y4915.fbits),(V.bool y4915.frow)]) :: L)) :
    Run T i25n38 (mkE [(1,(V.fp (E_Unit.e x1))),(0,(iN x2)),(0,(V.fp (E_Code.e x0))),(3,(V.ptr b4917 0 0)),(69,(V.bool y5028))] 99) H (blk 0 (thn T (.clr [6,18,19,20,21,22,23,24,25,26,27,28,29,30,31,32,33,34,35,36,37,38,39,40,41,42,43,44,45,46,47,48,49,50,51,52,53,54,55,56,57,58,59,60,61,62,63,64,65,66,67,68,69,70,71,72,73,74,75,76,77,78,79,80,81,82,83,84,85,86,87,88,89,90,91,92,93,94,95,96,97,98,99,100,101,102,103,104,105,106,107,108,109,110,111,112,113,114,115,116,117,118,119,120,121,122,123,124,125,126,127,128,129,130,131,132] i25n57) (finE none [6] (Q25 L r)))) := by
  unfold F25_j5 at h;rcases tf y5028 with h5029 | h5029
  · rw [ite_t h5029] at h; refine Rn.t h5029 ?_;refine Rn.g ?_;refine Ro.t 1 ?_;refine Ro.d (mkE [(6,(V.bool false))] 170) ?_;refine Run.ret ?_;have h := Option.some.inj h; subst h;have hp := hp.del 0;exact ⟨(V.bool false),(by kernel_rfl),(by kernel_rfl),hp⟩
  · rw [ite_f h5029] at h; refine Rn.f h5029 ?_;refine Rn.g ?_;refine Ro.t 1 ?_;rcases tf y4915.fto with h5038 | h5038
    · rw [ite_t h5038] at h; refine Ro.p (Eq.trans (hp.ld 0 (off := 5) (n := none) (v := (V.bool y4915.fto)) rfl (by kernel_rfl)) (bool_of h5038)) ?_;refine Ro.t 5 ?_;obtain ⟨y5039,h5040,h⟩ := bind_some h;refine RunO.c1 (by kernel_rfl) (by kernel_rfl) (c41 h5040 _) ?_;refine Ro.t 3 ?_;refine Ro.d (mkE [(1,(V.fp (E_Unit.e x1))),(0,(iN x2)),(0,(V.fp (E_Code.e x0))),(3,(V.ptr b4917 0 0)),(100,(V.bool (!y5039)))] 68) ?_;exact w25_j6 h hp
    · rw [ite_f h5038] at h; refine Ro.p (Eq.trans (hp.ld 0 (off := 5) (n := none) (v := (V.bool y4915.fto)) rfl (by kernel_rfl)) (bool_of h5038)) ?_;refine Ro.t 9 ?_;refine Ro.d (mkE [(1,(V.fp (E_Unit.e x1))),(0,(iN x2)),(0,(V.fp (E_Code.e x0))),(3,(V.ptr b4917 0 0)),(100,(V.bool false))] 68) ?_;exact w25_j6 h hp
def F25_j4 (x0 : T_Code) (x1 : T_Unit) (x2 : Int) (y4915 : T_form) (y5022 : Bool) : Option Bool :=
  if y5022 then
    some false
  else
    if y4915.frow then
      if (decide (x0.fBits < (1 : Int))) then
        F25_j5 x0 x1 x2 y4915 (true)
      else
        if (decide (x0.fBits > (256 : Int))) then
          F25_j5 x0 x1 x2 y4915 (true)
        else
          if (decide (x0.fC < (0 : Int))) then
            F25_j5 x0 x1 x2 y4915 (true)
          else
            F25_j5 x0 x1 x2 y4915 ((decide (x0.fC > (IntKind.i64.wrap (x1.fFrame - (IntKind.i64.wrap x0.fBits))))))
    else
      F25_j5 x0 x1 x2 y4915 (false)
theorem w25_j4 {x0 : T_Code} {x1 : T_Unit} {x2 : Int} {y4915 : T_form} {y5022 : Bool} {r : Bool} (h : F25_j4 x0 x1 x2 y4915 y5022 = some r) {b4917 : Nat} {H : Heap} {L : List Ob} (hp : HP H ((some (b4917,0),[(V.int .u8 y4915.fa),(V.int .u8 y4915.fb),(V.int .u8 y4915.fc),(V.bool y4915.fop),(V.bool y4915.ft),(V.bool y4915.fto),(V.bool y4915.ftrap),(V.bool y4915.fbits),(V.bool y4915.frow)]) :: L)) :
    Run T i25n40 (mkE [(1,(V.fp (E_Unit.e x1))),(0,(iN x2)),(0,(V.fp (E_Code.e x0))),(3,(V.ptr b4917 0 0)),(56,(V.bool y5022))] 112) H (blk 0 (thn T (.clr [6,18,19,20,21,22,23,24,25,26,27,28,29,30,31,32,33,34,35,36,37,38,39,40,41,42,43,44,45,46,47,48,49,50,51,52,53,54,55,56,57,58,59,60,61,62,63,64,65,66,67,68,69,70,71,72,73,74,75,76,77,78,79,80,81,82,83,84,85,86,87,88,89,90,91,92,93,94,95,96,97,98,99,100,101,102,103,104,105,106,107,108,109,110,111,112,113,114,115,116,117,118,119,120,121,122,123,124,125,126,127,128,129,130,131,132] i25n57) (finE none [6] (Q25 L r)))) := by
  unfold F25_j4 at h;rcases tf y5022 with h5023 | h5023
  · rw [ite_t h5023] at h; refine Rn.t h5023 ?_;refine Rn.g ?_;refine Ro.t 1 ?_;refine Ro.d (mkE [(6,(V.bool false))] 170) ?_;refine Run.ret ?_;have h := Option.some.inj h; subst h;have hp := hp.del 0;exact ⟨(V.bool false),(by kernel_rfl),(by kernel_rfl),hp⟩
  · rw [ite_f h5023] at h; refine Rn.f h5023 ?_;refine Rn.g ?_;refine Ro.t 1 ?_;rcases tf y4915.frow with h5041 | h5041
    · rw [ite_t h5041] at h; refine Ro.p (Eq.trans (hp.ld 0 (off := 8) (n := none) (v := (V.bool y4915.frow)) rfl (by kernel_rfl)) (bool_of h5041)) ?_;refine Ro.t 3 ?_;rcases tf (decide (x0.fBits < (1 : Int))) with h5042 | h5042
      · rw [ite_t h5042] at h; refine Ro.p (bool_of h5042) ?_;refine Ro.t 25 ?_;refine Ro.d (mkE [(1,(V.fp (E_Unit.e x1))),(0,(iN x2)),(0,(V.fp (E_Code.e x0))),(3,(V.ptr b4917 0 0)),(69,(V.bool true))] 99) ?_;exact w25_j5 h hp
      · rw [ite_f h5042] at h; refine Ro.p (bool_of h5042) ?_;refine Ro.t 3 ?_;rcases tf (decide (x0.fBits > (256 : Int))) with h5043 | h5043
        · rw [ite_t h5043] at h; refine Ro.p (bool_of h5043) ?_;refine Ro.t 21 ?_;refine Ro.d (mkE [(1,(V.fp (E_Unit.e x1))),(0,(iN x2)),(0,(V.fp (E_Code.e x0))),(3,(V.ptr b4917 0 0)),(69,(V.bool true))] 99) ?_;exact w25_j5 h hp
        · rw [ite_f h5043] at h; refine Ro.p (bool_of h5043) ?_;refine Ro.t 4 ?_;rcases tf (decide (x0.fC < (0 : Int))) with h5044 | h5044
          · rw [ite_t h5044] at h; refine Ro.p (bool_of h5044) ?_;refine Ro.t 16 ?_;refine Ro.d (mkE [(1,(V.fp (E_Unit.e x1))),(0,(iN x2)),(0,(V.fp (E_Code.e x0))),(3,(V.ptr b4917 0 0)),(69,(V.bool true))] 99) ?_;exact w25_j5 h hp
          · rw [ite_f h5044] at h; refine Ro.p (bool_of h5044) ?_;refine Ro.t 16 ?_;refine Ro.d (mkE [(1,(V.fp (E_Unit.e x1))),(0,(iN x2)),(0,(V.fp (E_Code.e x0))),(3,(V.ptr b4917 0 0)),(69,(V.bool (decide (x0.fC > (IntKind.i64.wrap (x1.fFrame - (IntKind.i64.wrap x0.fBits)))))))] 99) ?_;exact w25_j5 h hp
    · rw [ite_f h5041] at h; refine Ro.p (Eq.trans (hp.ld 0 (off := 8) (n := none) (v := (V.bool y4915.frow)) rfl (by kernel_rfl)) (bool_of h5041)) ?_;refine Ro.t 29 ?_;refine Ro.d (mkE [(1,(V.fp (E_Unit.e x1))),(0,(iN x2)),(0,(V.fp (E_Code.e x0))),(3,(V.ptr b4917 0 0)),(69,(V.bool false))] 99) ?_;exact w25_j5 h hp
def F25_j3 (x0 : T_Code) (x1 : T_Unit) (x2 : Int) (y4915 : T_form) (y5018 : Bool) : Option Bool :=
  if y5018 then
    some false
  else
    if y4915.ftrap then
      if (decide (x0.fTrap < (1 : Int))) then
        F25_j4 x0 x1 x2 y4915 (true)
      else
        F25_j4 x0 x1 x2 y4915 ((decide (x0.fTrap > (3 : Int))))
    else
      F25_j4 x0 x1 x2 y4915 (false)
theorem w25_j3 {x0 : T_Code} {x1 : T_Unit} {x2 : Int} {y4915 : T_form} {y5018 : Bool} {r : Bool} (h : F25_j3 x0 x1 x2 y4915 y5018 = some r) {b4917 : Nat} {H : Heap} {L : List Ob} (hp : HP H ((some (b4917,0),[(V.int .u8 y4915.fa),(V.int .u8 y4915.fb),(V.int .u8 y4915.fc),(V.bool y4915.fop),(V.bool y4915.ft),(V.bool y4915.fto),(V.bool y4915.ftrap),(V.bool y4915.fbits),(V.bool y4915.frow)]) :: L)) :
    Run T i25n42 (mkE [(1,(V.fp (E_Unit.e x1))),(0,(iN x2)),(0,(V.fp (E_Code.e x0))),(3,(V.ptr b4917 0 0)),(10,(V.bool y5018))] 158) H (blk 0 (thn T (.clr [6,18,19,20,21,22,23,24,25,26,27,28,29,30,31,32,33,34,35,36,37,38,39,40,41,42,43,44,45,46,47,48,49,50,51,52,53,54,55,56,57,58,59,60,61,62,63,64,65,66,67,68,69,70,71,72,73,74,75,76,77,78,79,80,81,82,83,84,85,86,87,88,89,90,91,92,93,94,95,96,97,98,99,100,101,102,103,104,105,106,107,108,109,110,111,112,113,114,115,116,117,118,119,120,121,122,123,124,125,126,127,128,129,130,131,132] i25n57) (finE none [6] (Q25 L r)))) := by
  unfold F25_j3 at h;rcases tf y5018 with h5019 | h5019
  · rw [ite_t h5019] at h; refine Rn.t h5019 ?_;refine Rn.g ?_;refine Ro.t 1 ?_;refine Ro.d (mkE [(6,(V.bool false))] 170) ?_;refine Run.ret ?_;have h := Option.some.inj h; subst h;have hp := hp.del 0;exact ⟨(V.bool false),(by kernel_rfl),(by kernel_rfl),hp⟩
  · rw [ite_f h5019] at h; refine Rn.f h5019 ?_;refine Rn.g ?_;refine Ro.t 1 ?_;rcases tf y4915.ftrap with h5045 | h5045
    · rw [ite_t h5045] at h; refine Ro.p (Eq.trans (hp.ld 0 (off := 6) (n := none) (v := (V.bool y4915.ftrap)) rfl (by kernel_rfl)) (bool_of h5045)) ?_;refine Ro.t 3 ?_;rcases tf (decide (x0.fTrap < (1 : Int))) with h5046 | h5046
      · rw [ite_t h5046] at h; refine Ro.p (bool_of h5046) ?_;refine Ro.t 7 ?_;refine Ro.d (mkE [(1,(V.fp (E_Unit.e x1))),(0,(iN x2)),(0,(V.fp (E_Code.e x0))),(3,(V.ptr b4917 0 0)),(56,(V.bool true))] 112) ?_;exact w25_j4 h hp
      · rw [ite_f h5046] at h; refine Ro.p (bool_of h5046) ?_;refine Ro.t 7 ?_;refine Ro.d (mkE [(1,(V.fp (E_Unit.e x1))),(0,(iN x2)),(0,(V.fp (E_Code.e x0))),(3,(V.ptr b4917 0 0)),(56,(V.bool (decide (x0.fTrap > (3 : Int)))))] 112) ?_;exact w25_j4 h hp
    · rw [ite_f h5045] at h; refine Ro.p (Eq.trans (hp.ld 0 (off := 6) (n := none) (v := (V.bool y4915.ftrap)) rfl (by kernel_rfl)) (bool_of h5045)) ?_;refine Ro.t 11 ?_;refine Ro.d (mkE [(1,(V.fp (E_Unit.e x1))),(0,(iN x2)),(0,(V.fp (E_Code.e x0))),(3,(V.ptr b4917 0 0)),(56,(V.bool false))] 112) ?_;exact w25_j4 h hp
def F25_j9 (x0 : T_Code) (x1 : T_Unit) (x2 : Int) (y4915 : T_form) (y5054 : Bool) : Option Bool :=
  if y5054 then
    F25_j3 x0 x1 x2 y4915 (y5054)
  else
    if y4915.ftrap then
      if y4915.fbits then
        F25_j3 x0 x1 x2 y4915 (false)
      else
        if y4915.frow then
          F25_j3 x0 x1 x2 y4915 (false)
        else
          F25_j3 x0 x1 x2 y4915 ((x0.fBits != (0 : Int)))
    else
      if (x0.fTrap != (0 : Int)) then
        F25_j3 x0 x1 x2 y4915 ((x0.fTrap != (0 : Int)))
      else
        if y4915.fbits then
          F25_j3 x0 x1 x2 y4915 (false)
        else
          if y4915.frow then
            F25_j3 x0 x1 x2 y4915 (false)
          else
            F25_j3 x0 x1 x2 y4915 ((x0.fBits != (0 : Int)))
theorem w25_j9 {x0 : T_Code} {x1 : T_Unit} {x2 : Int} {y4915 : T_form} {y5054 : Bool} {r : Bool} (h : F25_j9 x0 x1 x2 y4915 y5054 = some r) {b4917 : Nat} {H : Heap} {L : List Ob} (hp : HP H ((some (b4917,0),[(V.int .u8 y4915.fa),(V.int .u8 y4915.fb),(V.int .u8 y4915.fc),(V.bool y4915.fop),(V.bool y4915.ft),(V.bool y4915.fto),(V.bool y4915.ftrap),(V.bool y4915.fbits),(V.bool y4915.frow)]) :: L)) :
    Run T i25n14 (mkE [(1,(V.fp (E_Unit.e x1))),(0,(iN x2)),(0,(V.fp (E_Code.e x0))),(3,(V.ptr b4917 0 0)),(10,(V.bool y5054))] 158) H (thn T (.clr [19,20,21,22,23,24,25,26,27,28,29,30,31,32,33,34,35,36,37,38,39,40,41,42,43,44,45,46,47,48,49,50,51,52,53,54,55,56,57,58,59,60,61,62,63] i25n42) (blk 0 (thn T (.clr [6,18,19,20,21,22,23,24,25,26,27,28,29,30,31,32,33,34,35,36,37,38,39,40,41,42,43,44,45,46,47,48,49,50,51,52,53,54,55,56,57,58,59,60,61,62,63,64,65,66,67,68,69,70,71,72,73,74,75,76,77,78,79,80,81,82,83,84,85,86,87,88,89,90,91,92,93,94,95,96,97,98,99,100,101,102,103,104,105,106,107,108,109,110,111,112,113,114,115,116,117,118,119,120,121,122,123,124,125,126,127,128,129,130,131,132] i25n57) (finE none [6] (Q25 L r))))) := by
  unfold F25_j9 at h;rcases tf y5054 with h5055 | h5055
  · rw [ite_t h5055] at h; refine Rn.t h5055 ?_;refine Run.skip ?_;refine Rn.c (mkE [(1,(V.fp (E_Unit.e x1))),(0,(iN x2)),(0,(V.fp (E_Code.e x0))),(3,(V.ptr b4917 0 0)),(10,(V.bool y5054))] 158) ?_;exact w25_j3 h hp
  · rw [ite_f h5055] at h; refine Rn.f h5055 ?_;refine Rn.g ?_;refine Ro.t 1 ?_;rcases tf y4915.ftrap with h5056 | h5056
    · rw [ite_t h5056] at h; refine Ro.p (Eq.trans (hp.ld 0 (off := 6) (n := none) (v := (V.bool y4915.ftrap)) rfl (by kernel_rfl)) (bool_of h5056)) ?_;refine Ro.t 7 ?_;refine Ro.d (mkE [(1,(V.fp (E_Unit.e x1))),(0,(iN x2)),(0,(V.fp (E_Code.e x0))),(3,(V.ptr b4917 0 0)),(10,(V.bool false))] 158) ?_;refine Run.condF (by kernel_rfl) ?_;refine Run.rgn ?_;refine Ro.t 1 ?_;rcases tf y4915.fbits with h5057 | h5057
      · rw [ite_t h5057] at h; refine Ro.p (Eq.trans (hp.ld 0 (off := 7) (n := none) (v := (V.bool y4915.fbits)) rfl (by kernel_rfl)) (bool_of h5057)) ?_;refine Ro.t 12 ?_;refine Ro.d (mkE [(1,(V.fp (E_Unit.e x1))),(0,(iN x2)),(0,(V.fp (E_Code.e x0))),(3,(V.ptr b4917 0 0)),(10,(V.bool false))] 158) ?_;exact w25_j3 h hp
      · rw [ite_f h5057] at h; refine Ro.p (Eq.trans (hp.ld 0 (off := 7) (n := none) (v := (V.bool y4915.fbits)) rfl (by kernel_rfl)) (bool_of h5057)) ?_;refine Ro.t 3 ?_;rcases tf y4915.frow with h5058 | h5058
        · rw [ite_t h5058] at h; refine Ro.p (Eq.trans (hp.ld 0 (off := 8) (n := none) (v := (V.bool y4915.frow)) rfl (by kernel_rfl)) (bool_of h5058)) ?_;refine Ro.t 8 ?_;refine Ro.d (mkE [(1,(V.fp (E_Unit.e x1))),(0,(iN x2)),(0,(V.fp (E_Code.e x0))),(3,(V.ptr b4917 0 0)),(10,(V.bool false))] 158) ?_;exact w25_j3 h hp
        · rw [ite_f h5058] at h; refine Ro.p (Eq.trans (hp.ld 0 (off := 8) (n := none) (v := (V.bool y4915.frow)) rfl (by kernel_rfl)) (bool_of h5058)) ?_;refine Ro.t 8 ?_;refine Ro.d (mkE [(1,(V.fp (E_Unit.e x1))),(0,(iN x2)),(0,(V.fp (E_Code.e x0))),(3,(V.ptr b4917 0 0)),(10,(V.bool (x0.fBits != (0 : Int))))] 158) ?_;exact w25_j3 h hp
    · rw [ite_f h5056] at h; refine Ro.p (Eq.trans (hp.ld 0 (off := 6) (n := none) (v := (V.bool y4915.ftrap)) rfl (by kernel_rfl)) (bool_of h5056)) ?_;refine Ro.t 7 ?_;refine Ro.d (mkE [(1,(V.fp (E_Unit.e x1))),(0,(iN x2)),(0,(V.fp (E_Code.e x0))),(3,(V.ptr b4917 0 0)),(10,(V.bool (x0.fTrap != (0 : Int))))] 158) ?_;rcases tf (x0.fTrap != (0 : Int)) with h5059 | h5059
      · rw [ite_t h5059] at h; refine Rn.t h5059 ?_;refine Run.skip ?_;refine Rn.c (mkE [(1,(V.fp (E_Unit.e x1))),(0,(iN x2)),(0,(V.fp (E_Code.e x0))),(3,(V.ptr b4917 0 0)),(10,(V.bool (x0.fTrap != (0 : Int))))] 158) ?_;exact w25_j3 h hp
      · rw [ite_f h5059] at h; refine Rn.f h5059 ?_;refine Run.rgn ?_;refine Ro.t 1 ?_;rcases tf y4915.fbits with h5060 | h5060
        · rw [ite_t h5060] at h; refine Ro.p (Eq.trans (hp.ld 0 (off := 7) (n := none) (v := (V.bool y4915.fbits)) rfl (by kernel_rfl)) (bool_of h5060)) ?_;refine Ro.t 12 ?_;refine Ro.d (mkE [(1,(V.fp (E_Unit.e x1))),(0,(iN x2)),(0,(V.fp (E_Code.e x0))),(3,(V.ptr b4917 0 0)),(10,(V.bool false))] 158) ?_;exact w25_j3 h hp
        · rw [ite_f h5060] at h; refine Ro.p (Eq.trans (hp.ld 0 (off := 7) (n := none) (v := (V.bool y4915.fbits)) rfl (by kernel_rfl)) (bool_of h5060)) ?_;refine Ro.t 3 ?_;rcases tf y4915.frow with h5061 | h5061
          · rw [ite_t h5061] at h; refine Ro.p (Eq.trans (hp.ld 0 (off := 8) (n := none) (v := (V.bool y4915.frow)) rfl (by kernel_rfl)) (bool_of h5061)) ?_;refine Ro.t 8 ?_;refine Ro.d (mkE [(1,(V.fp (E_Unit.e x1))),(0,(iN x2)),(0,(V.fp (E_Code.e x0))),(3,(V.ptr b4917 0 0)),(10,(V.bool false))] 158) ?_;exact w25_j3 h hp
          · rw [ite_f h5061] at h; refine Ro.p (Eq.trans (hp.ld 0 (off := 8) (n := none) (v := (V.bool y4915.frow)) rfl (by kernel_rfl)) (bool_of h5061)) ?_;refine Ro.t 8 ?_;refine Ro.d (mkE [(1,(V.fp (E_Unit.e x1))),(0,(iN x2)),(0,(V.fp (E_Code.e x0))),(3,(V.ptr b4917 0 0)),(10,(V.bool (x0.fBits != (0 : Int))))] 158) ?_;exact w25_j3 h hp
def F25_j8 (x0 : T_Code) (x1 : T_Unit) (x2 : Int) (y4915 : T_form) (y5051 : Bool) : Option Bool :=
  if y5051 then
    F25_j3 x0 x1 x2 y4915 (y5051)
  else
    if y4915.fto then
      F25_j9 x0 x1 x2 y4915 (false)
    else
      F25_j9 x0 x1 x2 y4915 ((x0.fTo != (0 : Int)))
theorem w25_j8 {x0 : T_Code} {x1 : T_Unit} {x2 : Int} {y4915 : T_form} {y5051 : Bool} {r : Bool} (h : F25_j8 x0 x1 x2 y4915 y5051 = some r) {b4917 : Nat} {H : Heap} {L : List Ob} (hp : HP H ((some (b4917,0),[(V.int .u8 y4915.fa),(V.int .u8 y4915.fb),(V.int .u8 y4915.fc),(V.bool y4915.fop),(V.bool y4915.ft),(V.bool y4915.fto),(V.bool y4915.ftrap),(V.bool y4915.fbits),(V.bool y4915.frow)]) :: L)) :
    Run T i25n16 (mkE [(1,(V.fp (E_Unit.e x1))),(0,(iN x2)),(0,(V.fp (E_Code.e x0))),(3,(V.ptr b4917 0 0)),(10,(V.bool y5051))] 158) H (thn T (.clr [19,20,21,22,23,24,25,26,27,28,29,30,31,32,33,34,35,36,37,38,39,40,41,42,43,44,45,46,47,48,49,50,51,52,53,54,55,56,57,58,59,60,61,62,63] i25n42) (blk 0 (thn T (.clr [6,18,19,20,21,22,23,24,25,26,27,28,29,30,31,32,33,34,35,36,37,38,39,40,41,42,43,44,45,46,47,48,49,50,51,52,53,54,55,56,57,58,59,60,61,62,63,64,65,66,67,68,69,70,71,72,73,74,75,76,77,78,79,80,81,82,83,84,85,86,87,88,89,90,91,92,93,94,95,96,97,98,99,100,101,102,103,104,105,106,107,108,109,110,111,112,113,114,115,116,117,118,119,120,121,122,123,124,125,126,127,128,129,130,131,132] i25n57) (finE none [6] (Q25 L r))))) := by
  unfold F25_j8 at h;rcases tf y5051 with h5052 | h5052
  · rw [ite_t h5052] at h; refine Rn.t h5052 ?_;refine Run.skip ?_;refine Rn.c (mkE [(1,(V.fp (E_Unit.e x1))),(0,(iN x2)),(0,(V.fp (E_Code.e x0))),(3,(V.ptr b4917 0 0)),(10,(V.bool y5051))] 158) ?_;exact w25_j3 h hp
  · rw [ite_f h5052] at h; refine Rn.f h5052 ?_;refine Rn.g ?_;refine Ro.t 1 ?_;rcases tf y4915.fto with h5062 | h5062
    · rw [ite_t h5062] at h; refine Ro.p (Eq.trans (hp.ld 0 (off := 5) (n := none) (v := (V.bool y4915.fto)) rfl (by kernel_rfl)) (bool_of h5062)) ?_;refine Ro.t 7 ?_;refine Ro.d (mkE [(1,(V.fp (E_Unit.e x1))),(0,(iN x2)),(0,(V.fp (E_Code.e x0))),(3,(V.ptr b4917 0 0)),(10,(V.bool false))] 158) ?_;exact w25_j9 h hp
    · rw [ite_f h5062] at h; refine Ro.p (Eq.trans (hp.ld 0 (off := 5) (n := none) (v := (V.bool y4915.fto)) rfl (by kernel_rfl)) (bool_of h5062)) ?_;refine Ro.t 7 ?_;refine Ro.d (mkE [(1,(V.fp (E_Unit.e x1))),(0,(iN x2)),(0,(V.fp (E_Code.e x0))),(3,(V.ptr b4917 0 0)),(10,(V.bool (x0.fTo != (0 : Int))))] 158) ?_;exact w25_j9 h hp
def F25_j7 (x0 : T_Code) (x1 : T_Unit) (x2 : Int) (y4915 : T_form) (y5048 : Bool) : Option Bool :=
  if y5048 then
    F25_j3 x0 x1 x2 y4915 (y5048)
  else
    if y4915.ft then
      F25_j8 x0 x1 x2 y4915 (false)
    else
      F25_j8 x0 x1 x2 y4915 ((x0.fType != (0 : Int)))
theorem w25_j7 {x0 : T_Code} {x1 : T_Unit} {x2 : Int} {y4915 : T_form} {y5048 : Bool} {r : Bool} (h : F25_j7 x0 x1 x2 y4915 y5048 = some r) {b4917 : Nat} {H : Heap} {L : List Ob} (hp : HP H ((some (b4917,0),[(V.int .u8 y4915.fa),(V.int .u8 y4915.fb),(V.int .u8 y4915.fc),(V.bool y4915.fop),(V.bool y4915.ft),(V.bool y4915.fto),(V.bool y4915.ftrap),(V.bool y4915.fbits),(V.bool y4915.frow)]) :: L)) :
    Run T i25n18 (mkE [(1,(V.fp (E_Unit.e x1))),(0,(iN x2)),(0,(V.fp (E_Code.e x0))),(3,(V.ptr b4917 0 0)),(10,(V.bool y5048))] 158) H (thn T (.clr [19,20,21,22,23,24,25,26,27,28,29,30,31,32,33,34,35,36,37,38,39,40,41,42,43,44,45,46,47,48,49,50,51,52,53,54,55,56,57,58,59,60,61,62,63] i25n42) (blk 0 (thn T (.clr [6,18,19,20,21,22,23,24,25,26,27,28,29,30,31,32,33,34,35,36,37,38,39,40,41,42,43,44,45,46,47,48,49,50,51,52,53,54,55,56,57,58,59,60,61,62,63,64,65,66,67,68,69,70,71,72,73,74,75,76,77,78,79,80,81,82,83,84,85,86,87,88,89,90,91,92,93,94,95,96,97,98,99,100,101,102,103,104,105,106,107,108,109,110,111,112,113,114,115,116,117,118,119,120,121,122,123,124,125,126,127,128,129,130,131,132] i25n57) (finE none [6] (Q25 L r))))) := by
  unfold F25_j7 at h;rcases tf y5048 with h5049 | h5049
  · rw [ite_t h5049] at h; refine Rn.t h5049 ?_;refine Run.skip ?_;refine Rn.c (mkE [(1,(V.fp (E_Unit.e x1))),(0,(iN x2)),(0,(V.fp (E_Code.e x0))),(3,(V.ptr b4917 0 0)),(10,(V.bool y5048))] 158) ?_;exact w25_j3 h hp
  · rw [ite_f h5049] at h; refine Rn.f h5049 ?_;refine Rn.g ?_;refine Ro.t 1 ?_;rcases tf y4915.ft with h5063 | h5063
    · rw [ite_t h5063] at h; refine Ro.p (Eq.trans (hp.ld 0 (off := 4) (n := none) (v := (V.bool y4915.ft)) rfl (by kernel_rfl)) (bool_of h5063)) ?_;refine Ro.t 7 ?_;refine Ro.d (mkE [(1,(V.fp (E_Unit.e x1))),(0,(iN x2)),(0,(V.fp (E_Code.e x0))),(3,(V.ptr b4917 0 0)),(10,(V.bool false))] 158) ?_;exact w25_j8 h hp
    · rw [ite_f h5063] at h; refine Ro.p (Eq.trans (hp.ld 0 (off := 4) (n := none) (v := (V.bool y4915.ft)) rfl (by kernel_rfl)) (bool_of h5063)) ?_;refine Ro.t 7 ?_;refine Ro.d (mkE [(1,(V.fp (E_Unit.e x1))),(0,(iN x2)),(0,(V.fp (E_Code.e x0))),(3,(V.ptr b4917 0 0)),(10,(V.bool (x0.fType != (0 : Int))))] 158) ?_;exact w25_j8 h hp
def F25 (x0 : T_Code) (x1 : T_Unit) (x2 : Int) : Option Bool :=
  (F40 x0.fKind).bind fun y4912 =>
  if (!y4912) then
    some false
  else
    (idx G0 x0.fKind).bind fun y4915 =>
    if y4915.fop then
      F25_j7 x0 x1 x2 y4915 (false)
    else
      F25_j7 x0 x1 x2 y4915 ((x0.fOp != (0 : Int)))
theorem w25 {x0 : T_Code} {x1 : T_Unit} {x2 : Int} {r : Bool} (h : F25 x0 x1 x2 = some r) {H : Heap} {L : List Ob} (hp : HP H (L)) : Fn T 25 [(E_Code.e x0),(V.fp (E_Unit.e x1)),(iN x2)] H (Q25 L r) := by
  refine Fn.enterE t25 (e0 := (mkE [(0,(E_Code.e x0)),(0,(V.fp (E_Unit.e x1))),(0,(iN x2))] 174)) (by kernel_rfl) ?_;show Run T (.clr [] i25n61) _ _ (finE none [6] (Q25 L r));refine Rn.k (mkE [(0,(E_Code.e x0)),(0,(V.fp (E_Unit.e x1))),(0,(iN x2))] 174) ?_;unfold F25 at h;refine Rn.g ?_;refine Ro.t 2 ?_;refine Ro.d (mkE [(1,(V.fp (E_Unit.e x1))),(0,(iN x2)),(0,(V.fp (E_Code.e x0)))] 173) ?_;refine Run.seq ?_;refine Rn.g ?_;refine Ro.t 2 ?_;obtain ⟨y4912,h4913,h⟩ := bind_some h;refine RunO.c1 (by kernel_rfl) (by kernel_rfl) (c40 h4913 _) ?_;refine Ro.t 1 ?_;refine Ro.d (mkE [(1,(V.fp (E_Unit.e x1))),(0,(iN x2)),(0,(V.fp (E_Code.e x0))),(9,(V.bool (!y4912)))] 163) ?_;rcases tf (!y4912) with h4914 | h4914
  · rw [ite_t h4914] at h; refine Rn.t h4914 ?_;refine Rn.g ?_;refine Ro.t 1 ?_;refine Ro.d (mkE [(6,(V.bool false))] 170) ?_;refine Run.ret ?_;have h := Option.some.inj h; subst h;exact ⟨(V.bool false),(by kernel_rfl),(by kernel_rfl),hp⟩
  · rw [ite_f h4914] at h; refine Rn.f h4914 ?_;refine Run.skip ?_;refine Rn.c (mkE [(1,(V.fp (E_Unit.e x1))),(0,(iN x2)),(0,(V.fp (E_Code.e x0)))] 173) ?_;refine Rn.g ?_;refine Ro.t 2 ?_;obtain ⟨y4915,h4916,h⟩ := bind_some h;refine Ro.p (idxp_fp E_form (l := G0) .u8 (n := 18) (cs := [V.int .u8 0,V.int .u8 0,V.int .u8 0,V.bool false,V.bool false,V.bool false,V.bool false,V.bool false,V.bool false,V.int .u8 1,V.int .u8 0,V.int .u8 0,V.bool false,V.bool false,V.bool false,V.bool false,V.bool true,V.bool false,V.int .u8 1,V.int .u8 1,V.int .u8 0,V.bool false,V.bool false,V.bool false,V.bool false,V.bool false,V.bool false,V.int .u8 1,V.int .u8 1,V.int .u8 7,V.bool true,V.bool true,V.bool false,V.bool false,V.bool false,V.bool false,V.int .u8 1,V.int .u8 1,V.int .u8 0,V.bool false,V.bool true,V.bool true,V.bool false,V.bool false,V.bool false,V.int .u8 1,V.int .u8 2,V.int .u8 0,V.bool false,V.bool false,V.bool false,V.bool false,V.bool false,V.bool false,V.int .u8 2,V.int .u8 1,V.int .u8 0,V.bool false,V.bool false,V.bool false,V.bool false,V.bool false,V.bool false,V.int .u8 1,V.int .u8 1,V.int .u8 0,V.bool false,V.bool false,V.bool false,V.bool false,V.bool false,V.bool true,V.int .u8 1,V.int .u8 1,V.int .u8 0,V.bool false,V.bool false,V.bool false,V.bool false,V.bool false,V.bool true,V.int .u8 0,V.int .u8 0,V.int .u8 0,V.bool false,V.bool false,V.bool false,V.bool false,V.bool false,V.bool true,V.int .u8 1,V.int .u8 4,V.int .u8 0,V.bool false,V.bool false,V.bool false,V.bool false,V.bool false,V.bool false,V.int .u8 5,V.int .u8 1,V.int .u8 0,V.bool false,V.bool false,V.bool false,V.bool false,V.bool false,V.bool false,V.int .u8 6,V.int .u8 0,V.int .u8 0,V.bool false,V.bool false,V.bool false,V.bool false,V.bool false,V.bool false,V.int .u8 1,V.int .u8 0,V.int .u8 0,V.bool false,V.bool true,V.bool false,V.bool false,V.bool false,V.bool false,V.int .u8 3,V.int .u8 0,V.int .u8 0,V.bool false,V.bool false,V.bool false,V.bool false,V.bool false,V.bool false,V.int .u8 1,V.int .u8 3,V.int .u8 3,V.bool false,V.bool false,V.bool false,V.bool false,V.bool false,V.bool false,V.int .u8 1,V.int .u8 0,V.int .u8 0,V.bool false,V.bool false,V.bool false,V.bool false,V.bool false,V.bool false,V.int .u8 0,V.int .u8 0,V.int .u8 0,V.bool false,V.bool false,V.bool false,V.bool true,V.bool false,V.bool false]) (by kernel_rfl) (by kernel_rfl) h4916) ?_;refine Ro.t 1 ?_;refine RunO.alloc hp (by kernel_rfl) ?_;intro b4917 H hp;have hp : HP H ((some (b4917,0),[(V.int .u8 (0 : Int)),(V.int .u8 (0 : Int)),(V.int .u8 (0 : Int)),(V.bool false),(V.bool false),(V.bool false),(V.bool false),(V.bool false),(V.bool false)]) :: L) := hp;refine RunO.st hp (by kernel_rfl) 0 (off := 0) (v := (E_form.e y4915)) (cs' := [(V.int .u8 y4915.fa),(V.int .u8 y4915.fb),(V.int .u8 y4915.fc),(V.bool y4915.fop),(V.bool y4915.ft),(V.bool y4915.fto),(V.bool y4915.ftrap),(V.bool y4915.fbits),(V.bool y4915.frow)]) rfl (by kernel_rfl) (by kernel_rfl) (by kernel_rfl) ?_;intro H hp;refine Ro.d (mkE [(1,(V.fp (E_Unit.e x1))),(0,(iN x2)),(0,(V.fp (E_Code.e x0))),(3,(V.ptr b4917 0 0))] 169) ?_;refine Run.seq ?_;refine Run.block ?_;refine Run.seq ?_;refine Rn.g ?_;refine Ro.t 1 ?_;rcases tf y4915.fop with h5064 | h5064
    · rw [ite_t h5064] at h; refine Ro.p (Eq.trans (hp.ld 0 (off := 3) (n := none) (v := (V.bool y4915.fop)) rfl (by kernel_rfl)) (bool_of h5064)) ?_;refine Ro.t 7 ?_;refine Ro.d (mkE [(1,(V.fp (E_Unit.e x1))),(0,(iN x2)),(0,(V.fp (E_Code.e x0))),(3,(V.ptr b4917 0 0)),(10,(V.bool false))] 158) ?_;exact w25_j7 h hp
    · rw [ite_f h5064] at h; refine Ro.p (Eq.trans (hp.ld 0 (off := 3) (n := none) (v := (V.bool y4915.fop)) rfl (by kernel_rfl)) (bool_of h5064)) ?_;refine Ro.t 7 ?_;refine Ro.d (mkE [(1,(V.fp (E_Unit.e x1))),(0,(iN x2)),(0,(V.fp (E_Code.e x0))),(3,(V.ptr b4917 0 0)),(10,(V.bool (x0.fOp != (0 : Int))))] 158) ?_;exact w25_j7 h hp
theorem c25 {x0 : T_Code} {x1 : T_Unit} {x2 : Int} {r : Bool} (h : F25 x0 x1 x2 = some r) (s : Bool) : Fn T 25 [(E_Code.e x0),(V.fp (E_Unit.e x1)),(iN x2)] [] (fun v hh => deep s hh deepN v = some (EB.e r)) := by
  refine (w25 h HP.nil).mono ?_;rintro v hh ⟨rfl,hp⟩;exact EB.hd s hh 38 _ (.inr rfl)
abbrev Q15 (L : List Ob) (r : Bool) : V → Heap → Prop := fun v h => v = EB.e r ∧ HP h (L)
abbrev RR15 (L : List Ob) (r : Bool) : List V → Heap → Prop := fun e h => endR none [4] (Q15 L r) e h
abbrev I15_1 (x0 : T_Unit) (x1 : Int) (L : List Ob) : (Int) → List V → Heap → Prop := fun s e h => e = (mkE [(0,(V.fp (E_Unit.e x0))),(0,(iN x1)),(3,(V.fn 24 [])),(44,(Zl (EI .u8) x0.fParams)),(0,(iN (ln x0.fParams))),(0,(iN s))] 37) ∧ HP h (L)
abbrev J15_1 (x0 : T_Unit) (x1 : Int) (L : List Ob) : Unit → Nat → List V → Heap → Prop := fun a i e h => i = 0 ∧ clrEnv [4,5,7,47,48,49,50,51,52,53,54,55,56,57,58,59,60] e = (mkE [(0,(V.fp (E_Unit.e x0))),(0,(iN x1))] 88) ∧ HP h (L)
def F15_1_b (x0 : T_Unit) (x1 : Int) (y5117 : Int) : Option (Stp (Int) Bool Unit) :=
  if (decide (y5117 < ((List.length x0.fParams : Nat) : Int))) then
    (idx x0.fParams y5117).bind fun y5137 =>
    (F24 y5137).bind fun y5139 =>
    if (!y5139) then
      some (.ret false)
    else
      some (.next ((IntKind.i64.wrap (y5117 + (1 : Int)))))
  else
    some (.go ())
theorem w15_1_b {x0 : T_Unit} {x1 : Int} {y5117 : Int} {t : (Stp (Int) Bool Unit)} (h : F15_1_b x0 x1 y5117 = some t) {H : Heap} {L : List Ob} (hp : HP H (L)) :
    Run T i15n21 (mkE [(0,(V.fp (E_Unit.e x0))),(0,(iN x1)),(3,(V.fn 24 [])),(44,(Zl (EI .u8) x0.fParams)),(0,(iN (ln x0.fParams))),(0,(iN y5117))] 37) H (stp [4,7,53,54,55,56,57,58,59,60] (I15_1 x0 x1 L) (RR15 L) (J15_1 x0 x1 L) t) := by
  unfold F15_1_b at h;refine Rn.g ?_;refine Ro.t 1 ?_;refine Ro.d (mkE [(0,(V.fp (E_Unit.e x0))),(0,(iN x1)),(3,(V.fn 24 [])),(44,(Zl (EI .u8) x0.fParams)),(0,(iN (ln x0.fParams))),(0,(iN y5117)),(0,(V.bool (decide (y5117 < (ln x0.fParams)))))] 36) ?_;refine Run.seq ?_;rcases tf (decide (y5117 < (ln x0.fParams))) with h5131 | h5131
  · rw [ite_t h5131] at h; refine Rn.t h5131 ?_;refine Run.skip ?_;refine Rn.c (mkE [(0,(V.fp (E_Unit.e x0))),(0,(iN x1)),(3,(V.fn 24 [])),(44,(Zl (EI .u8) x0.fParams)),(0,(iN (ln x0.fParams))),(0,(iN y5117))] 37) ?_;refine Run.seq ?_;refine Run.block ?_;refine Rn.g ?_;obtain ⟨y5137,h5138,h⟩ := bind_some h;refine Ro.p (idx_fz (EI .u8) .i64 h5138) ?_;refine Ro.t 2 ?_;refine Ro.d (mkE [(0,(V.fp (E_Unit.e x0))),(0,(iN x1)),(3,(V.fn 24 [])),(1,(V.int .u8 y5137)),(42,(Zl (EI .u8) x0.fParams)),(0,(iN (ln x0.fParams))),(0,(iN y5117))] 37) ?_;refine Rn.g ?_;refine Ro.t 2 ?_;obtain ⟨y5139,h5140,h⟩ := bind_some h;refine RunO.h1 (n := 24) (caps := []) (us := [(V.int .u8 y5137)]) (by kernel_rfl) (by kernel_rfl) (by kernel_rfl) ((w24 h5140 hp).mono ?_);rintro _ H ⟨rfl,hp⟩;have hp : HP H (L) := hp;refine Ro.t 1 ?_;refine Ro.d (mkE [(0,(V.fp (E_Unit.e x0))),(0,(iN x1)),(3,(V.fn 24 [])),(44,(Zl (EI .u8) x0.fParams)),(0,(iN (ln x0.fParams))),(0,(iN y5117)),(6,(V.bool (!y5139)))] 30) ?_;rcases tf (!y5139) with h5141 | h5141
    · rw [ite_t h5141] at h; refine Rn.t h5141 ?_;refine Rn.g ?_;refine Ro.t 1 ?_;refine Ro.d (mkE [(4,(V.bool false))] 85) ?_;refine Run.ret ?_;have h := Option.some.inj h; subst h;show RR15 L _ _ _;exact ⟨(V.bool false),(by kernel_rfl),(by kernel_rfl),hp⟩
    · rw [ite_f h5141] at h; refine Rn.f h5141 ?_;refine Run.skip ?_;refine Run.clrE (ts := [4,7,54,55,56,57,58,59]) (b := (.rgn i15r18)) (Q := (stp [4,7,53,54,55,56,57,58,59,60] (I15_1 x0 x1 L) (RR15 L) (J15_1 x0 x1 L) t)) (e' := (mkE [(0,(V.fp (E_Unit.e x0))),(0,(iN x1)),(3,(V.fn 24 [])),(44,(Zl (EI .u8) x0.fParams)),(0,(iN (ln x0.fParams))),(0,(iN y5117))] 37)) (by kernel_rfl) ?_;refine Run.rgn ?_;refine Ro.t 2 ?_;refine RunO.nil ?_;have h := Option.some.inj h; subst h;show I15_1 x0 x1 L _ _ _;exact ⟨(by kernel_rfl),hp⟩
  · rw [ite_f h5131] at h; refine Rn.f h5131 ?_;refine Run.exit ?_;have h := Option.some.inj h; subst h;show J15_1 x0 x1 L () _ _ _;exact ⟨rfl,(by kernel_rfl),hp⟩
abbrev I15_2 (x0 : T_Unit) (x1 : Int) (L : List Ob) : (Int) → List V → Heap → Prop := fun s e h => e = (mkE [(0,(V.fp (E_Unit.e x0))),(0,(iN x1)),(62,(Zl E_Code x0.fCode)),(0,(iN (ln x0.fCode))),(0,(iN s))] 23) ∧ HP h (L)
abbrev J15_2 (x0 : T_Unit) (x1 : Int) (L : List Ob) : Unit → Nat → List V → Heap → Prop := fun a i e h => i = 2 ∧ clrEnv [1,4,9,61,62,63,64,65,66,67,68,69,70,71,72,73,74,75] e = (mkE [(0,(V.fp (E_Unit.e x0)))] 89) ∧ HP h (L)
def F15_2_b (x0 : T_Unit) (x1 : Int) (y5157 : Int) : Option (Stp (Int) Bool Unit) :=
  if (decide (y5157 < ((List.length x0.fCode : Nat) : Int))) then
    (idx x0.fCode y5157).bind fun y5180 =>
    (F25 y5180 x0 x1).bind fun y5183 =>
    if (!y5183) then
      some (.ret false)
    else
      some (.next ((IntKind.i64.wrap (y5157 + (1 : Int)))))
  else
    some (.go ())
theorem w15_2_b {x0 : T_Unit} {x1 : Int} {y5157 : Int} {t : (Stp (Int) Bool Unit)} (h : F15_2_b x0 x1 y5157 = some t) {H : Heap} {L : List Ob} (hp : HP H (L)) :
    Run T i15n39 (mkE [(0,(V.fp (E_Unit.e x0))),(0,(iN x1)),(62,(Zl E_Code x0.fCode)),(0,(iN (ln x0.fCode))),(0,(iN y5157))] 23) H (stp [4,9,67,68,69,70,71,72,73,74,75] (I15_2 x0 x1 L) (RR15 L) (J15_2 x0 x1 L) t) := by
  unfold F15_2_b at h;refine Rn.g ?_;refine Ro.t 1 ?_;refine Ro.d (mkE [(0,(V.fp (E_Unit.e x0))),(0,(iN x1)),(62,(Zl E_Code x0.fCode)),(0,(iN (ln x0.fCode))),(0,(iN y5157)),(0,(V.bool (decide (y5157 < (ln x0.fCode)))))] 22) ?_;refine Run.seq ?_;rcases tf (decide (y5157 < (ln x0.fCode))) with h5173 | h5173
  · rw [ite_t h5173] at h; refine Rn.t h5173 ?_;refine Run.skip ?_;refine Rn.c (mkE [(0,(V.fp (E_Unit.e x0))),(0,(iN x1)),(62,(Zl E_Code x0.fCode)),(0,(iN (ln x0.fCode))),(0,(iN y5157))] 23) ?_;refine Run.seq ?_;refine Run.block ?_;refine Rn.g ?_;obtain ⟨y5180,h5181,h⟩ := bind_some h;refine Ro.p (idx_fz E_Code .i64 h5181) ?_;refine Ro.t 1 ?_;refine RunO.alloc hp (by kernel_rfl) ?_;intro b5182 H hp;have hp : HP H ((some (b5182,0),[(V.int .u8 (0 : Int)),(V.int .u8 (0 : Int)),(V.int .u8 (0 : Int)),(V.int .u8 (0 : Int)),(V.int .u8 (0 : Int)),(iN (0 : Int)),(iN (0 : Int)),(iN (0 : Int)),(V.int .u64 (0 : Int))]) :: L) := hp;refine RunO.st hp (by kernel_rfl) 0 (off := 0) (v := (E_Code.e y5180)) (cs' := [(V.int .u8 y5180.fKind),(V.int .u8 y5180.fOp),(V.int .u8 y5180.fType),(V.int .u8 y5180.fTo),(V.int .u8 y5180.fTrap),(iN y5180.fA),(iN y5180.fB),(iN y5180.fC),(V.int .u64 y5180.fBits)]) rfl (by kernel_rfl) (by kernel_rfl) (by kernel_rfl) ?_;intro H hp;refine Ro.d (mkE [(0,(V.fp (E_Unit.e x0))),(0,(iN x1)),(7,(V.ptr b5182 0 0)),(54,(Zl E_Code x0.fCode)),(0,(iN (ln x0.fCode))),(0,(iN y5157))] 23) ?_;refine Rn.g ?_;refine Ro.p (hp.ld 0 (off := 0) (n := (some 9)) (v := (E_Code.e y5180)) rfl (by kernel_rfl)) ?_;refine Ro.t 2 ?_;obtain ⟨y5183,h5184,h⟩ := bind_some h;refine RunO.c1 (by kernel_rfl) (by kernel_rfl) (c25 h5184 _) ?_;refine Ro.t 1 ?_;refine Ro.d (mkE [(0,(V.fp (E_Unit.e x0))),(0,(iN x1)),(62,(Zl E_Code x0.fCode)),(0,(iN (ln x0.fCode))),(0,(iN y5157)),(7,(V.bool (!y5183)))] 15) ?_;rcases tf (!y5183) with h5185 | h5185
    · rw [ite_t h5185] at h; refine Rn.t h5185 ?_;refine Rn.g ?_;refine Ro.t 1 ?_;refine Ro.d (mkE [(4,(V.bool false))] 85) ?_;refine Run.ret ?_;have h := Option.some.inj h; subst h;show RR15 L _ _ _;have hp := hp.del 0;exact ⟨(V.bool false),(by kernel_rfl),(by kernel_rfl),hp⟩
    · rw [ite_f h5185] at h; refine Rn.f h5185 ?_;refine Run.skip ?_;refine Run.clrE (ts := [4,9,68,69,70,71,72,73,74]) (b := (.rgn i15r36)) (Q := (stp [4,9,67,68,69,70,71,72,73,74,75] (I15_2 x0 x1 L) (RR15 L) (J15_2 x0 x1 L) t)) (e' := (mkE [(0,(V.fp (E_Unit.e x0))),(0,(iN x1)),(62,(Zl E_Code x0.fCode)),(0,(iN (ln x0.fCode))),(0,(iN y5157))] 23)) (by kernel_rfl) ?_;refine Run.rgn ?_;refine Ro.t 2 ?_;refine RunO.nil ?_;have h := Option.some.inj h; subst h;have hp := hp.del 0;show I15_2 x0 x1 L _ _ _;exact ⟨(by kernel_rfl),hp⟩
  · rw [ite_f h5173] at h; refine Rn.f h5173 ?_;refine Run.exit ?_;have h := Option.some.inj h; subst h;show J15_2 x0 x1 L () _ _ _;exact ⟨rfl,(by kernel_rfl),hp⟩
def F15 (x0 : T_Unit) (x1 : Int) : Option Bool :=
  if (decide (((List.length x0.fParams : Nat) : Int) > (8 : Int))) then
    some false
  else
    (F24 x0.fResult).bind fun y5099 =>
    if y5099 then
      if (decide (x0.fFrame < (0 : Int))) then
        some false
      else
        if (decide (x0.fFrame > (1073741824 : Int))) then
          some false
        else
          if (((List.length x0.fCode : Nat) : Int) == (0 : Int)) then
            some false
          else
            (iter (fun s : (Int) => F15_1_b x0 x1 s) FUEL ((0 : Int))).bind fun o => match o with
            | .ret r => some r
            | .go () =>
              (iter (fun s : (Int) => F15_2_b x0 x1 s) FUEL ((0 : Int))).bind fun o => match o with
              | .ret r => some r
              | .go () =>
                (idx x0.fCode (IntKind.i64.wrap (((List.length x0.fCode : Nat) : Int) - (1 : Int)))).bind fun y5187 =>
                some (decide (y5187.fKind ≥ (14 : Int)))
    else
      some false
theorem w15 {x0 : T_Unit} {x1 : Int} {r : Bool} (h : F15 x0 x1 = some r) {H : Heap} {L : List Ob} (hp : HP H (L)) : Fn T 15 [(V.fp (E_Unit.e x0)),(iN x1)] H (Q15 L r) := by
  refine Fn.enterE t15 (e0 := (mkE [(0,(V.fp (E_Unit.e x0))),(0,(iN x1))] 88)) (by kernel_rfl) ?_;show Run T (.clr [] i15n49) _ _ (finE none [4] (Q15 L r));refine Rn.k (mkE [(0,(V.fp (E_Unit.e x0))),(0,(iN x1))] 88) ?_;unfold F15 at h;refine Rn.g ?_;refine Ro.t 1 ?_;refine Ro.d (mkE [(0,(V.fp (E_Unit.e x0))),(0,(iN x1))] 88) ?_;refine Rn.g ?_;refine Ro.t 1 ?_;refine Ro.d (mkE [(0,(V.fp (E_Unit.e x0))),(0,(iN x1)),(3,(V.fn 24 []))] 84) ?_;refine Run.seq ?_;refine Rn.g ?_;refine Ro.t 4 ?_;refine Ro.p (len_fz (EI .u8) x0.fParams) ?_;rcases tf (decide ((ln x0.fParams) > (8 : Int))) with h5098 | h5098
  · rw [ite_t h5098] at h; refine Ro.p (bool_of h5098) ?_;refine Ro.t 31 ?_;refine Ro.d (mkE [(0,(V.fp (E_Unit.e x0))),(0,(iN x1)),(3,(V.fn 24 [])),(40,(V.bool true))] 43) ?_;refine Run.condT (by kernel_rfl) ?_;refine Rn.g ?_;refine Ro.t 1 ?_;refine Ro.d (mkE [(4,(V.bool false))] 85) ?_;refine Run.ret ?_;have h := Option.some.inj h; subst h;exact ⟨(V.bool false),(by kernel_rfl),(by kernel_rfl),hp⟩
  · rw [ite_f h5098] at h; refine Ro.p (bool_of h5098) ?_;refine Ro.t 6 ?_;obtain ⟨y5099,h5100,h⟩ := bind_some h;rcases tf y5099 with h5101 | h5101
    · subst h5101; rw [if_pos rfl] at h;refine RunO.h1 (n := 24) (caps := []) (us := [(V.int .u8 x0.fResult)]) (by kernel_rfl) (by kernel_rfl) (by kernel_rfl) ((w24 h5100 hp).mono ?_);rintro _ H ⟨rfl,hp⟩;have hp : HP H (L) := hp;refine Ro.t 7 ?_;rcases tf (decide (x0.fFrame < (0 : Int))) with h5102 | h5102
      · rw [ite_t h5102] at h; refine Ro.p (bool_of h5102) ?_;refine Ro.t 16 ?_;refine Ro.d (mkE [(0,(V.fp (E_Unit.e x0))),(0,(iN x1)),(3,(V.fn 24 [])),(40,(V.bool true))] 43) ?_;refine Run.condT (by kernel_rfl) ?_;refine Rn.g ?_;refine Ro.t 1 ?_;refine Ro.d (mkE [(4,(V.bool false))] 85) ?_;refine Run.ret ?_;have h := Option.some.inj h; subst h;exact ⟨(V.bool false),(by kernel_rfl),(by kernel_rfl),hp⟩
      · rw [ite_f h5102] at h; refine Ro.p (bool_of h5102) ?_;refine Ro.t 6 ?_;rcases tf (decide (x0.fFrame > (1073741824 : Int))) with h5103 | h5103
        · rw [ite_t h5103] at h; refine Ro.p (bool_of h5103) ?_;refine Ro.t 9 ?_;refine Ro.d (mkE [(0,(V.fp (E_Unit.e x0))),(0,(iN x1)),(3,(V.fn 24 [])),(40,(V.bool true))] 43) ?_;refine Run.condT (by kernel_rfl) ?_;refine Rn.g ?_;refine Ro.t 1 ?_;refine Ro.d (mkE [(4,(V.bool false))] 85) ?_;refine Run.ret ?_;have h := Option.some.inj h; subst h;exact ⟨(V.bool false),(by kernel_rfl),(by kernel_rfl),hp⟩
        · rw [ite_f h5103] at h; refine Ro.p (bool_of h5103) ?_;refine Ro.t 6 ?_;refine Ro.p (len_fz E_Code x0.fCode) ?_;refine Ro.t 2 ?_;refine Ro.d (mkE [(0,(V.fp (E_Unit.e x0))),(0,(iN x1)),(3,(V.fn 24 [])),(40,(V.bool ((ln x0.fCode) == (0 : Int))))] 43) ?_;rcases tf ((ln x0.fCode) == (0 : Int)) with h5104 | h5104
          · rw [ite_t h5104] at h; refine Rn.t h5104 ?_;refine Rn.g ?_;refine Ro.t 1 ?_;refine Ro.d (mkE [(4,(V.bool false))] 85) ?_;refine Run.ret ?_;have h := Option.some.inj h; subst h;exact ⟨(V.bool false),(by kernel_rfl),(by kernel_rfl),hp⟩
          · rw [ite_f h5104] at h; refine Rn.f h5104 ?_;refine Run.skip ?_;refine Rn.c (mkE [(0,(V.fp (E_Unit.e x0))),(0,(iN x1)),(3,(V.fn 24 []))] 84) ?_;refine Run.seq ?_;refine Rn.g ?_;refine Ro.t 4 ?_;refine Ro.p (len_fz (EI .u8) x0.fParams) ?_;refine Ro.t 1 ?_;refine Ro.d (mkE [(0,(V.fp (E_Unit.e x0))),(0,(iN x1)),(3,(V.fn 24 [])),(44,(Zl (EI .u8) x0.fParams)),(0,(iN (ln x0.fParams))),(0,(iN (0 : Int)))] 37) ?_;refine Run.block ?_;obtain ⟨o,h5142,h⟩ := bind_some h;refine (Run.iter (I := I15_1 x0 x1 L) (RR := RR15 L) (J := J15_1 x0 x1 L) (fun s e h' t hI hf => ?_) FUEL h5142 (by exact ⟨(by kernel_rfl),hp⟩)).mono ?_
            · obtain ⟨rfl,hp⟩ := hI; exact w15_1_b hf hp
            · rintro X e' H hq;cases o with
              | ret r => cases X <;> first | exact hq.elim | (cases h; exact hq)
              | go a =>
                cases X with | nrm => exact hq.elim | ret => exact hq.elim | ext i => ?_;obtain ⟨rfl,he,hp⟩ := hq
                dsimp only at h
                refine Run.clrE (ts := [4,5,7,47,48,49,50,51,52,53,54,55,56,57,58,59,60]) (b := i15n45) (Q := (finE none [4] (Q15 L r))) he ?_;refine Run.seq ?_;refine Rn.g ?_;refine Ro.t 4 ?_;refine Ro.p (len_fz E_Code x0.fCode) ?_;refine Ro.t 1 ?_;refine Ro.d (mkE [(0,(V.fp (E_Unit.e x0))),(0,(iN x1)),(62,(Zl E_Code x0.fCode)),(0,(iN (ln x0.fCode))),(0,(iN (0 : Int)))] 23) ?_;refine Run.block ?_;obtain ⟨o,h5186,h⟩ := bind_some h;refine (Run.iter (I := I15_2 x0 x1 L) (RR := RR15 L) (J := J15_2 x0 x1 L) (fun s e h' t hI hf => ?_) FUEL h5186 (by exact ⟨(by kernel_rfl),hp⟩)).mono ?_
                · obtain ⟨rfl,hp⟩ := hI; exact w15_2_b hf hp
                · rintro X e' H hq;cases o with
                  | ret r => cases X <;> first | exact hq.elim | (cases h; exact hq)
                  | go a =>
                    cases X with | nrm => exact hq.elim | ret => exact hq.elim | ext i => ?_;obtain ⟨rfl,he,hp⟩ := hq
                    dsimp only at h
                    refine Run.clrE (ts := [1,4,9,61,62,63,64,65,66,67,68,69,70,71,72,73,74,75]) (b := i15n44) (Q := (finE none [4] (Q15 L r))) he ?_;refine Rn.g ?_;refine Ro.t 8 ?_;refine Ro.p (len_fz E_Code x0.fCode) ?_;refine Ro.t 1 ?_;obtain ⟨y5187,h5188,h⟩ := bind_some h;refine Ro.p (idx_fz E_Code .i64 h5188) ?_;refine Ro.t 4 ?_;refine Ro.d (mkE [(4,(V.bool (decide (y5187.fKind ≥ (14 : Int)))))] 85) ?_;refine Run.ret ?_;have h := Option.some.inj h; subst h;exact ⟨(V.bool (decide (y5187.fKind ≥ (14 : Int)))),(by kernel_rfl),(by kernel_rfl),hp⟩
    · subst h5101; rw [if_neg (by decide)] at h;refine RunO.h1 (n := 24) (caps := []) (us := [(V.int .u8 x0.fResult)]) (by kernel_rfl) (by kernel_rfl) (by kernel_rfl) ((w24 h5100 hp).mono ?_);rintro _ H ⟨rfl,hp⟩;have hp : HP H (L) := hp;refine Ro.t 24 ?_;refine Ro.d (mkE [(0,(V.fp (E_Unit.e x0))),(0,(iN x1)),(3,(V.fn 24 [])),(40,(V.bool true))] 43) ?_;refine Run.condT (by kernel_rfl) ?_;refine Rn.g ?_;refine Ro.t 1 ?_;refine Ro.d (mkE [(4,(V.bool false))] 85) ?_;refine Run.ret ?_;have h := Option.some.inj h; subst h;exact ⟨(V.bool false),(by kernel_rfl),(by kernel_rfl),hp⟩
theorem c15 {x0 : T_Unit} {x1 : Int} {r : Bool} (h : F15 x0 x1 = some r) (s : Bool) : Fn T 15 [(V.fp (E_Unit.e x0)),(iN x1)] [] (fun v hh => deep s hh deepN v = some (EB.e r)) := by
  refine (w15 h HP.nil).mono ?_;rintro v hh ⟨rfl,hp⟩;exact EB.hd s hh 38 _ (.inr rfl)
abbrev Q6 (L : List Ob) (r : (Int × Int)) : V → Heap → Prop := fun v h => v = .tup [(EI .i64).e r.1,(EI .i64).e r.2] ∧ HP h (L)
abbrev RR6 (L : List Ob) (r : (Int × Int)) : List V → Heap → Prop := fun e h => endR none [2,3] (Q6 L r) e h
abbrev I6_1 (x0 : (List T_Unit)) (L : List Ob) : (Int) → List V → Heap → Prop := fun s e h => e = (mkE [(0,(Zl E_Unit x0)),(8,(iN (ln x0))),(0,(iN s))] 11) ∧ HP h (L)
abbrev J6_1 (x0 : (List T_Unit)) (L : List Ob) : Unit → Nat → List V → Heap → Prop := fun a i e h => i = 0 ∧ clrEnv [0,2,3,4,8,9,10,11,12,13,14,15,16,17,18,19,20,21] e = (mkE [] 22) ∧ HP h (L)
def F6_1_b (x0 : (List T_Unit)) (y5224 : Int) : Option (Stp (Int) (Int × Int) Unit) :=
  if (decide (y5224 < ((List.length x0 : Nat) : Int))) then
    (idx x0 y5224).bind fun y5244 =>
    (F15 y5244 ((List.length x0 : Nat) : Int)).bind fun y5246 =>
    if (!y5246) then
      some (.ret ((4 : Int),y5224))
    else
      some (.next ((IntKind.i64.wrap (y5224 + (1 : Int)))))
  else
    some (.go ())
theorem w6_1_b {x0 : (List T_Unit)} {y5224 : Int} {t : (Stp (Int) (Int × Int) Unit)} (h : F6_1_b x0 y5224 = some t) {H : Heap} {L : List Ob} (hp : HP H (L)) :
    Run T i6n20 (mkE [(0,(Zl E_Unit x0)),(8,(iN (ln x0))),(0,(iN y5224))] 11) H (stp [2,3,4,11,12,13,14,15,16,17,18,19,20,21] (I6_1 x0 L) (RR6 L) (J6_1 x0 L) t) := by
  unfold F6_1_b at h;refine Rn.g ?_;refine Ro.t 1 ?_;refine Ro.d (mkE [(0,(Zl E_Unit x0)),(8,(iN (ln x0))),(0,(iN y5224)),(0,(V.bool (decide (y5224 < (ln x0)))))] 10) ?_;refine Run.seq ?_;rcases tf (decide (y5224 < (ln x0))) with h5238 | h5238
  · rw [ite_t h5238] at h; refine Rn.t h5238 ?_;refine Run.skip ?_;refine Rn.c (mkE [(0,(Zl E_Unit x0)),(8,(iN (ln x0))),(0,(iN y5224))] 11) ?_;refine Run.seq ?_;refine Run.block ?_;refine Rn.g ?_;refine Ro.t 2 ?_;refine Ro.d (mkE [(0,(Zl E_Unit x0)),(3,(iN y5224)),(4,(iN (ln x0))),(0,(iN y5224))] 11) ?_;refine Rn.g ?_;refine Ro.t 2 ?_;obtain ⟨y5244,h5245,h⟩ := bind_some h;refine Ro.p (idx_fz E_Unit .i64 h5245) ?_;refine Ro.t 1 ?_;refine Ro.p (len_fz E_Unit x0) ?_;obtain ⟨y5246,h5247,h⟩ := bind_some h;refine RunO.c1 (by kernel_rfl) (by kernel_rfl) (c15 h5247 _) ?_;refine Ro.t 1 ?_;refine Ro.d (mkE [(0,(Zl E_Unit x0)),(3,(iN y5224)),(4,(iN (ln x0))),(0,(iN y5224)),(8,(V.bool (!y5246)))] 2) ?_;rcases tf (!y5246) with h5248 | h5248
    · rw [ite_t h5248] at h; refine Rn.t h5248 ?_;refine Rn.g ?_;refine Ro.t 3 ?_;refine Ro.d (mkE [(2,(iN (4 : Int))),(0,(iN y5224))] 18) ?_;refine Run.ret ?_;have h := Option.some.inj h; subst h;show RR6 L _ _ _;exact ⟨(V.tup [(iN (4 : Int)),(iN y5224)]),(by kernel_rfl),(by kernel_rfl),hp⟩
    · rw [ite_f h5248] at h; refine Rn.f h5248 ?_;refine Run.skip ?_;refine Run.clrE (ts := [2,3,4,12,13,14,15,16,17,18,19,20]) (b := (.rgn i6r17)) (Q := (stp [2,3,4,11,12,13,14,15,16,17,18,19,20,21] (I6_1 x0 L) (RR6 L) (J6_1 x0 L) t)) (e' := (mkE [(0,(Zl E_Unit x0)),(8,(iN (ln x0))),(0,(iN y5224))] 11)) (by kernel_rfl) ?_;refine Run.rgn ?_;refine Ro.t 2 ?_;refine RunO.nil ?_;have h := Option.some.inj h; subst h;show I6_1 x0 L _ _ _;exact ⟨(by kernel_rfl),hp⟩
  · rw [ite_f h5238] at h; refine Rn.f h5238 ?_;refine Run.exit ?_;have h := Option.some.inj h; subst h;show J6_1 x0 L () _ _ _;exact ⟨rfl,(by kernel_rfl),hp⟩
def F6 (x0 : (List T_Unit)) : Option (Int × Int) :=
  if (decide (((List.length x0 : Nat) : Int) > (64 : Int))) then
    some ((3 : Int),(0 : Int))
  else
    (iter (fun s : (Int) => F6_1_b x0 s) FUEL ((0 : Int))).bind fun o => match o with
    | .ret r => some r
    | .go () =>
      some ((0 : Int),(0 : Int))
theorem w6 {x0 : (List T_Unit)} {r : (Int × Int)} (h : F6 x0 = some r) {H : Heap} {L : List Ob} (hp : HP H (L)) : Fn T 6 [(Zl E_Unit x0)] H (Q6 L r) := by
  refine Fn.enterE t6 (e0 := (mkE [(0,(Zl E_Unit x0))] 21)) (by kernel_rfl) ?_;show Run T (.clr [] i6n28) _ _ (finE none [2,3] (Q6 L r));refine Rn.k (mkE [(0,(Zl E_Unit x0))] 21) ?_;unfold F6 at h;refine Rn.g ?_;refine Ro.t 2 ?_;refine Ro.d (mkE [(0,(Zl E_Unit x0))] 21) ?_;refine Run.seq ?_;refine Rn.g ?_;refine Ro.t 1 ?_;refine Ro.p (len_fz E_Unit x0) ?_;refine Ro.t 1 ?_;refine Ro.d (mkE [(0,(Zl E_Unit x0)),(6,(V.bool (decide ((ln x0) > (64 : Int)))))] 14) ?_;rcases tf (decide ((ln x0) > (64 : Int))) with h5211 | h5211
  · rw [ite_t h5211] at h; refine Rn.t h5211 ?_;refine Rn.g ?_;refine Ro.t 2 ?_;refine Ro.d (mkE [(2,(iN (3 : Int))),(0,(iN (0 : Int)))] 18) ?_;refine Run.ret ?_;have h := Option.some.inj h; subst h;exact ⟨(V.tup [(iN (3 : Int)),(iN (0 : Int))]),(by kernel_rfl),(by kernel_rfl),hp⟩
  · rw [ite_f h5211] at h; refine Rn.f h5211 ?_;refine Run.skip ?_;refine Rn.c (mkE [(0,(Zl E_Unit x0))] 21) ?_;refine Run.seq ?_;refine Rn.g ?_;refine Ro.t 1 ?_;refine Ro.p (len_fz E_Unit x0) ?_;refine Ro.t 1 ?_;refine Ro.d (mkE [(0,(Zl E_Unit x0)),(8,(iN (ln x0))),(0,(iN (0 : Int)))] 11) ?_;refine Run.block ?_;obtain ⟨o,h5249,h⟩ := bind_some h;refine (Run.iter (I := I6_1 x0 L) (RR := RR6 L) (J := J6_1 x0 L) (fun s e h' t hI hf => ?_) FUEL h5249 (by exact ⟨(by kernel_rfl),hp⟩)).mono ?_
    · obtain ⟨rfl,hp⟩ := hI; exact w6_1_b hf hp
    · rintro X e' H hq;cases o with
      | ret r => cases X <;> first | exact hq.elim | (cases h; exact hq)
      | go a =>
        cases X with | nrm => exact hq.elim | ret => exact hq.elim | ext i => ?_;obtain ⟨rfl,he,hp⟩ := hq
        dsimp only at h
        refine Run.clrE (ts := [0,2,3,4,8,9,10,11,12,13,14,15,16,17,18,19,20,21]) (b := i6n25) (Q := (finE none [2,3] (Q6 L r))) he ?_;refine Rn.g ?_;refine Ro.t 2 ?_;refine Ro.d (mkE [(2,(iN (0 : Int))),(0,(iN (0 : Int)))] 18) ?_;refine Run.ret ?_;have h := Option.some.inj h; subst h;exact ⟨(V.tup [(iN (0 : Int)),(iN (0 : Int))]),(by kernel_rfl),(by kernel_rfl),hp⟩
theorem c6 {x0 : (List T_Unit)} {r : (Int × Int)} (h : F6 x0 = some r) (s : Bool) : Fn T 6 [(Zl E_Unit x0)] [] (fun v hh => deep s hh deepN v = some (.tup [(EI .i64).e r.1,(EI .i64).e r.2])) := by
  refine (w6 h HP.nil).mono ?_;rintro v hh ⟨rfl,hp⟩;exact congrArg (Option.map V.tup) (omapc ((EI .i64).hd s hh 37 _ (.inr rfl)) (omapc ((EI .i64).hd s hh 37 _ (.inr rfl)) omapn))
abbrev Q12 (L : List Ob) (r : Bool) : V → Heap → Prop := fun v h => v = EB.e r ∧ HP h (L)
abbrev RR12 (L : List Ob) (r : Bool) : List V → Heap → Prop := fun e h => endR none [4] (Q12 L r) e h
abbrev I12_1 (x0 : (List Int)) (x1 : (List Int)) (L : List Ob) : (Int) → List V → Heap → Prop := fun s e h => e = (mkE [(0,(Zl (EI .u8) x0)),(0,(Zl (EI .u8) x1)),(3,(iN s))] 20) ∧ HP h (L)
abbrev J12_1 (x0 : (List Int)) (x1 : (List Int)) (L : List Ob) : Unit → Nat → List V → Heap → Prop := fun a i e h => i = 0 ∧ clrEnv [0,1,4,5,11,12,13,14,15,16,17,18,19,20,21,22,23,24,25] e = (mkE [] 26) ∧ HP h (L)
def F12_1_b (x0 : (List Int)) (x1 : (List Int)) (y5294 : Int) : Option (Stp (Int) Bool Unit) :=
  if (decide (y5294 < ((List.length x0 : Nat) : Int))) then
    (idx x0 y5294).bind fun y5314 =>
    (idx x1 y5294).bind fun y5316 =>
    if (y5314 != y5316) then
      some (.ret false)
    else
      some (.next ((IntKind.i64.wrap (y5294 + (1 : Int)))))
  else
    some (.go ())
theorem w12_1_b {x0 : (List Int)} {x1 : (List Int)} {y5294 : Int} {t : (Stp (Int) Bool Unit)} (h : F12_1_b x0 x1 y5294 = some t) {H : Heap} {L : List Ob} (hp : HP H (L)) :
    Run T i12n18 (mkE [(0,(Zl (EI .u8) x0)),(0,(Zl (EI .u8) x1)),(3,(iN y5294))] 20) H (stp [4,11,12,13,14,15,16,17,18,19,20,21,22,23,24,25] (I12_1 x0 x1 L) (RR12 L) (J12_1 x0 x1 L) t) := by
  unfold F12_1_b at h;refine Run.seq ?_;refine Rn.g ?_;refine Ro.t 2 ?_;refine Ro.p (len_fz (EI .u8) x0) ?_;refine Ro.t 1 ?_;refine Ro.d (mkE [(0,(Zl (EI .u8) x0)),(0,(Zl (EI .u8) x1)),(3,(iN y5294)),(8,(V.bool (decide (y5294 < (ln x0)))))] 11) ?_;rcases tf (decide (y5294 < (ln x0))) with h5308 | h5308
  · rw [ite_t h5308] at h; refine Rn.t h5308 ?_;refine Run.skip ?_;refine Rn.c (mkE [(0,(Zl (EI .u8) x0)),(0,(Zl (EI .u8) x1)),(3,(iN y5294))] 20) ?_;refine Run.seq ?_;refine Run.block ?_;refine Rn.g ?_;refine Ro.t 2 ?_;obtain ⟨y5314,h5315,h⟩ := bind_some h;refine Ro.p (idx_fz (EI .u8) .i64 h5315) ?_;refine Ro.t 3 ?_;obtain ⟨y5316,h5317,h⟩ := bind_some h;refine Ro.p (idx_fz (EI .u8) .i64 h5317) ?_;refine Ro.t 2 ?_;refine Ro.d (mkE [(0,(Zl (EI .u8) x0)),(0,(Zl (EI .u8) x1)),(3,(iN y5294)),(19,(V.bool (y5314 != y5316)))] 0) ?_;rcases tf (y5314 != y5316) with h5318 | h5318
    · rw [ite_t h5318] at h; refine Rn.t h5318 ?_;refine Rn.g ?_;refine Ro.t 1 ?_;refine Ro.d (mkE [(4,(V.bool false))] 21) ?_;refine Run.ret ?_;have h := Option.some.inj h; subst h;show RR12 L _ _ _;exact ⟨(V.bool false),(by kernel_rfl),(by kernel_rfl),hp⟩
    · rw [ite_f h5318] at h; refine Rn.f h5318 ?_;refine Run.skip ?_;refine Run.clrE (ts := [4,17,18,19,20,21,22,23,24,25]) (b := (.rgn i12r16)) (Q := (stp [4,11,12,13,14,15,16,17,18,19,20,21,22,23,24,25] (I12_1 x0 x1 L) (RR12 L) (J12_1 x0 x1 L) t)) (e' := (mkE [(0,(Zl (EI .u8) x0)),(0,(Zl (EI .u8) x1)),(3,(iN y5294))] 20)) (by kernel_rfl) ?_;refine Run.rgn ?_;refine Ro.t 3 ?_;refine RunO.nil ?_;have h := Option.some.inj h; subst h;show I12_1 x0 x1 L _ _ _;exact ⟨(by kernel_rfl),hp⟩
  · rw [ite_f h5308] at h; refine Rn.f h5308 ?_;refine Run.exit ?_;have h := Option.some.inj h; subst h;show J12_1 x0 x1 L () _ _ _;exact ⟨rfl,(by kernel_rfl),hp⟩
def F12 (x0 : (List Int)) (x1 : (List Int)) : Option Bool :=
  if (((List.length x0 : Nat) : Int) != ((List.length x1 : Nat) : Int)) then
    some false
  else
    (iter (fun s : (Int) => F12_1_b x0 x1 s) FUEL ((0 : Int))).bind fun o => match o with
    | .ret r => some r
    | .go () =>
      some true
theorem w12 {x0 : (List Int)} {x1 : (List Int)} {r : Bool} (h : F12 x0 x1 = some r) {H : Heap} {L : List Ob} (hp : HP H (L)) : Fn T 12 [(Zl (EI .u8) x0),(Zl (EI .u8) x1)] H (Q12 L r) := by
  refine Fn.enterE t12 (e0 := (mkE [(0,(Zl (EI .u8) x0)),(0,(Zl (EI .u8) x1))] 24)) (by kernel_rfl) ?_;show Run T (.clr [] i12n26) _ _ (finE none [4] (Q12 L r));refine Rn.k (mkE [(0,(Zl (EI .u8) x0)),(0,(Zl (EI .u8) x1))] 24) ?_;unfold F12 at h;refine Rn.g ?_;refine Ro.t 1 ?_;refine Ro.d (mkE [(0,(Zl (EI .u8) x0)),(0,(Zl (EI .u8) x1))] 24) ?_;refine Run.seq ?_;refine Rn.g ?_;refine Ro.t 1 ?_;refine Ro.p (len_fz (EI .u8) x0) ?_;refine Ro.t 1 ?_;refine Ro.p (len_fz (EI .u8) x1) ?_;refine Ro.t 1 ?_;refine Ro.d (mkE [(0,(Zl (EI .u8) x0)),(0,(Zl (EI .u8) x1)),(8,(V.bool ((ln x0) != (ln x1))))] 15) ?_;rcases tf ((ln x0) != (ln x1)) with h5281 | h5281
  · rw [ite_t h5281] at h; refine Rn.t h5281 ?_;refine Rn.g ?_;refine Ro.t 1 ?_;refine Ro.d (mkE [(4,(V.bool false))] 21) ?_;refine Run.ret ?_;have h := Option.some.inj h; subst h;exact ⟨(V.bool false),(by kernel_rfl),(by kernel_rfl),hp⟩
  · rw [ite_f h5281] at h; refine Rn.f h5281 ?_;refine Run.skip ?_;refine Rn.c (mkE [(0,(Zl (EI .u8) x0)),(0,(Zl (EI .u8) x1))] 24) ?_;refine Run.seq ?_;refine Rn.g ?_;refine Ro.t 1 ?_;refine Ro.d (mkE [(0,(Zl (EI .u8) x0)),(0,(Zl (EI .u8) x1)),(3,(iN (0 : Int)))] 20) ?_;refine Run.block ?_;obtain ⟨o,h5319,h⟩ := bind_some h;refine (Run.iter (I := I12_1 x0 x1 L) (RR := RR12 L) (J := J12_1 x0 x1 L) (fun s e h' t hI hf => ?_) FUEL h5319 (by exact ⟨(by kernel_rfl),hp⟩)).mono ?_
    · obtain ⟨rfl,hp⟩ := hI; exact w12_1_b hf hp
    · rintro X e' H hq;cases o with
      | ret r => cases X <;> first | exact hq.elim | (cases h; exact hq)
      | go a =>
        cases X with | nrm => exact hq.elim | ret => exact hq.elim | ext i => ?_;obtain ⟨rfl,he,hp⟩ := hq
        dsimp only at h
        refine Run.clrE (ts := [0,1,4,5,11,12,13,14,15,16,17,18,19,20,21,22,23,24,25]) (b := i12n23) (Q := (finE none [4] (Q12 L r))) he ?_;refine Rn.g ?_;refine Ro.t 1 ?_;refine Ro.d (mkE [(4,(V.bool true))] 21) ?_;refine Run.ret ?_;have h := Option.some.inj h; subst h;exact ⟨(V.bool true),(by kernel_rfl),(by kernel_rfl),hp⟩
theorem c12 {x0 : (List Int)} {x1 : (List Int)} {r : Bool} (h : F12 x0 x1 = some r) (s : Bool) : Fn T 12 [(Zl (EI .u8) x0),(Zl (EI .u8) x1)] [] (fun v hh => deep s hh deepN v = some (EB.e r)) := by
  refine (w12 h HP.nil).mono ?_;rintro v hh ⟨rfl,hp⟩;exact EB.hd s hh 38 _ (.inr rfl)
abbrev Q31 (L : List Ob) (r : Bool) : V → Heap → Prop := fun v h => v = EB.e r ∧ HP h (L)
abbrev RR31 (L : List Ob) (r : Bool) : List V → Heap → Prop := fun e h => endR none [4] (Q31 L r) e h
abbrev I31_1 (x0 : (List Int)) (x1 : (List Int)) (L : List Ob) : (Int) → List V → Heap → Prop := fun s e h => e = (mkE [(0,(Zl (EI .u8) x0)),(0,(Zl (EI .u8) x1)),(3,(iN s))] 20) ∧ HP h (L)
abbrev J31_1 (x0 : (List Int)) (x1 : (List Int)) (L : List Ob) : Unit → Nat → List V → Heap → Prop := fun a i e h => i = 0 ∧ clrEnv [0,1,4,5,11,12,13,14,15,16,17,18,19,20,21,22,23,24,25] e = (mkE [] 26) ∧ HP h (L)
def F31_1_b (x0 : (List Int)) (x1 : (List Int)) (y5374 : Int) : Option (Stp (Int) Bool Unit) :=
  if (decide (y5374 < ((List.length x0 : Nat) : Int))) then
    (idx x0 y5374).bind fun y5394 =>
    (idx x1 y5374).bind fun y5396 =>
    if (y5394 != y5396) then
      some (.ret false)
    else
      some (.next ((IntKind.i64.wrap (y5374 + (1 : Int)))))
  else
    some (.go ())
theorem w31_1_b {x0 : (List Int)} {x1 : (List Int)} {y5374 : Int} {t : (Stp (Int) Bool Unit)} (h : F31_1_b x0 x1 y5374 = some t) {H : Heap} {L : List Ob} (hp : HP H (L)) :
    Run T i31n18 (mkE [(0,(Zl (EI .u8) x0)),(0,(Zl (EI .u8) x1)),(3,(iN y5374))] 20) H (stp [4,11,12,13,14,15,16,17,18,19,20,21,22,23,24,25] (I31_1 x0 x1 L) (RR31 L) (J31_1 x0 x1 L) t) := by
  unfold F31_1_b at h;refine Run.seq ?_;refine Rn.g ?_;refine Ro.t 2 ?_;refine Ro.p (len_fz (EI .u8) x0) ?_;refine Ro.t 1 ?_;refine Ro.d (mkE [(0,(Zl (EI .u8) x0)),(0,(Zl (EI .u8) x1)),(3,(iN y5374)),(8,(V.bool (decide (y5374 < (ln x0)))))] 11) ?_;rcases tf (decide (y5374 < (ln x0))) with h5388 | h5388
  · rw [ite_t h5388] at h; refine Rn.t h5388 ?_;refine Run.skip ?_;refine Rn.c (mkE [(0,(Zl (EI .u8) x0)),(0,(Zl (EI .u8) x1)),(3,(iN y5374))] 20) ?_;refine Run.seq ?_;refine Run.block ?_;refine Rn.g ?_;refine Ro.t 2 ?_;obtain ⟨y5394,h5395,h⟩ := bind_some h;refine Ro.p (idx_fz (EI .u8) .i64 h5395) ?_;refine Ro.t 3 ?_;obtain ⟨y5396,h5397,h⟩ := bind_some h;refine Ro.p (idx_fz (EI .u8) .i64 h5397) ?_;refine Ro.t 2 ?_;refine Ro.d (mkE [(0,(Zl (EI .u8) x0)),(0,(Zl (EI .u8) x1)),(3,(iN y5374)),(19,(V.bool (y5394 != y5396)))] 0) ?_;rcases tf (y5394 != y5396) with h5398 | h5398
    · rw [ite_t h5398] at h; refine Rn.t h5398 ?_;refine Rn.g ?_;refine Ro.t 1 ?_;refine Ro.d (mkE [(4,(V.bool false))] 21) ?_;refine Run.ret ?_;have h := Option.some.inj h; subst h;show RR31 L _ _ _;exact ⟨(V.bool false),(by kernel_rfl),(by kernel_rfl),hp⟩
    · rw [ite_f h5398] at h; refine Rn.f h5398 ?_;refine Run.skip ?_;refine Run.clrE (ts := [4,17,18,19,20,21,22,23,24,25]) (b := (.rgn i31r16)) (Q := (stp [4,11,12,13,14,15,16,17,18,19,20,21,22,23,24,25] (I31_1 x0 x1 L) (RR31 L) (J31_1 x0 x1 L) t)) (e' := (mkE [(0,(Zl (EI .u8) x0)),(0,(Zl (EI .u8) x1)),(3,(iN y5374))] 20)) (by kernel_rfl) ?_;refine Run.rgn ?_;refine Ro.t 3 ?_;refine RunO.nil ?_;have h := Option.some.inj h; subst h;show I31_1 x0 x1 L _ _ _;exact ⟨(by kernel_rfl),hp⟩
  · rw [ite_f h5388] at h; refine Rn.f h5388 ?_;refine Run.exit ?_;have h := Option.some.inj h; subst h;show J31_1 x0 x1 L () _ _ _;exact ⟨rfl,(by kernel_rfl),hp⟩
def F31 (x0 : (List Int)) (x1 : (List Int)) : Option Bool :=
  if (((List.length x0 : Nat) : Int) != ((List.length x1 : Nat) : Int)) then
    some false
  else
    (iter (fun s : (Int) => F31_1_b x0 x1 s) FUEL ((0 : Int))).bind fun o => match o with
    | .ret r => some r
    | .go () =>
      some true
theorem w31 {x0 : (List Int)} {x1 : (List Int)} {r : Bool} (h : F31 x0 x1 = some r) {H : Heap} {L : List Ob} (hp : HP H (L)) : Fn T 31 [(Zl (EI .u8) x0),(Zl (EI .u8) x1)] H (Q31 L r) := by
  refine Fn.enterE t31 (e0 := (mkE [(0,(Zl (EI .u8) x0)),(0,(Zl (EI .u8) x1))] 24)) (by kernel_rfl) ?_;show Run T (.clr [] i31n26) _ _ (finE none [4] (Q31 L r));refine Rn.k (mkE [(0,(Zl (EI .u8) x0)),(0,(Zl (EI .u8) x1))] 24) ?_;unfold F31 at h;refine Rn.g ?_;refine Ro.t 1 ?_;refine Ro.d (mkE [(0,(Zl (EI .u8) x0)),(0,(Zl (EI .u8) x1))] 24) ?_;refine Run.seq ?_;refine Rn.g ?_;refine Ro.t 1 ?_;refine Ro.p (len_fz (EI .u8) x0) ?_;refine Ro.t 1 ?_;refine Ro.p (len_fz (EI .u8) x1) ?_;refine Ro.t 1 ?_;refine Ro.d (mkE [(0,(Zl (EI .u8) x0)),(0,(Zl (EI .u8) x1)),(8,(V.bool ((ln x0) != (ln x1))))] 15) ?_;rcases tf ((ln x0) != (ln x1)) with h5361 | h5361
  · rw [ite_t h5361] at h; refine Rn.t h5361 ?_;refine Rn.g ?_;refine Ro.t 1 ?_;refine Ro.d (mkE [(4,(V.bool false))] 21) ?_;refine Run.ret ?_;have h := Option.some.inj h; subst h;exact ⟨(V.bool false),(by kernel_rfl),(by kernel_rfl),hp⟩
  · rw [ite_f h5361] at h; refine Rn.f h5361 ?_;refine Run.skip ?_;refine Rn.c (mkE [(0,(Zl (EI .u8) x0)),(0,(Zl (EI .u8) x1))] 24) ?_;refine Run.seq ?_;refine Rn.g ?_;refine Ro.t 1 ?_;refine Ro.d (mkE [(0,(Zl (EI .u8) x0)),(0,(Zl (EI .u8) x1)),(3,(iN (0 : Int)))] 20) ?_;refine Run.block ?_;obtain ⟨o,h5399,h⟩ := bind_some h;refine (Run.iter (I := I31_1 x0 x1 L) (RR := RR31 L) (J := J31_1 x0 x1 L) (fun s e h' t hI hf => ?_) FUEL h5399 (by exact ⟨(by kernel_rfl),hp⟩)).mono ?_
    · obtain ⟨rfl,hp⟩ := hI; exact w31_1_b hf hp
    · rintro X e' H hq;cases o with
      | ret r => cases X <;> first | exact hq.elim | (cases h; exact hq)
      | go a =>
        cases X with | nrm => exact hq.elim | ret => exact hq.elim | ext i => ?_;obtain ⟨rfl,he,hp⟩ := hq
        dsimp only at h
        refine Run.clrE (ts := [0,1,4,5,11,12,13,14,15,16,17,18,19,20,21,22,23,24,25]) (b := i31n23) (Q := (finE none [4] (Q31 L r))) he ?_;refine Rn.g ?_;refine Ro.t 1 ?_;refine Ro.d (mkE [(4,(V.bool true))] 21) ?_;refine Run.ret ?_;have h := Option.some.inj h; subst h;exact ⟨(V.bool true),(by kernel_rfl),(by kernel_rfl),hp⟩
theorem c31 {x0 : (List Int)} {x1 : (List Int)} {r : Bool} (h : F31 x0 x1 = some r) (s : Bool) : Fn T 31 [(Zl (EI .u8) x0),(Zl (EI .u8) x1)] [] (fun v hh => deep s hh deepN v = some (EB.e r)) := by
  refine (w31 h HP.nil).mono ?_;rintro v hh ⟨rfl,hp⟩;exact EB.hd s hh 38 _ (.inr rfl)
abbrev Q32 (L : List Ob) (r : Bool) : V → Heap → Prop := fun v h => v = EB.e r ∧ HP h (L)
abbrev RR32 (L : List Ob) (r : Bool) : List V → Heap → Prop := fun e h => endR none [4] (Q32 L r) e h
abbrev I32_1 (x0 : (List T_Code)) (x1 : (List T_Code)) (L : List Ob) : (Int) → List V → Heap → Prop := fun s e h => e = (mkE [(0,(Zl E_Code x0)),(0,(Zl E_Code x1)),(3,(iN s))] 20) ∧ HP h (L)
abbrev J32_1 (x0 : (List T_Code)) (x1 : (List T_Code)) (L : List Ob) : Unit → Nat → List V → Heap → Prop := fun a i e h => i = 0 ∧ clrEnv [0,1,4,5,11,12,13,14,15,16,17,18,19,20,21,22,23,24,25] e = (mkE [] 26) ∧ HP h (L)
def F32_1_b (x0 : (List T_Code)) (x1 : (List T_Code)) (y5446 : Int) : Option (Stp (Int) Bool Unit) :=
  if (decide (y5446 < ((List.length x0 : Nat) : Int))) then
    (idx x0 y5446).bind fun y5466 =>
    (idx x1 y5446).bind fun y5468 =>
    if (!(decide (y5466 = y5468))) then
      some (.ret false)
    else
      some (.next ((IntKind.i64.wrap (y5446 + (1 : Int)))))
  else
    some (.go ())
theorem w32_1_b {x0 : (List T_Code)} {x1 : (List T_Code)} {y5446 : Int} {t : (Stp (Int) Bool Unit)} (h : F32_1_b x0 x1 y5446 = some t) {H : Heap} {L : List Ob} (hp : HP H (L)) :
    Run T i32n18 (mkE [(0,(Zl E_Code x0)),(0,(Zl E_Code x1)),(3,(iN y5446))] 20) H (stp [4,11,12,13,14,15,16,17,18,19,20,21,22,23,24,25] (I32_1 x0 x1 L) (RR32 L) (J32_1 x0 x1 L) t) := by
  unfold F32_1_b at h;refine Run.seq ?_;refine Rn.g ?_;refine Ro.t 2 ?_;refine Ro.p (len_fz E_Code x0) ?_;refine Ro.t 1 ?_;refine Ro.d (mkE [(0,(Zl E_Code x0)),(0,(Zl E_Code x1)),(3,(iN y5446)),(8,(V.bool (decide (y5446 < (ln x0)))))] 11) ?_;rcases tf (decide (y5446 < (ln x0))) with h5460 | h5460
  · rw [ite_t h5460] at h; refine Rn.t h5460 ?_;refine Run.skip ?_;refine Rn.c (mkE [(0,(Zl E_Code x0)),(0,(Zl E_Code x1)),(3,(iN y5446))] 20) ?_;refine Run.seq ?_;refine Run.block ?_;refine Rn.g ?_;refine Ro.t 2 ?_;obtain ⟨y5466,h5467,h⟩ := bind_some h;refine Ro.p (idx_fz E_Code .i64 h5467) ?_;refine Ro.t 3 ?_;obtain ⟨y5468,h5469,h⟩ := bind_some h;refine Ro.p (idx_fz E_Code .i64 h5469) ?_;refine Ro.t 1 ?_;refine Ro.p (eqs_Code true y5466 y5468) ?_;refine Ro.d (mkE [(0,(Zl E_Code x0)),(0,(Zl E_Code x1)),(3,(iN y5446)),(19,(V.bool (!(decide (y5466 = y5468)))))] 0) ?_;rcases tf (!(decide (y5466 = y5468))) with h5470 | h5470
    · rw [ite_t h5470] at h; refine Rn.t h5470 ?_;refine Rn.g ?_;refine Ro.t 1 ?_;refine Ro.d (mkE [(4,(V.bool false))] 21) ?_;refine Run.ret ?_;have h := Option.some.inj h; subst h;show RR32 L _ _ _;exact ⟨(V.bool false),(by kernel_rfl),(by kernel_rfl),hp⟩
    · rw [ite_f h5470] at h; refine Rn.f h5470 ?_;refine Run.skip ?_;refine Run.clrE (ts := [4,17,18,19,20,21,22,23,24,25]) (b := (.rgn i32r16)) (Q := (stp [4,11,12,13,14,15,16,17,18,19,20,21,22,23,24,25] (I32_1 x0 x1 L) (RR32 L) (J32_1 x0 x1 L) t)) (e' := (mkE [(0,(Zl E_Code x0)),(0,(Zl E_Code x1)),(3,(iN y5446))] 20)) (by kernel_rfl) ?_;refine Run.rgn ?_;refine Ro.t 3 ?_;refine RunO.nil ?_;have h := Option.some.inj h; subst h;show I32_1 x0 x1 L _ _ _;exact ⟨(by kernel_rfl),hp⟩
  · rw [ite_f h5460] at h; refine Rn.f h5460 ?_;refine Run.exit ?_;have h := Option.some.inj h; subst h;show J32_1 x0 x1 L () _ _ _;exact ⟨rfl,(by kernel_rfl),hp⟩
def F32 (x0 : (List T_Code)) (x1 : (List T_Code)) : Option Bool :=
  if (((List.length x0 : Nat) : Int) != ((List.length x1 : Nat) : Int)) then
    some false
  else
    (iter (fun s : (Int) => F32_1_b x0 x1 s) FUEL ((0 : Int))).bind fun o => match o with
    | .ret r => some r
    | .go () =>
      some true
theorem w32 {x0 : (List T_Code)} {x1 : (List T_Code)} {r : Bool} (h : F32 x0 x1 = some r) {H : Heap} {L : List Ob} (hp : HP H (L)) : Fn T 32 [(Zl E_Code x0),(Zl E_Code x1)] H (Q32 L r) := by
  refine Fn.enterE t32 (e0 := (mkE [(0,(Zl E_Code x0)),(0,(Zl E_Code x1))] 24)) (by kernel_rfl) ?_;show Run T (.clr [] i32n26) _ _ (finE none [4] (Q32 L r));refine Rn.k (mkE [(0,(Zl E_Code x0)),(0,(Zl E_Code x1))] 24) ?_;unfold F32 at h;refine Rn.g ?_;refine Ro.t 1 ?_;refine Ro.d (mkE [(0,(Zl E_Code x0)),(0,(Zl E_Code x1))] 24) ?_;refine Run.seq ?_;refine Rn.g ?_;refine Ro.t 1 ?_;refine Ro.p (len_fz E_Code x0) ?_;refine Ro.t 1 ?_;refine Ro.p (len_fz E_Code x1) ?_;refine Ro.t 1 ?_;refine Ro.d (mkE [(0,(Zl E_Code x0)),(0,(Zl E_Code x1)),(8,(V.bool ((ln x0) != (ln x1))))] 15) ?_;rcases tf ((ln x0) != (ln x1)) with h5433 | h5433
  · rw [ite_t h5433] at h; refine Rn.t h5433 ?_;refine Rn.g ?_;refine Ro.t 1 ?_;refine Ro.d (mkE [(4,(V.bool false))] 21) ?_;refine Run.ret ?_;have h := Option.some.inj h; subst h;exact ⟨(V.bool false),(by kernel_rfl),(by kernel_rfl),hp⟩
  · rw [ite_f h5433] at h; refine Rn.f h5433 ?_;refine Run.skip ?_;refine Rn.c (mkE [(0,(Zl E_Code x0)),(0,(Zl E_Code x1))] 24) ?_;refine Run.seq ?_;refine Rn.g ?_;refine Ro.t 1 ?_;refine Ro.d (mkE [(0,(Zl E_Code x0)),(0,(Zl E_Code x1)),(3,(iN (0 : Int)))] 20) ?_;refine Run.block ?_;obtain ⟨o,h5471,h⟩ := bind_some h;refine (Run.iter (I := I32_1 x0 x1 L) (RR := RR32 L) (J := J32_1 x0 x1 L) (fun s e h' t hI hf => ?_) FUEL h5471 (by exact ⟨(by kernel_rfl),hp⟩)).mono ?_
    · obtain ⟨rfl,hp⟩ := hI; exact w32_1_b hf hp
    · rintro X e' H hq;cases o with
      | ret r => cases X <;> first | exact hq.elim | (cases h; exact hq)
      | go a =>
        cases X with | nrm => exact hq.elim | ret => exact hq.elim | ext i => ?_;obtain ⟨rfl,he,hp⟩ := hq
        dsimp only at h
        refine Run.clrE (ts := [0,1,4,5,11,12,13,14,15,16,17,18,19,20,21,22,23,24,25]) (b := i32n23) (Q := (finE none [4] (Q32 L r))) he ?_;refine Rn.g ?_;refine Ro.t 1 ?_;refine Ro.d (mkE [(4,(V.bool true))] 21) ?_;refine Run.ret ?_;have h := Option.some.inj h; subst h;exact ⟨(V.bool true),(by kernel_rfl),(by kernel_rfl),hp⟩
theorem c32 {x0 : (List T_Code)} {x1 : (List T_Code)} {r : Bool} (h : F32 x0 x1 = some r) (s : Bool) : Fn T 32 [(Zl E_Code x0),(Zl E_Code x1)] [] (fun v hh => deep s hh deepN v = some (EB.e r)) := by
  refine (w32 h HP.nil).mono ?_;rintro v hh ⟨rfl,hp⟩;exact EB.hd s hh 38 _ (.inr rfl)
abbrev Q21 (L : List Ob) (r : Bool) : V → Heap → Prop := fun v h => v = EB.e r ∧ HP h (L)
abbrev RR21 (L : List Ob) (r : Bool) : List V → Heap → Prop := fun e h => endR none [4] (Q21 L r) e h
def F21 (x0 : T_Unit) (x1 : T_Unit) : Option Bool :=
  if (x0.fName == x1.fName) then
    (F31 x0.fParams x1.fParams).bind fun y5475 =>
    if y5475 then
      if (x0.fResult == x1.fResult) then
        if (x0.fFrame == x1.fFrame) then
          (F32 x0.fCode x1.fCode).bind fun y5480 =>
          some y5480
        else
          some false
      else
        some false
    else
      some false
  else
    some false
theorem w21 {x0 : T_Unit} {x1 : T_Unit} {r : Bool} (h : F21 x0 x1 = some r) {H : Heap} {L : List Ob} (hp : HP H (L)) : Fn T 21 [(E_Unit.e x0),(E_Unit.e x1)] H (Q21 L r) := by
  refine Fn.enterE t21 (e0 := (mkE [(0,(E_Unit.e x0)),(0,(E_Unit.e x1))] 36)) (by kernel_rfl) ?_;show Run T (.clr [] i21n3) _ _ (finE none [4] (Q21 L r));refine Rn.k (mkE [(0,(E_Unit.e x0)),(0,(E_Unit.e x1))] 36) ?_;unfold F21 at h;refine Rn.g ?_;refine Ro.t 3 ?_;refine Ro.d (mkE [(2,(V.fp (E_Unit.e x0))),(0,(V.fp (E_Unit.e x1)))] 34) ?_;refine Rn.g ?_;refine Ro.t 4 ?_;rcases tf (x0.fName == x1.fName) with h5474 | h5474
  · rw [ite_t h5474] at h; refine Ro.p (Eq.trans (str_eql x0.fName x1.fName) (bool_of h5474)) ?_;refine Ro.t 5 ?_;obtain ⟨y5475,h5476,h⟩ := bind_some h;rcases tf y5475 with h5477 | h5477
    · subst h5477; rw [if_pos rfl] at h;refine RunO.c1 (by kernel_rfl) (by kernel_rfl) (c31 h5476 _) ?_;refine Ro.t 6 ?_;rcases tf (x0.fResult == x1.fResult) with h5478 | h5478
      · rw [ite_t h5478] at h; refine Ro.p (bool_of h5478) ?_;refine Ro.t 6 ?_;rcases tf (x0.fFrame == x1.fFrame) with h5479 | h5479
        · rw [ite_t h5479] at h; refine Ro.p (bool_of h5479) ?_;refine Ro.t 6 ?_;obtain ⟨y5480,h5481,h⟩ := bind_some h;refine RunO.c1 (by kernel_rfl) (by kernel_rfl) (c32 h5481 _) ?_;refine Ro.t 2 ?_;refine Ro.d (mkE [(4,(V.bool y5480))] 33) ?_;refine Run.ret ?_;have h := Option.some.inj h; subst h;exact ⟨(V.bool y5480),(by kernel_rfl),(by kernel_rfl),hp⟩
        · rw [ite_f h5479] at h; refine Ro.p (bool_of h5479) ?_;refine Ro.t 9 ?_;refine Ro.d (mkE [(4,(V.bool false))] 33) ?_;refine Run.ret ?_;have h := Option.some.inj h; subst h;exact ⟨(V.bool false),(by kernel_rfl),(by kernel_rfl),hp⟩
      · rw [ite_f h5478] at h; refine Ro.p (bool_of h5478) ?_;refine Ro.t 16 ?_;refine Ro.d (mkE [(4,(V.bool false))] 33) ?_;refine Run.ret ?_;have h := Option.some.inj h; subst h;exact ⟨(V.bool false),(by kernel_rfl),(by kernel_rfl),hp⟩
    · subst h5477; rw [if_neg (by decide)] at h;refine RunO.c1 (by kernel_rfl) (by kernel_rfl) (c31 h5476 _) ?_;refine Ro.t 23 ?_;refine Ro.d (mkE [(4,(V.bool false))] 33) ?_;refine Run.ret ?_;have h := Option.some.inj h; subst h;exact ⟨(V.bool false),(by kernel_rfl),(by kernel_rfl),hp⟩
  · rw [ite_f h5474] at h; refine Ro.p (Eq.trans (str_eql x0.fName x1.fName) (bool_of h5474)) ?_;refine Ro.t 29 ?_;refine Ro.d (mkE [(4,(V.bool false))] 33) ?_;refine Run.ret ?_;have h := Option.some.inj h; subst h;exact ⟨(V.bool false),(by kernel_rfl),(by kernel_rfl),hp⟩
theorem c21 {x0 : T_Unit} {x1 : T_Unit} {r : Bool} (h : F21 x0 x1 = some r) (s : Bool) : Fn T 21 [(E_Unit.e x0),(E_Unit.e x1)] [] (fun v hh => deep s hh deepN v = some (EB.e r)) := by
  refine (w21 h HP.nil).mono ?_;rintro v hh ⟨rfl,hp⟩;exact EB.hd s hh 38 _ (.inr rfl)
abbrev Q13 (L : List Ob) (r : Bool) : V → Heap → Prop := fun v h => v = EB.e r ∧ HP h (L)
abbrev RR13 (L : List Ob) (r : Bool) : List V → Heap → Prop := fun e h => endR none [4] (Q13 L r) e h
abbrev I13_1 (x0 : (List T_Unit)) (x1 : (List T_Unit)) (L : List Ob) : (Int) → List V → Heap → Prop := fun s e h => e = (mkE [(0,(Zl E_Unit x0)),(0,(Zl E_Unit x1)),(3,(iN s))] 21) ∧ HP h (L)
abbrev J13_1 (x0 : (List T_Unit)) (x1 : (List T_Unit)) (L : List Ob) : Unit → Nat → List V → Heap → Prop := fun a i e h => i = 0 ∧ clrEnv [0,1,4,5,11,12,13,14,15,16,17,18,19,20,21,22,23,24,25,26] e = (mkE [] 27) ∧ HP h (L)
def F13_1_b (x0 : (List T_Unit)) (x1 : (List T_Unit)) (y5527 : Int) : Option (Stp (Int) Bool Unit) :=
  if (decide (y5527 < ((List.length x0 : Nat) : Int))) then
    (idx x0 y5527).bind fun y5553 =>
    (idx x1 y5527).bind fun y5555 =>
    (F21 y5553 y5555).bind fun y5557 =>
    if (!y5557) then
      some (.ret false)
    else
      some (.next ((IntKind.i64.wrap (y5527 + (1 : Int)))))
  else
    some (.go ())
theorem w13_1_b {x0 : (List T_Unit)} {x1 : (List T_Unit)} {y5527 : Int} {t : (Stp (Int) Bool Unit)} (h : F13_1_b x0 x1 y5527 = some t) {H : Heap} {L : List Ob} (hp : HP H (L)) :
    Run T i13n18 (mkE [(0,(Zl E_Unit x0)),(0,(Zl E_Unit x1)),(3,(iN y5527))] 21) H (stp [4,11,12,13,14,15,16,17,18,19,20,21,22,23,24,25,26] (I13_1 x0 x1 L) (RR13 L) (J13_1 x0 x1 L) t) := by
  unfold F13_1_b at h;refine Run.seq ?_;refine Rn.g ?_;refine Ro.t 2 ?_;refine Ro.p (len_fz E_Unit x0) ?_;refine Ro.t 1 ?_;refine Ro.d (mkE [(0,(Zl E_Unit x0)),(0,(Zl E_Unit x1)),(3,(iN y5527)),(8,(V.bool (decide (y5527 < (ln x0)))))] 12) ?_;rcases tf (decide (y5527 < (ln x0))) with h5545 | h5545
  · rw [ite_t h5545] at h; refine Rn.t h5545 ?_;refine Run.skip ?_;refine Rn.c (mkE [(0,(Zl E_Unit x0)),(0,(Zl E_Unit x1)),(3,(iN y5527))] 21) ?_;refine Run.seq ?_;refine Run.block ?_;refine Rn.g ?_;refine Ro.t 2 ?_;obtain ⟨y5553,h5554,h⟩ := bind_some h;refine Ro.p (idx_fz E_Unit .i64 h5554) ?_;refine Ro.t 3 ?_;obtain ⟨y5555,h5556,h⟩ := bind_some h;refine Ro.p (idx_fz E_Unit .i64 h5556) ?_;refine Ro.t 1 ?_;obtain ⟨y5557,h5558,h⟩ := bind_some h;refine RunO.c1 (by kernel_rfl) (by kernel_rfl) (c21 h5558 _) ?_;refine Ro.t 1 ?_;refine Ro.d (mkE [(0,(Zl E_Unit x0)),(0,(Zl E_Unit x1)),(3,(iN y5527)),(20,(V.bool (!y5557)))] 0) ?_;rcases tf (!y5557) with h5559 | h5559
    · rw [ite_t h5559] at h; refine Rn.t h5559 ?_;refine Rn.g ?_;refine Ro.t 1 ?_;refine Ro.d (mkE [(4,(V.bool false))] 22) ?_;refine Run.ret ?_;have h := Option.some.inj h; subst h;show RR13 L _ _ _;exact ⟨(V.bool false),(by kernel_rfl),(by kernel_rfl),hp⟩
    · rw [ite_f h5559] at h; refine Rn.f h5559 ?_;refine Run.skip ?_;refine Run.clrE (ts := [4,17,18,19,20,21,22,23,24,25,26]) (b := (.rgn i13r16)) (Q := (stp [4,11,12,13,14,15,16,17,18,19,20,21,22,23,24,25,26] (I13_1 x0 x1 L) (RR13 L) (J13_1 x0 x1 L) t)) (e' := (mkE [(0,(Zl E_Unit x0)),(0,(Zl E_Unit x1)),(3,(iN y5527))] 21)) (by kernel_rfl) ?_;refine Run.rgn ?_;refine Ro.t 3 ?_;refine RunO.nil ?_;have h := Option.some.inj h; subst h;show I13_1 x0 x1 L _ _ _;exact ⟨(by kernel_rfl),hp⟩
  · rw [ite_f h5545] at h; refine Rn.f h5545 ?_;refine Run.exit ?_;have h := Option.some.inj h; subst h;show J13_1 x0 x1 L () _ _ _;exact ⟨rfl,(by kernel_rfl),hp⟩
def F13 (x0 : (List T_Unit)) (x1 : (List T_Unit)) : Option Bool :=
  if (((List.length x0 : Nat) : Int) != ((List.length x1 : Nat) : Int)) then
    some false
  else
    (iter (fun s : (Int) => F13_1_b x0 x1 s) FUEL ((0 : Int))).bind fun o => match o with
    | .ret r => some r
    | .go () =>
      some true
theorem w13 {x0 : (List T_Unit)} {x1 : (List T_Unit)} {r : Bool} (h : F13 x0 x1 = some r) {H : Heap} {L : List Ob} (hp : HP H (L)) : Fn T 13 [(Zl E_Unit x0),(Zl E_Unit x1)] H (Q13 L r) := by
  refine Fn.enterE t13 (e0 := (mkE [(0,(Zl E_Unit x0)),(0,(Zl E_Unit x1))] 25)) (by kernel_rfl) ?_;show Run T (.clr [] i13n26) _ _ (finE none [4] (Q13 L r));refine Rn.k (mkE [(0,(Zl E_Unit x0)),(0,(Zl E_Unit x1))] 25) ?_;unfold F13 at h;refine Rn.g ?_;refine Ro.t 1 ?_;refine Ro.d (mkE [(0,(Zl E_Unit x0)),(0,(Zl E_Unit x1))] 25) ?_;refine Run.seq ?_;refine Rn.g ?_;refine Ro.t 1 ?_;refine Ro.p (len_fz E_Unit x0) ?_;refine Ro.t 1 ?_;refine Ro.p (len_fz E_Unit x1) ?_;refine Ro.t 1 ?_;refine Ro.d (mkE [(0,(Zl E_Unit x0)),(0,(Zl E_Unit x1)),(8,(V.bool ((ln x0) != (ln x1))))] 16) ?_;rcases tf ((ln x0) != (ln x1)) with h5510 | h5510
  · rw [ite_t h5510] at h; refine Rn.t h5510 ?_;refine Rn.g ?_;refine Ro.t 1 ?_;refine Ro.d (mkE [(4,(V.bool false))] 22) ?_;refine Run.ret ?_;have h := Option.some.inj h; subst h;exact ⟨(V.bool false),(by kernel_rfl),(by kernel_rfl),hp⟩
  · rw [ite_f h5510] at h; refine Rn.f h5510 ?_;refine Run.skip ?_;refine Rn.c (mkE [(0,(Zl E_Unit x0)),(0,(Zl E_Unit x1))] 25) ?_;refine Run.seq ?_;refine Rn.g ?_;refine Ro.t 1 ?_;refine Ro.d (mkE [(0,(Zl E_Unit x0)),(0,(Zl E_Unit x1)),(3,(iN (0 : Int)))] 21) ?_;refine Run.block ?_;obtain ⟨o,h5560,h⟩ := bind_some h;refine (Run.iter (I := I13_1 x0 x1 L) (RR := RR13 L) (J := J13_1 x0 x1 L) (fun s e h' t hI hf => ?_) FUEL h5560 (by exact ⟨(by kernel_rfl),hp⟩)).mono ?_
    · obtain ⟨rfl,hp⟩ := hI; exact w13_1_b hf hp
    · rintro X e' H hq;cases o with
      | ret r => cases X <;> first | exact hq.elim | (cases h; exact hq)
      | go a =>
        cases X with | nrm => exact hq.elim | ret => exact hq.elim | ext i => ?_;obtain ⟨rfl,he,hp⟩ := hq
        dsimp only at h
        refine Run.clrE (ts := [0,1,4,5,11,12,13,14,15,16,17,18,19,20,21,22,23,24,25,26]) (b := i13n23) (Q := (finE none [4] (Q13 L r))) he ?_;refine Rn.g ?_;refine Ro.t 1 ?_;refine Ro.d (mkE [(4,(V.bool true))] 22) ?_;refine Run.ret ?_;have h := Option.some.inj h; subst h;exact ⟨(V.bool true),(by kernel_rfl),(by kernel_rfl),hp⟩
theorem c13 {x0 : (List T_Unit)} {x1 : (List T_Unit)} {r : Bool} (h : F13 x0 x1 = some r) (s : Bool) : Fn T 13 [(Zl E_Unit x0),(Zl E_Unit x1)] [] (fun v hh => deep s hh deepN v = some (EB.e r)) := by
  refine (w13 h HP.nil).mono ?_;rintro v hh ⟨rfl,hp⟩;exact EB.hd s hh 38 _ (.inr rfl)
end Go.Eng.Cod
