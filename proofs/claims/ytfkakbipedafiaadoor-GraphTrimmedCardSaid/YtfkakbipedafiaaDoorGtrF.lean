/- Functions of this seat, run on unknown values by the rules of the small machine (no condition beyond those stated). -/
import Derived.Test.YtfkakbipedafiaaDoorGtrFa
namespace Go.Eng.Gra
open Go Go.Eng
set_option linter.unusedSectionVars false
set_option linter.unusedVariables false
set_option linter.unusedSimpArgs false
set_option maxRecDepth 20000
abbrev Q56 (L : List Ob) (r : Bool) : V → Heap → Prop := fun v h => v = EB.e r ∧ HP h (L)
abbrev RR56 (L : List Ob) (r : Bool) : List V → Heap → Prop := fun e h => endR none [6] (Q56 L r) e h
def F56_j1 (x0 : Int) (x1 : (List Int)) (x2 : Int) (y7134 : Int) : Option Bool :=
  if (((List.length x1 : Nat) : Int) != y7134) then
    some false
  else
    (idx x1 (0 : Int)).bind fun y7142 =>
    (idx x1 (IntKind.i64.wrap (y7134 - (1 : Int)))).bind fun y7144 =>
    if (y7142 != y7144) then
      some false
    else
      (idx x1 (0 : Int)).bind fun y7147 =>
      (F75 x0 y7147).bind fun y7149 =>
      if y7149.2 then
        some (y7149.1 == x2)
      else
        some false
theorem w56_j1 {x0 : Int} {x1 : (List Int)} {x2 : Int} {y7134 : Int} {r : Bool} (h : F56_j1 x0 x1 x2 y7134 = some r) {H : Heap} {L : List Ob} (hp : HP H (L)) :
    Run T i56n15 (mkE [(0,(V.int .u8 x0)),(0,(Zl (EI .u8) x1)),(0,(V.int .u8 x2)),(4,(i6 y7134))] 37) H (finE none [6] (Q56 L r)) := by
  unfold F56_j1 at h;refine Run.seq ?_;refine Rn.g ?_;refine Ro.t 1 ?_;refine Ro.p (len_fz (EI .u8) x1) ?_;refine Ro.t 1 ?_;rcases tf ((ln x1) != y7134) with h7141 | h7141
  · rw [ite_t h7141] at h; refine Ro.p (bool_of h7141) ?_;refine Ro.t 11 ?_;refine Ro.d (mkE [(0,(V.int .u8 x0)),(0,(Zl (EI .u8) x1)),(0,(V.int .u8 x2)),(27,(V.bool true))] 14) ?_;refine Run.condT (by kernel_rfl) ?_;refine Rn.g ?_;refine Ro.t 1 ?_;refine Ro.d (mkE [(6,(V.bool false))] 38) ?_;refine Run.ret ?_;have h := Option.some.inj h; subst h;exact ⟨(V.bool false),(by kernel_rfl),(by kernel_rfl),hp⟩
  · rw [ite_f h7141] at h; refine Ro.p (bool_of h7141) ?_;refine Ro.t 2 ?_;obtain ⟨y7142,h7143,h⟩ := bind_some h;refine Ro.p (idx_fz (EI .u8) .i64 h7143) ?_;refine Ro.t 4 ?_;obtain ⟨y7144,h7145,h⟩ := bind_some h;refine Ro.p (idx_fz (EI .u8) .i64 h7145) ?_;refine Ro.t 3 ?_;refine Ro.d (mkE [(0,(V.int .u8 x0)),(0,(Zl (EI .u8) x1)),(0,(V.int .u8 x2)),(27,(V.bool (y7142 != y7144)))] 14) ?_;rcases tf (y7142 != y7144) with h7146 | h7146
    · rw [ite_t h7146] at h; refine Rn.t h7146 ?_;refine Rn.g ?_;refine Ro.t 1 ?_;refine Ro.d (mkE [(6,(V.bool false))] 38) ?_;refine Run.ret ?_;have h := Option.some.inj h; subst h;exact ⟨(V.bool false),(by kernel_rfl),(by kernel_rfl),hp⟩
    · rw [ite_f h7146] at h; refine Rn.f h7146 ?_;refine Run.skip ?_;refine Rn.c (mkE [(0,(V.int .u8 x0)),(0,(Zl (EI .u8) x1)),(0,(V.int .u8 x2))] 42) ?_;refine Rn.g ?_;refine Ro.t 2 ?_;obtain ⟨y7147,h7148,h⟩ := bind_some h;refine Ro.p (idx_fz (EI .u8) .i64 h7148) ?_;refine Ro.t 1 ?_;obtain ⟨y7149,h7150,h⟩ := bind_some h;refine RunO.c1 (by kernel_rfl) (by kernel_rfl) (c75 h7150 _) ?_;refine Ro.t 5 ?_;refine Ro.d (mkE [(2,(V.int .u8 x2)),(5,(V.int .u8 y7149.1)),(0,(V.bool y7149.2))] 35) ?_;refine Rn.g ?_;rcases tf y7149.2 with h7151 | h7151
      · rw [ite_t h7151] at h; refine Ro.p (bool_of h7151) ?_;refine Ro.t 6 ?_;refine Ro.d (mkE [(6,(V.bool (y7149.1 == x2)))] 38) ?_;refine Run.ret ?_;have h := Option.some.inj h; subst h;exact ⟨(V.bool (y7149.1 == x2)),(by kernel_rfl),(by kernel_rfl),hp⟩
      · rw [ite_f h7151] at h; refine Ro.p (bool_of h7151) ?_;refine Ro.t 6 ?_;refine Ro.d (mkE [(6,(V.bool false))] 38) ?_;refine Run.ret ?_;have h := Option.some.inj h; subst h;exact ⟨(V.bool false),(by kernel_rfl),(by kernel_rfl),hp⟩
def F56 (x0 : Int) (x1 : (List Int)) (x2 : Int) : Option Bool :=
  if (x0 == (17 : Int)) then
    F56_j1 x0 x1 x2 ((1 : Int))
  else
    if (x0 == (18 : Int)) then
      F56_j1 x0 x1 x2 ((1 : Int))
    else
      F56_j1 x0 x1 x2 ((2 : Int))
theorem w56 {x0 : Int} {x1 : (List Int)} {x2 : Int} {r : Bool} (h : F56 x0 x1 x2 = some r) {H : Heap} {L : List Ob} (hp : HP H (L)) : Fn T 56 [(V.int .u8 x0),(Zl (EI .u8) x1),(V.int .u8 x2)] H (Q56 L r) := by
  refine Fn.enterE t56 (e0 := (mkE [(0,(V.int .u8 x0)),(0,(Zl (EI .u8) x1)),(0,(V.int .u8 x2))] 42)) (by kernel_rfl) ?_;show Run T (.clr [] i56n18) _ _ (finE none [6] (Q56 L r));refine Rn.k (mkE [(0,(V.int .u8 x0)),(0,(Zl (EI .u8) x1)),(0,(V.int .u8 x2))] 42) ?_;unfold F56 at h;refine Rn.g ?_;refine Ro.t 1 ?_;refine Ro.d (mkE [(0,(V.int .u8 x0)),(0,(Zl (EI .u8) x1)),(0,(V.int .u8 x2))] 42) ?_;refine Rn.g ?_;refine Ro.t 1 ?_;refine Ro.d (mkE [(0,(V.int .u8 x0)),(0,(Zl (EI .u8) x1)),(0,(V.int .u8 x2)),(4,(i6 (2 : Int)))] 37) ?_;refine Run.seq ?_;refine Rn.g ?_;refine Ro.t 1 ?_;rcases tf (x0 == (17 : Int)) with h7152 | h7152
  · rw [ite_t h7152] at h; refine Ro.p (bool_of h7152) ?_;refine Ro.t 4 ?_;refine Ro.d (mkE [(0,(V.int .u8 x0)),(0,(Zl (EI .u8) x1)),(0,(V.int .u8 x2)),(4,(i6 (2 : Int))),(7,(V.bool true))] 29) ?_;refine Run.condT (by kernel_rfl) ?_;refine Run.rgn ?_;refine Ro.t 1 ?_;refine Ro.d (mkE [(0,(V.int .u8 x0)),(0,(Zl (EI .u8) x1)),(0,(V.int .u8 x2)),(4,(i6 (1 : Int)))] 37) ?_;exact w56_j1 h hp
  · rw [ite_f h7152] at h; refine Ro.p (bool_of h7152) ?_;refine Ro.t 4 ?_;refine Ro.d (mkE [(0,(V.int .u8 x0)),(0,(Zl (EI .u8) x1)),(0,(V.int .u8 x2)),(4,(i6 (2 : Int))),(7,(V.bool (x0 == (18 : Int))))] 29) ?_;rcases tf (x0 == (18 : Int)) with h7153 | h7153
    · rw [ite_t h7153] at h; refine Rn.t h7153 ?_;refine Run.rgn ?_;refine Ro.t 1 ?_;refine Ro.d (mkE [(0,(V.int .u8 x0)),(0,(Zl (EI .u8) x1)),(0,(V.int .u8 x2)),(4,(i6 (1 : Int)))] 37) ?_;exact w56_j1 h hp
    · rw [ite_f h7153] at h; refine Rn.f h7153 ?_;refine Run.skip ?_;refine Rn.c (mkE [(0,(V.int .u8 x0)),(0,(Zl (EI .u8) x1)),(0,(V.int .u8 x2)),(4,(i6 (2 : Int)))] 37) ?_;exact w56_j1 h hp
theorem c56 {x0 : Int} {x1 : (List Int)} {x2 : Int} {r : Bool} (h : F56 x0 x1 x2 = some r) (s : Bool) : Fn T 56 [(V.int .u8 x0),(Zl (EI .u8) x1),(V.int .u8 x2)] [] (fun v hh => deep s hh deepN v = some (EB.e r)) := by
  refine (w56 h HP.nil).mono ?_;rintro v hh ⟨rfl,hp⟩;exact EB.hd s hh 38 _ (.inr rfl)
abbrev Q57 (L : List Ob) (r : Bool) : V → Heap → Prop := fun v h => v = EB.e r ∧ HP h (L)
abbrev RR57 (L : List Ob) (r : Bool) : List V → Heap → Prop := fun e h => endR none [4] (Q57 L r) e h
def F57 (x0 : Int) (x1 : Int) : Option Bool :=
  (F76 x0).bind fun y7169 =>
  if y7169 then
    (F76 x1).bind fun y7172 =>
    if y7172 then
      some true
    else
      some (x1 == (5 : Int))
  else
    if (x0 == (5 : Int)) then
      (F76 x1).bind fun y7176 =>
      if y7176 then
        some true
      else
        some (x1 == (5 : Int))
    else
      some false
theorem w57 {x0 : Int} {x1 : Int} {r : Bool} (h : F57 x0 x1 = some r) {H : Heap} {L : List Ob} (hp : HP H (L)) : Fn T 57 [(V.int .u8 x0),(V.int .u8 x1)] H (Q57 L r) := by
  refine Fn.enterE t57 (e0 := (mkE [(0,(V.int .u8 x0)),(0,(V.int .u8 x1))] 17)) (by kernel_rfl) ?_;show Run T (.clr [] i57n3) _ _ (finE none [4] (Q57 L r));refine Rn.k (mkE [(0,(V.int .u8 x0)),(0,(V.int .u8 x1))] 17) ?_;unfold F57 at h;refine Rn.g ?_;refine Ro.t 1 ?_;refine Ro.d (mkE [(0,(V.int .u8 x0)),(0,(V.int .u8 x1))] 17) ?_;refine Rn.g ?_;refine Ro.t 1 ?_;obtain ⟨y7169,h7170,h⟩ := bind_some h;rcases tf y7169 with h7171 | h7171
  · subst h7171; rw [if_pos rfl] at h;refine RunO.c1 (by kernel_rfl) (by kernel_rfl) (c76 h7170 _) ?_;refine Ro.t 6 ?_;obtain ⟨y7172,h7173,h⟩ := bind_some h;rcases tf y7172 with h7174 | h7174
    · subst h7174; rw [if_pos rfl] at h;refine RunO.c1 (by kernel_rfl) (by kernel_rfl) (c76 h7173 _) ?_;refine Ro.t 6 ?_;refine Ro.d (mkE [(4,(V.bool true))] 14) ?_;refine Run.ret ?_;have h := Option.some.inj h; subst h;exact ⟨(V.bool true),(by kernel_rfl),(by kernel_rfl),hp⟩
    · subst h7174; rw [if_neg (by decide)] at h;refine RunO.c1 (by kernel_rfl) (by kernel_rfl) (c76 h7173 _) ?_;refine Ro.t 6 ?_;refine Ro.d (mkE [(4,(V.bool (x1 == (5 : Int))))] 14) ?_;refine Run.ret ?_;have h := Option.some.inj h; subst h;exact ⟨(V.bool (x1 == (5 : Int))),(by kernel_rfl),(by kernel_rfl),hp⟩
  · subst h7171; rw [if_neg (by decide)] at h;refine RunO.c1 (by kernel_rfl) (by kernel_rfl) (c76 h7170 _) ?_;refine Ro.t 2 ?_;rcases tf (x0 == (5 : Int)) with h7175 | h7175
    · rw [ite_t h7175] at h; refine Ro.p (bool_of h7175) ?_;refine Ro.t 3 ?_;obtain ⟨y7176,h7177,h⟩ := bind_some h;rcases tf y7176 with h7178 | h7178
      · subst h7178; rw [if_pos rfl] at h;refine RunO.c1 (by kernel_rfl) (by kernel_rfl) (c76 h7177 _) ?_;refine Ro.t 6 ?_;refine Ro.d (mkE [(4,(V.bool true))] 14) ?_;refine Run.ret ?_;have h := Option.some.inj h; subst h;exact ⟨(V.bool true),(by kernel_rfl),(by kernel_rfl),hp⟩
      · subst h7178; rw [if_neg (by decide)] at h;refine RunO.c1 (by kernel_rfl) (by kernel_rfl) (c76 h7177 _) ?_;refine Ro.t 6 ?_;refine Ro.d (mkE [(4,(V.bool (x1 == (5 : Int))))] 14) ?_;refine Run.ret ?_;have h := Option.some.inj h; subst h;exact ⟨(V.bool (x1 == (5 : Int))),(by kernel_rfl),(by kernel_rfl),hp⟩
    · rw [ite_f h7175] at h; refine Ro.p (bool_of h7175) ?_;refine Ro.t 10 ?_;refine Ro.d (mkE [(4,(V.bool false))] 14) ?_;refine Run.ret ?_;have h := Option.some.inj h; subst h;exact ⟨(V.bool false),(by kernel_rfl),(by kernel_rfl),hp⟩
theorem c57 {x0 : Int} {x1 : Int} {r : Bool} (h : F57 x0 x1 = some r) (s : Bool) : Fn T 57 [(V.int .u8 x0),(V.int .u8 x1)] [] (fun v hh => deep s hh deepN v = some (EB.e r)) := by
  refine (w57 h HP.nil).mono ?_;rintro v hh ⟨rfl,hp⟩;exact EB.hd s hh 38 _ (.inr rfl)
abbrev Q77 (L : List Ob) (r : Bool) : V → Heap → Prop := fun v h => v = EB.e r ∧ HP h (L)
abbrev RR77 (L : List Ob) (r : Bool) : List V → Heap → Prop := fun e h => endR none [4] (Q77 L r) e h
abbrev I77_1 (x0 : (List Int)) (x1 : (List Int)) (L : List Ob) : (Int) → List V → Heap → Prop := fun s e h => e = (mkE [(0,(Zl (EI .u8) x0)),(0,(Zl (EI .u8) x1)),(10,(i6 (ln x0))),(0,(i6 s))] 12) ∧ HP h (L)
abbrev J77_1 (x0 : (List Int)) (x1 : (List Int)) (L : List Ob) : Unit → Nat → List V → Heap → Prop := fun a i e h => i = 0 ∧ clrEnv [0,1,4,5,11,12,13,14,15,16,17,18,19,20,21,22,23,24,25] e = (mkE [] 26) ∧ HP h (L)
def F77_1_b (x0 : (List Int)) (x1 : (List Int)) (y7274 : Int) : Option (Stp (Int) Bool Unit) :=
  if (decide (y7274 < ((List.length x0 : Nat) : Int))) then
    (idx x0 y7274).bind fun y7294 =>
    (idx x1 y7274).bind fun y7296 =>
    if (y7294 != y7296) then
      some (.ret false)
    else
      some (.next ((IntKind.i64.wrap (y7274 + (1 : Int)))))
  else
    some (.go ())
theorem w77_1_b {x0 : (List Int)} {x1 : (List Int)} {y7274 : Int} {t : (Stp (Int) Bool Unit)} (h : F77_1_b x0 x1 y7274 = some t) {H : Heap} {L : List Ob} (hp : HP H (L)) :
    Run T i77n20 (mkE [(0,(Zl (EI .u8) x0)),(0,(Zl (EI .u8) x1)),(10,(i6 (ln x0))),(0,(i6 y7274))] 12) H (stp [4,5,14,15,16,17,18,19,20,21,22,23,24,25] (I77_1 x0 x1 L) (RR77 L) (J77_1 x0 x1 L) t) := by
  unfold F77_1_b at h;refine Rn.g ?_;refine Ro.t 1 ?_;refine Ro.d (mkE [(0,(Zl (EI .u8) x0)),(0,(Zl (EI .u8) x1)),(10,(i6 (ln x0))),(0,(i6 y7274)),(0,(V.bool (decide (y7274 < (ln x0)))))] 11) ?_;refine Run.seq ?_;rcases tf (decide (y7274 < (ln x0))) with h7288 | h7288
  · rw [ite_t h7288] at h; refine Rn.t h7288 ?_;refine Run.skip ?_;refine Rn.c (mkE [(0,(Zl (EI .u8) x0)),(0,(Zl (EI .u8) x1)),(10,(i6 (ln x0))),(0,(i6 y7274))] 12) ?_;refine Run.seq ?_;refine Run.block ?_;refine Rn.g ?_;refine Ro.t 2 ?_;refine Ro.d (mkE [(0,(Zl (EI .u8) x0)),(0,(Zl (EI .u8) x1)),(3,(i6 y7274)),(6,(i6 (ln x0))),(0,(i6 y7274))] 12) ?_;refine Rn.g ?_;refine Ro.t 2 ?_;obtain ⟨y7294,h7295,h⟩ := bind_some h;refine Ro.p (idx_fz (EI .u8) .i64 h7295) ?_;refine Ro.t 3 ?_;obtain ⟨y7296,h7297,h⟩ := bind_some h;refine Ro.p (idx_fz (EI .u8) .i64 h7297) ?_;refine Ro.t 2 ?_;refine Ro.d (mkE [(0,(Zl (EI .u8) x0)),(0,(Zl (EI .u8) x1)),(10,(i6 (ln x0))),(0,(i6 y7274)),(10,(V.bool (y7294 != y7296)))] 1) ?_;rcases tf (y7294 != y7296) with h7298 | h7298
    · rw [ite_t h7298] at h; refine Rn.t h7298 ?_;refine Rn.g ?_;refine Ro.t 1 ?_;refine Ro.d (mkE [(4,(V.bool false))] 21) ?_;refine Run.ret ?_;have h := Option.some.inj h; subst h;show RR77 L _ _ _;exact ⟨(V.bool false),(by kernel_rfl),(by kernel_rfl),hp⟩
    · rw [ite_f h7298] at h; refine Rn.f h7298 ?_;refine Run.skip ?_;refine Run.clrE (ts := [4,5,15,16,17,18,19,20,21,22,23,24]) (b := (.rgn i77r17)) (Q := (stp [4,5,14,15,16,17,18,19,20,21,22,23,24,25] (I77_1 x0 x1 L) (RR77 L) (J77_1 x0 x1 L) t)) (e' := (mkE [(0,(Zl (EI .u8) x0)),(0,(Zl (EI .u8) x1)),(10,(i6 (ln x0))),(0,(i6 y7274))] 12)) (by kernel_rfl) ?_;refine Run.rgn ?_;refine Ro.t 2 ?_;refine RunO.nil ?_;have h := Option.some.inj h; subst h;show I77_1 x0 x1 L _ _ _;exact ⟨(by kernel_rfl),hp⟩
  · rw [ite_f h7288] at h; refine Rn.f h7288 ?_;refine Run.exit ?_;have h := Option.some.inj h; subst h;show J77_1 x0 x1 L () _ _ _;exact ⟨rfl,(by kernel_rfl),hp⟩
def F77 (x0 : (List Int)) (x1 : (List Int)) : Option Bool :=
  if (((List.length x0 : Nat) : Int) != ((List.length x1 : Nat) : Int)) then
    some false
  else
    (iter (fun s : (Int) => F77_1_b x0 x1 s) FUEL ((0 : Int))).bind fun o => match o with
    | .ret r => some r
    | .go () =>
      some true
theorem w77 {x0 : (List Int)} {x1 : (List Int)} {r : Bool} (h : F77 x0 x1 = some r) {H : Heap} {L : List Ob} (hp : HP H (L)) : Fn T 77 [(Zl (EI .u8) x0),(Zl (EI .u8) x1)] H (Q77 L r) := by
  refine Fn.enterE t77 (e0 := (mkE [(0,(Zl (EI .u8) x0)),(0,(Zl (EI .u8) x1))] 24)) (by kernel_rfl) ?_;show Run T (.clr [] i77n28) _ _ (finE none [4] (Q77 L r));refine Rn.k (mkE [(0,(Zl (EI .u8) x0)),(0,(Zl (EI .u8) x1))] 24) ?_;unfold F77 at h;refine Rn.g ?_;refine Ro.t 1 ?_;refine Ro.d (mkE [(0,(Zl (EI .u8) x0)),(0,(Zl (EI .u8) x1))] 24) ?_;refine Run.seq ?_;refine Rn.g ?_;refine Ro.t 1 ?_;refine Ro.p (len_fz (EI .u8) x0) ?_;refine Ro.t 1 ?_;refine Ro.p (len_fz (EI .u8) x1) ?_;refine Ro.t 1 ?_;refine Ro.d (mkE [(0,(Zl (EI .u8) x0)),(0,(Zl (EI .u8) x1)),(8,(V.bool ((ln x0) != (ln x1))))] 15) ?_;rcases tf ((ln x0) != (ln x1)) with h7261 | h7261
  · rw [ite_t h7261] at h; refine Rn.t h7261 ?_;refine Rn.g ?_;refine Ro.t 1 ?_;refine Ro.d (mkE [(4,(V.bool false))] 21) ?_;refine Run.ret ?_;have h := Option.some.inj h; subst h;exact ⟨(V.bool false),(by kernel_rfl),(by kernel_rfl),hp⟩
  · rw [ite_f h7261] at h; refine Rn.f h7261 ?_;refine Run.skip ?_;refine Rn.c (mkE [(0,(Zl (EI .u8) x0)),(0,(Zl (EI .u8) x1))] 24) ?_;refine Run.seq ?_;refine Rn.g ?_;refine Ro.t 1 ?_;refine Ro.p (len_fz (EI .u8) x0) ?_;refine Ro.t 1 ?_;refine Ro.d (mkE [(0,(Zl (EI .u8) x0)),(0,(Zl (EI .u8) x1)),(10,(i6 (ln x0))),(0,(i6 (0 : Int)))] 12) ?_;refine Run.block ?_;obtain ⟨o,h7299,h⟩ := bind_some h;refine (Run.iter (I := I77_1 x0 x1 L) (RR := RR77 L) (J := J77_1 x0 x1 L) (fun s e h' t hI hf => ?_) FUEL h7299 (by exact ⟨(by kernel_rfl),hp⟩)).mono ?_
    · obtain ⟨rfl,hp⟩ := hI; exact w77_1_b hf hp
    · rintro X e' H hq;cases o with
      | ret r => cases X <;> first | exact hq.elim | (cases h; exact hq)
      | go a =>
        cases X with | nrm => exact hq.elim | ret => exact hq.elim | ext i => ?_;obtain ⟨rfl,he,hp⟩ := hq
        dsimp only at h
        refine Run.clrE (ts := [0,1,4,5,11,12,13,14,15,16,17,18,19,20,21,22,23,24,25]) (b := i77n25) (Q := (finE none [4] (Q77 L r))) he ?_;refine Rn.g ?_;refine Ro.t 1 ?_;refine Ro.d (mkE [(4,(V.bool true))] 21) ?_;refine Run.ret ?_;have h := Option.some.inj h; subst h;exact ⟨(V.bool true),(by kernel_rfl),(by kernel_rfl),hp⟩
theorem c77 {x0 : (List Int)} {x1 : (List Int)} {r : Bool} (h : F77 x0 x1 = some r) (s : Bool) : Fn T 77 [(Zl (EI .u8) x0),(Zl (EI .u8) x1)] [] (fun v hh => deep s hh deepN v = some (EB.e r)) := by
  refine (w77 h HP.nil).mono ?_;rintro v hh ⟨rfl,hp⟩;exact EB.hd s hh 38 _ (.inr rfl)
abbrev Q58 (L : List Ob) (r : Bool) : V → Heap → Prop := fun v h => v = EB.e r ∧ HP h (L)
abbrev RR58 (L : List Ob) (r : Bool) : List V → Heap → Prop := fun e h => endR none [8] (Q58 L r) e h
abbrev I58_1 (x2 : (List Int)) (x3 : Int) (y7308 : T_Graph) (b7310 : Nat) (L : List Ob) : (Int) → List V → Heap → Prop := fun s e h => e = (mkE [(2,(Zl (EI .u8) x2)),(0,(V.int .u8 x3)),(5,(V.ptr b7310 0 0)),(14,(Zl (EI .i64) y7308.fParams)),(0,(i6 (ln y7308.fParams))),(0,(i6 s))] 22) ∧ HP h ((some (b7310,0),[(ES.e y7308.fName),(Zl (EI .i64) y7308.fParams),(V.int .u8 y7308.fResult),(Zl (EI .u8) y7308.fVars),(Zl E_Array y7308.fArrays),(Zl E_Block y7308.fBlocks)]) :: L)
abbrev J58_1 (x2 : (List Int)) (x3 : Int) (y7308 : T_Graph) (b7310 : Nat) (L : List Ob) : Unit → Nat → List V → Heap → Prop := fun a i e h => i = 0 ∧ clrEnv [8,11,23,24,25,26,27,28,29,30,31,32,33,34,35,36] e = (mkE [(2,(Zl (EI .u8) x2)),(0,(V.int .u8 x3)),(5,(V.ptr b7310 0 0))] 39) ∧ HP h ((some (b7310,0),[(ES.e y7308.fName),(Zl (EI .i64) y7308.fParams),(V.int .u8 y7308.fResult),(Zl (EI .u8) y7308.fVars),(Zl E_Array y7308.fArrays),(Zl E_Block y7308.fBlocks)]) :: L)
def F58_1_b (x2 : (List Int)) (x3 : Int) (y7308 : T_Graph) (y7323 : Int) : Option (Stp (Int) Bool Unit) :=
  if (decide (y7323 < ((List.length y7308.fParams : Nat) : Int))) then
    (idx y7308.fParams y7323).bind fun y7343 =>
    (F34 y7343 ((List.length y7308.fVars : Nat) : Int)).bind fun y7345 =>
    if (!y7345) then
      some (.ret false)
    else
      some (.next ((IntKind.i64.wrap (y7323 + (1 : Int)))))
  else
    some (.go ())
theorem w58_1_b {x2 : (List Int)} {x3 : Int} {y7308 : T_Graph} {y7323 : Int} {t : (Stp (Int) Bool Unit)} (h : F58_1_b x2 x3 y7308 y7323 = some t) {b7310 : Nat} {H : Heap} {L : List Ob} (hp : HP H ((some (b7310,0),[(ES.e y7308.fName),(Zl (EI .i64) y7308.fParams),(V.int .u8 y7308.fResult),(Zl (EI .u8) y7308.fVars),(Zl E_Array y7308.fArrays),(Zl E_Block y7308.fBlocks)]) :: L)) :
    Run T i58n21 (mkE [(2,(Zl (EI .u8) x2)),(0,(V.int .u8 x3)),(5,(V.ptr b7310 0 0)),(14,(Zl (EI .i64) y7308.fParams)),(0,(i6 (ln y7308.fParams))),(0,(i6 y7323))] 22) H (stp [8,11,27,28,29,30,31,32,33,34,35,36] (I58_1 x2 x3 y7308 b7310 L) (RR58 L) (J58_1 x2 x3 y7308 b7310 L) t) := by
  unfold F58_1_b at h;refine Rn.g ?_;refine Ro.t 1 ?_;refine Ro.d (mkE [(2,(Zl (EI .u8) x2)),(0,(V.int .u8 x3)),(5,(V.ptr b7310 0 0)),(14,(Zl (EI .i64) y7308.fParams)),(0,(i6 (ln y7308.fParams))),(0,(i6 y7323)),(0,(V.bool (decide (y7323 < (ln y7308.fParams)))))] 21) ?_;refine Run.seq ?_;rcases tf (decide (y7323 < (ln y7308.fParams))) with h7337 | h7337
  · rw [ite_t h7337] at h; refine Rn.t h7337 ?_;refine Run.skip ?_;refine Rn.c (mkE [(2,(Zl (EI .u8) x2)),(0,(V.int .u8 x3)),(5,(V.ptr b7310 0 0)),(14,(Zl (EI .i64) y7308.fParams)),(0,(i6 (ln y7308.fParams))),(0,(i6 y7323))] 22) ?_;refine Run.seq ?_;refine Run.block ?_;refine Rn.g ?_;obtain ⟨y7343,h7344,h⟩ := bind_some h;refine Ro.p (idx_fz (EI .i64) .i64 h7344) ?_;refine Ro.t 2 ?_;refine Ro.d (mkE [(2,(Zl (EI .u8) x2)),(0,(V.int .u8 x3)),(5,(V.ptr b7310 0 0)),(1,(i6 y7343)),(12,(Zl (EI .i64) y7308.fParams)),(0,(i6 (ln y7308.fParams))),(0,(i6 y7323))] 22) ?_;refine Rn.g ?_;refine Ro.t 2 ?_;refine Ro.p (hp.ld 0 (off := 3) (n := none) (v := (Zl (EI .u8) y7308.fVars)) rfl (by kernel_rfl)) ?_;refine Ro.p (len_fz (EI .u8) y7308.fVars) ?_;obtain ⟨y7345,h7346,h⟩ := bind_some h;refine RunO.c1 (by kernel_rfl) (by kernel_rfl) (c34 h7346 _) ?_;refine Ro.t 1 ?_;refine Ro.d (mkE [(2,(Zl (EI .u8) x2)),(0,(V.int .u8 x3)),(5,(V.ptr b7310 0 0)),(14,(Zl (EI .i64) y7308.fParams)),(0,(i6 (ln y7308.fParams))),(0,(i6 y7323)),(8,(V.bool (!y7345)))] 13) ?_;rcases tf (!y7345) with h7347 | h7347
    · rw [ite_t h7347] at h; refine Rn.t h7347 ?_;refine Rn.g ?_;refine Ro.t 1 ?_;refine Ro.d (mkE [(8,(V.bool false))] 40) ?_;refine Run.ret ?_;have h := Option.some.inj h; subst h;show RR58 L _ _ _;have hp := hp.del 0;exact ⟨(V.bool false),(by kernel_rfl),(by kernel_rfl),hp⟩
    · rw [ite_f h7347] at h; refine Rn.f h7347 ?_;refine Run.skip ?_;refine Run.clrE (ts := [8,11,28,29,30,31,32,33,34,35]) (b := (.rgn i58r18)) (Q := (stp [8,11,27,28,29,30,31,32,33,34,35,36] (I58_1 x2 x3 y7308 b7310 L) (RR58 L) (J58_1 x2 x3 y7308 b7310 L) t)) (e' := (mkE [(2,(Zl (EI .u8) x2)),(0,(V.int .u8 x3)),(5,(V.ptr b7310 0 0)),(14,(Zl (EI .i64) y7308.fParams)),(0,(i6 (ln y7308.fParams))),(0,(i6 y7323))] 22)) (by kernel_rfl) ?_;refine Run.rgn ?_;refine Ro.t 2 ?_;refine RunO.nil ?_;have h := Option.some.inj h; subst h;show I58_1 x2 x3 y7308 b7310 L _ _ _;exact ⟨(by kernel_rfl),hp⟩
  · rw [ite_f h7337] at h; refine Rn.f h7337 ?_;refine Run.exit ?_;have h := Option.some.inj h; subst h;show J58_1 x2 x3 y7308 b7310 L () _ _ _;exact ⟨rfl,(by kernel_rfl),hp⟩
def F58 (x0 : (List T_Graph)) (x1 : T_Ins) (x2 : (List Int)) (x3 : Int) : Option Bool :=
  (F34 x1.fRef ((List.length x0 : Nat) : Int)).bind fun y7305 =>
  if (!y7305) then
    some false
  else
    (idx x0 x1.fRef).bind fun y7308 =>
    (iter (fun s : (Int) => F58_1_b x2 x3 y7308 s) FUEL ((0 : Int))).bind fun o => match o with
    | .ret r => some r
    | .go () =>
      if (y7308.fResult == x3) then
        (F52 y7308 y7308.fParams).bind fun y7350 =>
        (F77 y7350 x2).bind fun y7352 =>
        some y7352
      else
        some false
theorem w58 {x0 : (List T_Graph)} {x1 : T_Ins} {x2 : (List Int)} {x3 : Int} {r : Bool} (h : F58 x0 x1 x2 x3 = some r) {H : Heap} {L : List Ob} (hp : HP H (L)) : Fn T 58 [(Zl E_Graph x0),(E_Ins.e x1),(Zl (EI .u8) x2),(V.int .u8 x3)] H (Q58 L r) := by
  refine Fn.enterE t58 (e0 := (mkE [(0,(Zl E_Graph x0)),(0,(E_Ins.e x1)),(0,(Zl (EI .u8) x2)),(0,(V.int .u8 x3))] 45)) (by kernel_rfl) ?_;show Run T (.clr [] i58n30) _ _ (finE none [8] (Q58 L r));refine Rn.k (mkE [(0,(Zl E_Graph x0)),(0,(E_Ins.e x1)),(0,(Zl (EI .u8) x2)),(0,(V.int .u8 x3))] 45) ?_;unfold F58 at h;refine Rn.g ?_;refine Ro.t 2 ?_;refine Ro.d (mkE [(0,(Zl E_Graph x0)),(1,(Zl (EI .u8) x2)),(0,(V.int .u8 x3)),(1,(V.fp (E_Ins.e x1)))] 43) ?_;refine Run.seq ?_;refine Rn.g ?_;refine Ro.t 3 ?_;refine Ro.p (len_fz E_Graph x0) ?_;obtain ⟨y7305,h7306,h⟩ := bind_some h;refine RunO.c1 (by kernel_rfl) (by kernel_rfl) (c34 h7306 _) ?_;refine Ro.t 1 ?_;refine Ro.d (mkE [(0,(Zl E_Graph x0)),(1,(Zl (EI .u8) x2)),(0,(V.int .u8 x3)),(1,(V.fp (E_Ins.e x1))),(11,(V.bool (!y7305)))] 31) ?_;rcases tf (!y7305) with h7307 | h7307
  · rw [ite_t h7307] at h; refine Rn.t h7307 ?_;refine Rn.g ?_;refine Ro.t 1 ?_;refine Ro.d (mkE [(8,(V.bool false))] 40) ?_;refine Run.ret ?_;have h := Option.some.inj h; subst h;exact ⟨(V.bool false),(by kernel_rfl),(by kernel_rfl),hp⟩
  · rw [ite_f h7307] at h; refine Rn.f h7307 ?_;refine Run.skip ?_;refine Rn.c (mkE [(0,(Zl E_Graph x0)),(1,(Zl (EI .u8) x2)),(0,(V.int .u8 x3)),(1,(V.fp (E_Ins.e x1)))] 43) ?_;refine Rn.g ?_;refine Ro.t 3 ?_;obtain ⟨y7308,h7309,h⟩ := bind_some h;refine Ro.p (idx_fz E_Graph .i64 h7309) ?_;refine Ro.t 1 ?_;refine RunO.alloc hp (by kernel_rfl) ?_;intro b7310 H hp;have hp : HP H ((some (b7310,0),[(ES.e ([] : List UInt8)),(V.fz (List.map (EI .i64).e ([] : List Int))),(V.int .u8 (0 : Int)),(V.fz (List.map (EI .u8).e ([] : List Int))),(V.fz (List.map E_Array.e ([] : List T_Array))),(V.fz (List.map E_Block.e ([] : List T_Block)))]) :: L) := hp;refine RunO.st hp (by kernel_rfl) 0 (off := 0) (v := (E_Graph.e y7308)) (cs' := [(ES.e y7308.fName),(Zl (EI .i64) y7308.fParams),(V.int .u8 y7308.fResult),(Zl (EI .u8) y7308.fVars),(Zl E_Array y7308.fArrays),(Zl E_Block y7308.fBlocks)]) rfl (by kernel_rfl) (by kernel_rfl) (by kernel_rfl) ?_;intro H hp;refine Ro.d (mkE [(2,(Zl (EI .u8) x2)),(0,(V.int .u8 x3)),(5,(V.ptr b7310 0 0))] 39) ?_;refine Run.seq ?_;refine Rn.g ?_;refine Ro.t 1 ?_;refine Ro.p (hp.ld 0 (off := 1) (n := none) (v := (Zl (EI .i64) y7308.fParams)) rfl (by kernel_rfl)) ?_;refine Ro.p (len_fz (EI .i64) y7308.fParams) ?_;refine Ro.t 1 ?_;refine Ro.d (mkE [(2,(Zl (EI .u8) x2)),(0,(V.int .u8 x3)),(5,(V.ptr b7310 0 0)),(14,(Zl (EI .i64) y7308.fParams)),(0,(i6 (ln y7308.fParams))),(0,(i6 (0 : Int)))] 22) ?_;refine Run.block ?_;obtain ⟨o,h7348,h⟩ := bind_some h;refine (Run.iter (I := I58_1 x2 x3 y7308 b7310 L) (RR := RR58 L) (J := J58_1 x2 x3 y7308 b7310 L) (fun s e h' t hI hf => ?_) FUEL h7348 (by exact ⟨(by kernel_rfl),hp⟩)).mono ?_
    · obtain ⟨rfl,hp⟩ := hI; exact w58_1_b hf hp
    · rintro X e' H hq;cases o with
      | ret r => cases X <;> first | exact hq.elim | (cases h; exact hq)
      | go a =>
        cases X with | nrm => exact hq.elim | ret => exact hq.elim | ext i => ?_;obtain ⟨rfl,he,hp⟩ := hq
        dsimp only at h
        refine Run.clrE (ts := [8,11,23,24,25,26,27,28,29,30,31,32,33,34,35,36]) (b := i58n26) (Q := (finE none [8] (Q58 L r))) he ?_;refine Rn.g ?_;refine Ro.t 1 ?_;refine Ro.p (hp.ld 0 (off := 2) (n := none) (v := (V.int .u8 y7308.fResult)) rfl (by kernel_rfl)) ?_;refine Ro.t 1 ?_;rcases tf (y7308.fResult == x3) with h7349 | h7349
        · rw [ite_t h7349] at h; refine Ro.p (bool_of h7349) ?_;refine Ro.t 1 ?_;refine Ro.p (hp.ld 0 (off := 0) (n := (some 6)) (v := (E_Graph.e y7308)) rfl (by kernel_rfl)) ?_;refine Ro.t 1 ?_;refine Ro.p (hp.ld 0 (off := 1) (n := none) (v := (Zl (EI .i64) y7308.fParams)) rfl (by kernel_rfl)) ?_;obtain ⟨y7350,h7351,h⟩ := bind_some h;refine RunO.c1 (by kernel_rfl) (by kernel_rfl) (c52 h7351 _) ?_;refine Ro.t 1 ?_;obtain ⟨y7352,h7353,h⟩ := bind_some h;refine RunO.c1 (by kernel_rfl) (by kernel_rfl) (c77 h7353 _) ?_;refine Ro.t 2 ?_;refine Ro.d (mkE [(8,(V.bool y7352))] 40) ?_;refine Run.ret ?_;have h := Option.some.inj h; subst h;have hp := hp.del 0;exact ⟨(V.bool y7352),(by kernel_rfl),(by kernel_rfl),hp⟩
        · rw [ite_f h7349] at h; refine Ro.p (bool_of h7349) ?_;refine Ro.t 9 ?_;refine Ro.d (mkE [(8,(V.bool false))] 40) ?_;refine Run.ret ?_;have h := Option.some.inj h; subst h;have hp := hp.del 0;exact ⟨(V.bool false),(by kernel_rfl),(by kernel_rfl),hp⟩
theorem c58 {x0 : (List T_Graph)} {x1 : T_Ins} {x2 : (List Int)} {x3 : Int} {r : Bool} (h : F58 x0 x1 x2 x3 = some r) (s : Bool) : Fn T 58 [(Zl E_Graph x0),(E_Ins.e x1),(Zl (EI .u8) x2),(V.int .u8 x3)] [] (fun v hh => deep s hh deepN v = some (EB.e r)) := by
  refine (w58 h HP.nil).mono ?_;rintro v hh ⟨rfl,hp⟩;exact EB.hd s hh 38 _ (.inr rfl)
abbrev Q31 (L : List Ob) (r : (Int × Bool)) : V → Heap → Prop := fun v h => v = .tup [(EI .u8).e r.1,EB.e r.2] ∧ HP h (L)
abbrev RR31 (L : List Ob) (r : (Int × Bool)) : List V → Heap → Prop := fun e h => endR none [6,7] (Q31 L r) e h
def F31_j2 (y7408 : Int) (y7443 : Bool) : Option (Int × Bool) :=
  if (!y7443) then
    some ((0 : Int),false)
  else
    some (y7408,true)
theorem w31_j2 {y7408 : Int} {y7443 : Bool} {r : (Int × Bool)} (h : F31_j2 y7408 y7443 = some r) {b7407 : Nat} {H : Heap} {L : List Ob} (hp : HP H ((some (b7407,0),[(V.int .u8 y7408)]) :: L)) :
    Run T i31n52 (mkE [(9,(V.ptr b7407 0 0)),(0,(V.bool y7443))] 94) H (finE none [6,7] (Q31 L r)) := by
  unfold F31_j2 at h;refine Run.seq ?_;refine Rn.g ?_;refine Ro.t 2 ?_;refine Ro.d (mkE [(9,(V.ptr b7407 0 0)),(93,(V.bool (!y7443)))] 1) ?_;rcases tf (!y7443) with h7445 | h7445
  · rw [ite_t h7445] at h; refine Rn.t h7445 ?_;refine Rn.g ?_;refine Ro.t 2 ?_;refine Ro.d (mkE [(6,(V.int .u8 (0 : Int))),(0,(V.bool false))] 97) ?_;refine Run.ret ?_;have h := Option.some.inj h; subst h;have hp := hp.del 0;exact ⟨(V.tup [(V.int .u8 (0 : Int)),(V.bool false)]),(by kernel_rfl),(by kernel_rfl),hp⟩
  · rw [ite_f h7445] at h; refine Rn.f h7445 ?_;refine Run.skip ?_;refine Rn.c (mkE [(9,(V.ptr b7407 0 0))] 95) ?_;refine Rn.g ?_;refine Ro.p (hp.ld 0 (off := 0) (n := none) (v := (V.int .u8 y7408)) rfl (by kernel_rfl)) ?_;refine Ro.t 2 ?_;refine Ro.d (mkE [(6,(V.int .u8 y7408)),(0,(V.bool true))] 97) ?_;refine Run.ret ?_;have h := Option.some.inj h; subst h;have hp := hp.del 0;exact ⟨(V.tup [(V.int .u8 y7408),(V.bool true)]),(by kernel_rfl),(by kernel_rfl),hp⟩
def F31_j3 (x0 : (List T_Graph)) (x1 : T_Graph) (x2 : T_Ins) (y7399 : (List Int)) (y7408 : Int) (y7447 : Bool) : Option (Int × Bool) :=
  if y7447 then
    (F53 y7399 y7408).bind fun y7449 =>
    F31_j2 y7408 ((!y7449))
  else
    if (x2.fKind == (2 : Int)) then
      (F55 y7408 x2.fBits).bind fun y7452 =>
      F31_j2 y7408 (y7452)
    else
      if (x2.fKind == (4 : Int)) then
        (F56 x2.fOp y7399 y7408).bind fun y7455 =>
        F31_j2 y7408 (y7455)
      else
        if (x2.fKind == (5 : Int)) then
          (idx y7399 (0 : Int)).bind fun y7458 =>
          (F57 y7408 y7458).bind fun y7460 =>
          F31_j2 y7408 (y7460)
        else
          if (x2.fKind == (6 : Int)) then
            (idx y7399 (0 : Int)).bind fun y7463 =>
            if (y7463 == (4 : Int)) then
              (idx x1.fArrays x2.fRef).bind fun y7466 =>
              F31_j2 y7408 ((y7408 == y7466.fType))
            else
              F31_j2 y7408 (false)
          else
            if (x2.fKind == (7 : Int)) then
              (idx y7399 (0 : Int)).bind fun y7469 =>
              if (y7469 == (4 : Int)) then
                (idx y7399 (1 : Int)).bind fun y7472 =>
                (idx x1.fArrays x2.fRef).bind fun y7474 =>
                F31_j2 y7408 ((y7472 == y7474.fType))
              else
                F31_j2 y7408 (false)
            else
              if (x2.fKind == (9 : Int)) then
                (F58 x0 x2 y7399 y7408).bind fun y7477 =>
                F31_j2 y7408 (y7477)
              else
                F31_j2 y7408 (true)
theorem w31_j3 {x0 : (List T_Graph)} {x1 : T_Graph} {x2 : T_Ins} {y7399 : (List Int)} {y7408 : Int} {y7447 : Bool} {r : (Int × Bool)} (h : F31_j3 x0 x1 x2 y7399 y7408 y7447 = some r) {b7407 : Nat} {H : Heap} {L : List Ob} (hp : HP H ((some (b7407,0),[(V.int .u8 y7408)]) :: L)) :
    Run T i31n41 (mkE [(0,(Zl E_Graph x0)),(3,(V.fp (E_Graph.e x1))),(0,(V.fp (E_Ins.e x2))),(2,(Zl (EI .u8) y7399)),(0,(V.ptr b7407 0 0)),(0,(V.bool true)),(20,(V.int .u8 x2.fKind)),(0,(V.bool y7447))] 72) H (blk 0 (thn T (.clr [0,4,5,8,30,31,32,33,34,35,36,37,38,39,40,41,42,43,44,45,46,47,48,49,50,51,52,53,54,55,56,57,58,59,60,61,62,63,64,65,66,67,68,69,70,71,72,73,74,75,76,77,78,79,80,81,82,83,84,85,86,87,88,89,90,91,92,93,94,95,96,97,98,99,100,101] i31n52) (finE none [6,7] (Q31 L r)))) := by
  unfold F31_j3 at h;rcases tf y7447 with h7448 | h7448
  · rw [ite_t h7448] at h; refine Rn.t h7448 ?_;refine Run.rgn ?_;refine Ro.t 2 ?_;obtain ⟨y7449,h7450,h⟩ := bind_some h;have hp : HP _ ((some (b7407,0),[(V.int .u8 y7408)]) :: L) := hp;refine RunO.h1 (n := 53) (caps := []) (us := [(Zl (EI .u8) y7399),(V.fn 54 [(V.ptr b7407 0 0)])]) (by kernel_rfl) (by kernel_rfl) (by kernel_rfl) ((w53 h7450 hp).mono ?_);rintro _ H ⟨rfl,hp⟩;have hp : HP H ((some (b7407,0),[(V.int .u8 y7408)]) :: L) := hp;refine Ro.t 2 ?_;refine RunO.nil ?_;refine Rn.c (mkE [(9,(V.ptr b7407 0 0)),(0,(V.bool (!y7449)))] 94) ?_;exact w31_j2 h hp
  · rw [ite_f h7448] at h; refine Rn.f h7448 ?_;refine Rn.g ?_;refine Ro.t 2 ?_;refine Ro.d (mkE [(0,(Zl E_Graph x0)),(3,(V.fp (E_Graph.e x1))),(0,(V.fp (E_Ins.e x2))),(2,(Zl (EI .u8) y7399)),(0,(V.ptr b7407 0 0)),(0,(V.bool true)),(20,(V.int .u8 x2.fKind)),(7,(V.bool (x2.fKind == (2 : Int))))] 65) ?_;rcases tf (x2.fKind == (2 : Int)) with h7451 | h7451
    · rw [ite_t h7451] at h; refine Rn.t h7451 ?_;refine Run.rgn ?_;refine Ro.p (hp.ld 0 (off := 0) (n := none) (v := (V.int .u8 y7408)) rfl (by kernel_rfl)) ?_;refine Ro.t 2 ?_;obtain ⟨y7452,h7453,h⟩ := bind_some h;refine RunO.c1 (by kernel_rfl) (by kernel_rfl) (c55 h7453 _) ?_;refine Ro.t 1 ?_;refine RunO.nil ?_;refine Rn.c (mkE [(9,(V.ptr b7407 0 0)),(0,(V.bool y7452))] 94) ?_;exact w31_j2 h hp
    · rw [ite_f h7451] at h; refine Rn.f h7451 ?_;refine Rn.g ?_;refine Ro.t 2 ?_;refine Ro.d (mkE [(0,(Zl E_Graph x0)),(3,(V.fp (E_Graph.e x1))),(0,(V.fp (E_Ins.e x2))),(2,(Zl (EI .u8) y7399)),(0,(V.ptr b7407 0 0)),(0,(V.bool true)),(20,(V.int .u8 x2.fKind)),(13,(V.bool (x2.fKind == (4 : Int))))] 59) ?_;rcases tf (x2.fKind == (4 : Int)) with h7454 | h7454
      · rw [ite_t h7454] at h; refine Rn.t h7454 ?_;refine Run.rgn ?_;refine Ro.t 3 ?_;refine Ro.p (hp.ld 0 (off := 0) (n := none) (v := (V.int .u8 y7408)) rfl (by kernel_rfl)) ?_;obtain ⟨y7455,h7456,h⟩ := bind_some h;refine RunO.c1 (by kernel_rfl) (by kernel_rfl) (c56 h7456 _) ?_;refine Ro.t 1 ?_;refine RunO.nil ?_;refine Rn.c (mkE [(9,(V.ptr b7407 0 0)),(0,(V.bool y7455))] 94) ?_;exact w31_j2 h hp
      · rw [ite_f h7454] at h; refine Rn.f h7454 ?_;refine Rn.g ?_;refine Ro.t 2 ?_;refine Ro.d (mkE [(0,(Zl E_Graph x0)),(3,(V.fp (E_Graph.e x1))),(0,(V.fp (E_Ins.e x2))),(2,(Zl (EI .u8) y7399)),(0,(V.ptr b7407 0 0)),(0,(V.bool true)),(20,(V.int .u8 x2.fKind)),(20,(V.bool (x2.fKind == (5 : Int))))] 52) ?_;rcases tf (x2.fKind == (5 : Int)) with h7457 | h7457
        · rw [ite_t h7457] at h; refine Rn.t h7457 ?_;refine Run.rgn ?_;refine Ro.p (hp.ld 0 (off := 0) (n := none) (v := (V.int .u8 y7408)) rfl (by kernel_rfl)) ?_;refine Ro.t 1 ?_;obtain ⟨y7458,h7459,h⟩ := bind_some h;refine Ro.p (idx_fz (EI .u8) .i64 h7459) ?_;refine Ro.t 1 ?_;obtain ⟨y7460,h7461,h⟩ := bind_some h;refine RunO.c1 (by kernel_rfl) (by kernel_rfl) (c57 h7461 _) ?_;refine Ro.t 1 ?_;refine RunO.nil ?_;refine Rn.c (mkE [(9,(V.ptr b7407 0 0)),(0,(V.bool y7460))] 94) ?_;exact w31_j2 h hp
        · rw [ite_f h7457] at h; refine Rn.f h7457 ?_;refine Rn.g ?_;refine Ro.t 2 ?_;refine Ro.d (mkE [(0,(Zl E_Graph x0)),(3,(V.fp (E_Graph.e x1))),(0,(V.fp (E_Ins.e x2))),(2,(Zl (EI .u8) y7399)),(0,(V.ptr b7407 0 0)),(0,(V.bool true)),(20,(V.int .u8 x2.fKind)),(27,(V.bool (x2.fKind == (6 : Int))))] 45) ?_;rcases tf (x2.fKind == (6 : Int)) with h7462 | h7462
          · rw [ite_t h7462] at h; refine Rn.t h7462 ?_;refine Run.rgn ?_;refine Ro.t 1 ?_;obtain ⟨y7463,h7464,h⟩ := bind_some h;refine Ro.p (idx_fz (EI .u8) .i64 h7464) ?_;refine Ro.t 1 ?_;rcases tf (y7463 == (4 : Int)) with h7465 | h7465
            · rw [ite_t h7465] at h; refine Ro.p (bool_of h7465) ?_;refine Ro.t 1 ?_;refine Ro.p (hp.ld 0 (off := 0) (n := none) (v := (V.int .u8 y7408)) rfl (by kernel_rfl)) ?_;refine Ro.t 4 ?_;obtain ⟨y7466,h7467,h⟩ := bind_some h;refine Ro.p (idx_fz E_Array .i64 h7467) ?_;refine Ro.t 5 ?_;refine RunO.nil ?_;refine Rn.c (mkE [(9,(V.ptr b7407 0 0)),(0,(V.bool (y7408 == y7466.fType)))] 94) ?_;exact w31_j2 h hp
            · rw [ite_f h7465] at h; refine Ro.p (bool_of h7465) ?_;refine Ro.t 12 ?_;refine RunO.nil ?_;refine Rn.c (mkE [(9,(V.ptr b7407 0 0)),(0,(V.bool false))] 94) ?_;exact w31_j2 h hp
          · rw [ite_f h7462] at h; refine Rn.f h7462 ?_;refine Rn.g ?_;refine Ro.t 2 ?_;refine Ro.d (mkE [(0,(Zl E_Graph x0)),(3,(V.fp (E_Graph.e x1))),(0,(V.fp (E_Ins.e x2))),(2,(Zl (EI .u8) y7399)),(0,(V.ptr b7407 0 0)),(0,(V.bool true)),(20,(V.int .u8 x2.fKind)),(44,(V.bool (x2.fKind == (7 : Int))))] 28) ?_;rcases tf (x2.fKind == (7 : Int)) with h7468 | h7468
            · rw [ite_t h7468] at h; refine Rn.t h7468 ?_;refine Run.rgn ?_;refine Ro.t 1 ?_;obtain ⟨y7469,h7470,h⟩ := bind_some h;refine Ro.p (idx_fz (EI .u8) .i64 h7470) ?_;refine Ro.t 1 ?_;rcases tf (y7469 == (4 : Int)) with h7471 | h7471
              · rw [ite_t h7471] at h; refine Ro.p (bool_of h7471) ?_;refine Ro.t 2 ?_;obtain ⟨y7472,h7473,h⟩ := bind_some h;refine Ro.p (idx_fz (EI .u8) .i64 h7473) ?_;refine Ro.t 5 ?_;obtain ⟨y7474,h7475,h⟩ := bind_some h;refine Ro.p (idx_fz E_Array .i64 h7475) ?_;refine Ro.t 5 ?_;refine RunO.nil ?_;refine Rn.c (mkE [(9,(V.ptr b7407 0 0)),(0,(V.bool (y7472 == y7474.fType)))] 94) ?_;exact w31_j2 h hp
              · rw [ite_f h7471] at h; refine Ro.p (bool_of h7471) ?_;refine Ro.t 14 ?_;refine RunO.nil ?_;refine Rn.c (mkE [(9,(V.ptr b7407 0 0)),(0,(V.bool false))] 94) ?_;exact w31_j2 h hp
            · rw [ite_f h7468] at h; refine Rn.f h7468 ?_;refine Rn.g ?_;refine Ro.t 2 ?_;refine Ro.d (mkE [(0,(Zl E_Graph x0)),(4,(V.fp (E_Ins.e x2))),(2,(Zl (EI .u8) y7399)),(0,(V.ptr b7407 0 0)),(0,(V.bool true)),(84,(V.bool (x2.fKind == (9 : Int))))] 9) ?_;rcases tf (x2.fKind == (9 : Int)) with h7476 | h7476
              · rw [ite_t h7476] at h; refine Rn.t h7476 ?_;refine Run.rgn ?_;refine Ro.t 3 ?_;refine Ro.p (hp.ld 0 (off := 0) (n := none) (v := (V.int .u8 y7408)) rfl (by kernel_rfl)) ?_;obtain ⟨y7477,h7478,h⟩ := bind_some h;refine RunO.c1 (by kernel_rfl) (by kernel_rfl) (c58 h7478 _) ?_;refine Ro.t 1 ?_;refine RunO.nil ?_;refine Rn.c (mkE [(9,(V.ptr b7407 0 0)),(0,(V.bool y7477))] 94) ?_;exact w31_j2 h hp
              · rw [ite_f h7476] at h; refine Rn.f h7476 ?_;refine Run.skip ?_;refine Rn.c (mkE [(9,(V.ptr b7407 0 0)),(0,(V.bool true))] 94) ?_;exact w31_j2 h hp
def F31_j1 (x0 : (List T_Graph)) (x1 : T_Graph) (x2 : T_Ins) (y7399 : (List Int)) (y7408 : Int) : Option (Int × Bool) :=
  if (x2.fKind == (1 : Int)) then
    F31_j3 x0 x1 x2 y7399 y7408 ((x2.fKind == (1 : Int)))
  else
    F31_j3 x0 x1 x2 y7399 y7408 ((x2.fKind == (3 : Int)))
theorem w31_j1 {x0 : (List T_Graph)} {x1 : T_Graph} {x2 : T_Ins} {y7399 : (List Int)} {y7408 : Int} {r : (Int × Bool)} (h : F31_j1 x0 x1 x2 y7399 y7408 = some r) {b7407 : Nat} {H : Heap} {L : List Ob} (hp : HP H ((some (b7407,0),[(V.int .u8 y7408)]) :: L)) :
    Run T i31n53 (mkE [(0,(Zl E_Graph x0)),(3,(V.fp (E_Graph.e x1))),(0,(V.fp (E_Ins.e x2))),(2,(Zl (EI .u8) y7399)),(0,(V.ptr b7407 0 0)),(0,(V.bool true))] 94) H (finE none [6,7] (Q31 L r)) := by
  unfold F31_j1 at h;refine Run.seq ?_;refine Rn.g ?_;refine Ro.t 2 ?_;refine Ro.d (mkE [(0,(Zl E_Graph x0)),(3,(V.fp (E_Graph.e x1))),(0,(V.fp (E_Ins.e x2))),(2,(Zl (EI .u8) y7399)),(0,(V.ptr b7407 0 0)),(0,(V.bool true)),(20,(V.int .u8 x2.fKind))] 73) ?_;refine Run.block ?_;refine Run.seq ?_;refine Rn.g ?_;refine Ro.t 2 ?_;refine Ro.d (mkE [(0,(Zl E_Graph x0)),(3,(V.fp (E_Graph.e x1))),(0,(V.fp (E_Ins.e x2))),(2,(Zl (EI .u8) y7399)),(0,(V.ptr b7407 0 0)),(0,(V.bool true)),(20,(V.int .u8 x2.fKind)),(0,(V.bool (x2.fKind == (1 : Int))))] 72) ?_;rcases tf (x2.fKind == (1 : Int)) with h7479 | h7479
  · rw [ite_t h7479] at h; refine Rn.t h7479 ?_;refine Run.skip ?_;refine Rn.c (mkE [(0,(Zl E_Graph x0)),(3,(V.fp (E_Graph.e x1))),(0,(V.fp (E_Ins.e x2))),(2,(Zl (EI .u8) y7399)),(0,(V.ptr b7407 0 0)),(0,(V.bool true)),(20,(V.int .u8 x2.fKind)),(0,(V.bool (x2.fKind == (1 : Int))))] 72) ?_;exact w31_j3 h hp
  · rw [ite_f h7479] at h; refine Rn.f h7479 ?_;refine Run.rgn ?_;refine Ro.t 2 ?_;refine Ro.d (mkE [(0,(Zl E_Graph x0)),(3,(V.fp (E_Graph.e x1))),(0,(V.fp (E_Ins.e x2))),(2,(Zl (EI .u8) y7399)),(0,(V.ptr b7407 0 0)),(0,(V.bool true)),(20,(V.int .u8 x2.fKind)),(0,(V.bool (x2.fKind == (3 : Int))))] 72) ?_;exact w31_j3 h hp
def F31 (x0 : (List T_Graph)) (x1 : T_Graph) (x2 : T_Ins) : Option (Int × Bool) :=
  (F51 x1 x2).bind fun y7396 =>
  if (!y7396) then
    some ((0 : Int),false)
  else
    (F52 x1 x2.fArgs).bind fun y7399 =>
    (idx G0 x2.fKind).bind fun y7480 =>
    if y7480.fdst then
      (idx x1.fVars x2.fDst).bind fun y7483 =>
      F31_j1 x0 x1 x2 y7399 (y7483)
    else
      F31_j1 x0 x1 x2 y7399 ((0 : Int))
theorem w31 {x0 : (List T_Graph)} {x1 : T_Graph} {x2 : T_Ins} {r : (Int × Bool)} (h : F31 x0 x1 x2 = some r) {H : Heap} {L : List Ob} (hp : HP H (L)) : Fn T 31 [(Zl E_Graph x0),(E_Graph.e x1),(E_Ins.e x2)] H (Q31 L r) := by
  refine Fn.enterE t31 (e0 := (mkE [(0,(Zl E_Graph x0)),(0,(E_Graph.e x1)),(0,(E_Ins.e x2))] 102)) (by kernel_rfl) ?_;show Run T (.clr [] i31n57) _ _ (finE none [6,7] (Q31 L r));refine Rn.k (mkE [(0,(Zl E_Graph x0)),(0,(E_Graph.e x1)),(0,(E_Ins.e x2))] 102) ?_;unfold F31 at h;refine Rn.g ?_;refine Ro.t 4 ?_;refine Ro.d (mkE [(0,(Zl E_Graph x0)),(3,(V.fp (E_Graph.e x1))),(0,(V.fp (E_Ins.e x2)))] 99) ?_;refine Run.seq ?_;refine Rn.g ?_;refine Ro.t 2 ?_;obtain ⟨y7396,h7397,h⟩ := bind_some h;refine RunO.c1 (by kernel_rfl) (by kernel_rfl) (c51 h7397 _) ?_;refine Ro.t 1 ?_;refine Ro.d (mkE [(0,(Zl E_Graph x0)),(3,(V.fp (E_Graph.e x1))),(0,(V.fp (E_Ins.e x2))),(8,(V.bool (!y7396)))] 90) ?_;rcases tf (!y7396) with h7398 | h7398
  · rw [ite_t h7398] at h; refine Rn.t h7398 ?_;refine Rn.g ?_;refine Ro.t 2 ?_;refine Ro.d (mkE [(6,(V.int .u8 (0 : Int))),(0,(V.bool false))] 97) ?_;refine Run.ret ?_;have h := Option.some.inj h; subst h;exact ⟨(V.tup [(V.int .u8 (0 : Int)),(V.bool false)]),(by kernel_rfl),(by kernel_rfl),hp⟩
  · rw [ite_f h7398] at h; refine Rn.f h7398 ?_;refine Run.skip ?_;refine Rn.c (mkE [(0,(Zl E_Graph x0)),(3,(V.fp (E_Graph.e x1))),(0,(V.fp (E_Ins.e x2)))] 99) ?_;refine Rn.g ?_;refine Ro.t 3 ?_;obtain ⟨y7399,h7400,h⟩ := bind_some h;refine RunO.c1 (by kernel_rfl) (by kernel_rfl) (c52 h7400 _) ?_;refine RunO.alloc hp (by kernel_rfl) ?_;intro b7401 H hp;have hp : HP H ((some (b7401,0),[(V.int .u8 (0 : Int))]) :: L) := hp;refine Ro.t 1 ?_;refine RunO.st hp (by kernel_rfl) 0 (off := 0) (v := (V.int .u8 (0 : Int))) (cs' := [(V.int .u8 (0 : Int))]) rfl (by kernel_rfl) (by kernel_rfl) (by kernel_rfl) ?_;intro H hp;refine Ro.t 1 ?_;refine Ro.d (mkE [(0,(Zl E_Graph x0)),(3,(V.fp (E_Graph.e x1))),(0,(V.fp (E_Ins.e x2))),(2,(Zl (EI .u8) y7399)),(0,(V.ptr b7401 0 0)),(0,(V.bool true))] 94) ?_;refine Run.seq ?_;refine Rn.g ?_;refine Ro.t 2 ?_;obtain ⟨y7480,h7481,h⟩ := bind_some h;refine Ro.p (idxp_fp E_form (l := G0) .u8 (n := 11) (cs := [V.bool false,V.bool false,V.bool false,V.bool false,i6 0,V.bool true,V.bool false,V.bool false,V.bool false,i6 (-1),V.bool true,V.bool false,V.bool true,V.bool false,i6 0,V.bool true,V.bool false,V.bool false,V.bool false,i6 1,V.bool true,V.bool true,V.bool false,V.bool false,i6 (-1),V.bool true,V.bool false,V.bool false,V.bool false,i6 1,V.bool true,V.bool false,V.bool false,V.bool true,i6 1,V.bool false,V.bool false,V.bool false,V.bool true,i6 2,V.bool false,V.bool false,V.bool false,V.bool true,i6 0,V.bool true,V.bool false,V.bool false,V.bool true,i6 (-1),V.bool false,V.bool false,V.bool false,V.bool false,i6 1]) (by kernel_rfl) (by kernel_rfl) h7481) ?_;refine Ro.t 2 ?_;refine Ro.d (mkE [(0,(Zl E_Graph x0)),(3,(V.fp (E_Graph.e x1))),(0,(V.fp (E_Ins.e x2))),(2,(Zl (EI .u8) y7399)),(0,(V.ptr b7401 0 0)),(0,(V.bool true)),(12,(V.bool y7480.fdst))] 81) ?_;rcases tf y7480.fdst with h7482 | h7482
    · rw [ite_t h7482] at h; refine Rn.t h7482 ?_;refine Run.rgn ?_;refine Ro.t 4 ?_;obtain ⟨y7483,h7484,h⟩ := bind_some h;refine Ro.p (idx_fz (EI .u8) .i64 h7484) ?_;refine Ro.t 1 ?_;refine RunO.st hp (by kernel_rfl) 0 (off := 0) (v := (V.int .u8 y7483)) (cs' := [(V.int .u8 y7483)]) rfl (by kernel_rfl) (by kernel_rfl) (by kernel_rfl) ?_;intro H hp;refine Ro.d (mkE [(0,(Zl E_Graph x0)),(3,(V.fp (E_Graph.e x1))),(0,(V.fp (E_Ins.e x2))),(2,(Zl (EI .u8) y7399)),(0,(V.ptr b7401 0 0)),(0,(V.bool true))] 94) ?_;exact w31_j1 h hp
    · rw [ite_f h7482] at h; refine Rn.f h7482 ?_;refine Run.skip ?_;refine Rn.c (mkE [(0,(Zl E_Graph x0)),(3,(V.fp (E_Graph.e x1))),(0,(V.fp (E_Ins.e x2))),(2,(Zl (EI .u8) y7399)),(0,(V.ptr b7401 0 0)),(0,(V.bool true))] 94) ?_;exact w31_j1 h hp
theorem c31 {x0 : (List T_Graph)} {x1 : T_Graph} {x2 : T_Ins} {r : (Int × Bool)} (h : F31 x0 x1 x2 = some r) (s : Bool) : Fn T 31 [(Zl E_Graph x0),(E_Graph.e x1),(E_Ins.e x2)] [] (fun v hh => deep s hh deepN v = some (.tup [(EI .u8).e r.1,EB.e r.2])) := by
  refine (w31 h HP.nil).mono ?_;rintro v hh ⟨rfl,hp⟩;exact congrArg (Option.map V.tup) (omapc ((EI .u8).hd s hh 37 _ (.inr rfl)) (omapc (EB.hd s hh 37 _ (.inr rfl)) omapn))
abbrev Q32 (L : List Ob) (r : Bool) : V → Heap → Prop := fun v h => v = EB.e r ∧ HP h (L)
abbrev RR32 (L : List Ob) (r : Bool) : List V → Heap → Prop := fun e h => endR none [4] (Q32 L r) e h
abbrev I32_1 (x0 : (List T_Graph)) (x1 : T_Graph) (y7690 : (List (List Int))) (L : List Ob) : (Int) → List V → Heap → Prop := fun s e h => e = (mkE [(0,(Zl E_Graph x0)),(2,(V.fp (E_Graph.e x1))),(1,(V.fz (List.map (EL (EI .i64)).e y7690))),(12,(Zl E_Block x1.fBlocks)),(0,(i6 (ln x1.fBlocks))),(0,(i6 s))] 55) ∧ HP h (L)
abbrev J32_1 (x0 : (List T_Graph)) (x1 : T_Graph) (y7690 : (List (List Int))) (L : List Ob) : Unit → Nat → List V → Heap → Prop := fun a i e h => i = 0 ∧ clrEnv [0,3,4,5,6,7,9,10,11,17,18,19,20,21,22,23,24,25,26,27,28,29,30,31,32,33,34,35,36,37,38,39,40,41,42,43,44,45,46,47,48,49,50,51,52,53,54,55,56,57,58,59,60,61,62,63,64,65,66,67,68,69,70,71,72,73,74,75] e = (mkE [] 76) ∧ HP h (L)
abbrev I32_2 (x0 : (List T_Graph)) (x1 : T_Graph) (y7690 : (List (List Int))) (y7806 : Int) (y7985 : T_Block) (L : List Ob) : (Int) → List V → Heap → Prop := fun s e h => e = (mkE [(0,(Zl E_Graph x0)),(2,(V.fp (E_Graph.e x1))),(1,(V.fz (List.map (EL (EI .i64)).e y7690))),(12,(Zl E_Block x1.fBlocks)),(0,(i6 (ln x1.fBlocks))),(0,(i6 y7806)),(38,(Zl E_Ins y7985.fIns)),(0,(i6 (ln y7985.fIns))),(0,(i6 s))] 14) ∧ HP h (L)
abbrev J32_2 (x0 : (List T_Graph)) (x1 : T_Graph) (y7690 : (List (List Int))) (y7806 : Int) (y7985 : T_Block) (L : List Ob) : Unit → Nat → List V → Heap → Prop := fun a i e h => i = 2 ∧ clrEnv [4,6,7,9,10,11,22,23,24,25,26,27,28,29,30,31,32,33,34,35,36,37,38,39,40,41,42,43,44,45,46,47,48,49,50,51,52,53,54,55,56,57,58,59,60,61,62,63,64,65,66,67,68,69,70,71,72,73,74] e = (mkE [(0,(Zl E_Graph x0)),(2,(V.fp (E_Graph.e x1))),(1,(V.fz (List.map (EL (EI .i64)).e y7690))),(12,(Zl E_Block x1.fBlocks)),(0,(i6 (ln x1.fBlocks))),(0,(i6 y7806))] 55) ∧ HP h (L)
def F32_2_b (x0 : (List T_Graph)) (x1 : T_Graph) (y7690 : (List (List Int))) (y7806 : Int) (y7985 : T_Block) (y8015 : Int) : Option (Stp (Int) Bool Unit) :=
  if (decide (y8015 < ((List.length y7985.fIns : Nat) : Int))) then
    (idx y7985.fIns y8015).bind fun y8038 =>
    (F31 x0 x1 y8038).bind fun y8041 =>
    if (!y8041.2) then
      some (.ret false)
    else
      some (.next ((IntKind.i64.wrap (y8015 + (1 : Int)))))
  else
    some (.go ())
theorem w32_2_b {x0 : (List T_Graph)} {x1 : T_Graph} {y7690 : (List (List Int))} {y7806 : Int} {y7985 : T_Block} {y8015 : Int} {t : (Stp (Int) Bool Unit)} (h : F32_2_b x0 x1 y7690 y7806 y7985 y8015 = some t) {H : Heap} {L : List Ob} (hp : HP H (L)) :
    Run T i32n32 (mkE [(0,(Zl E_Graph x0)),(2,(V.fp (E_Graph.e x1))),(1,(V.fz (List.map (EL (EI .i64)).e y7690))),(12,(Zl E_Block x1.fBlocks)),(0,(i6 (ln x1.fBlocks))),(0,(i6 y7806)),(38,(Zl E_Ins y7985.fIns)),(0,(i6 (ln y7985.fIns))),(0,(i6 y8015))] 14) H (stp [4,9,10,11,62,63,64,65,66,67,68,69,70,71,72,73,74] (I32_2 x0 x1 y7690 y7806 y7985 L) (RR32 L) (J32_2 x0 x1 y7690 y7806 y7985 L) t) := by
  unfold F32_2_b at h;refine Rn.g ?_;refine Ro.t 1 ?_;refine Ro.d (mkE [(0,(Zl E_Graph x0)),(2,(V.fp (E_Graph.e x1))),(1,(V.fz (List.map (EL (EI .i64)).e y7690))),(12,(Zl E_Block x1.fBlocks)),(0,(i6 (ln x1.fBlocks))),(0,(i6 y7806)),(38,(Zl E_Ins y7985.fIns)),(0,(i6 (ln y7985.fIns))),(0,(i6 y8015)),(0,(V.bool (decide (y8015 < (ln y7985.fIns)))))] 13) ?_;refine Run.seq ?_;rcases tf (decide (y8015 < (ln y7985.fIns))) with h8031 | h8031
  · rw [ite_t h8031] at h; refine Rn.t h8031 ?_;refine Run.skip ?_;refine Rn.c (mkE [(0,(Zl E_Graph x0)),(2,(V.fp (E_Graph.e x1))),(1,(V.fz (List.map (EL (EI .i64)).e y7690))),(12,(Zl E_Block x1.fBlocks)),(0,(i6 (ln x1.fBlocks))),(0,(i6 y7806)),(38,(Zl E_Ins y7985.fIns)),(0,(i6 (ln y7985.fIns))),(0,(i6 y8015))] 14) ?_;refine Run.seq ?_;refine Run.block ?_;refine Rn.g ?_;obtain ⟨y8038,h8039,h⟩ := bind_some h;refine Ro.p (idx_fz E_Ins .i64 h8039) ?_;refine Ro.t 1 ?_;refine RunO.alloc hp (by kernel_rfl) ?_;intro b8040 H hp;have hp : HP H ((some (b8040,0),[(V.int .u8 (0 : Int)),(V.int .u8 (0 : Int)),(i6 (0 : Int)),(V.fz (List.map (EI .i64).e ([] : List Int))),(V.int .u64 (0 : Int)),(i6 (0 : Int))]) :: L) := hp;refine RunO.st hp (by kernel_rfl) 0 (off := 0) (v := (E_Ins.e y8038)) (cs' := [(V.int .u8 y8038.fKind),(V.int .u8 y8038.fOp),(i6 y8038.fDst),(Zl (EI .i64) y8038.fArgs),(V.int .u64 y8038.fBits),(i6 y8038.fRef)]) rfl (by kernel_rfl) (by kernel_rfl) (by kernel_rfl) ?_;intro H hp;refine Ro.d (mkE [(0,(Zl E_Graph x0)),(2,(V.fp (E_Graph.e x1))),(1,(V.fz (List.map (EL (EI .i64)).e y7690))),(3,(V.ptr b8040 0 0)),(8,(Zl E_Block x1.fBlocks)),(0,(i6 (ln x1.fBlocks))),(0,(i6 y7806)),(38,(Zl E_Ins y7985.fIns)),(0,(i6 (ln y7985.fIns))),(0,(i6 y8015))] 14) ?_;refine Rn.g ?_;refine Ro.t 2 ?_;refine Ro.p (hp.ld 0 (off := 0) (n := (some 6)) (v := (E_Ins.e y8038)) rfl (by kernel_rfl)) ?_;obtain ⟨y8041,h8042,h⟩ := bind_some h;refine RunO.c1 (by kernel_rfl) (by kernel_rfl) (c31 h8042 _) ?_;refine Ro.t 5 ?_;refine Ro.d (mkE [(0,(Zl E_Graph x0)),(2,(V.fp (E_Graph.e x1))),(1,(V.fz (List.map (EL (EI .i64)).e y7690))),(5,(V.bool y8041.2)),(6,(Zl E_Block x1.fBlocks)),(0,(i6 (ln x1.fBlocks))),(0,(i6 y7806)),(38,(Zl E_Ins y7985.fIns)),(0,(i6 (ln y7985.fIns))),(0,(i6 y8015))] 14) ?_;refine Rn.g ?_;refine Ro.t 2 ?_;refine Ro.d (mkE [(0,(Zl E_Graph x0)),(2,(V.fp (E_Graph.e x1))),(1,(V.fz (List.map (EL (EI .i64)).e y7690))),(12,(Zl E_Block x1.fBlocks)),(0,(i6 (ln x1.fBlocks))),(0,(i6 y7806)),(38,(Zl E_Ins y7985.fIns)),(0,(i6 (ln y7985.fIns))),(0,(i6 y8015)),(11,(V.bool (!y8041.2)))] 2) ?_;rcases tf (!y8041.2) with h8043 | h8043
    · rw [ite_t h8043] at h; refine Rn.t h8043 ?_;refine Rn.g ?_;refine Ro.t 1 ?_;refine Ro.d (mkE [(4,(V.bool false))] 71) ?_;refine Run.ret ?_;have h := Option.some.inj h; subst h;show RR32 L _ _ _;have hp := hp.del 0;exact ⟨(V.bool false),(by kernel_rfl),(by kernel_rfl),hp⟩
    · rw [ite_f h8043] at h; refine Rn.f h8043 ?_;refine Run.skip ?_;refine Run.clrE (ts := [4,9,10,11,63,64,65,66,67,68,69,70,71,72,73]) (b := (.rgn i32r29)) (Q := (stp [4,9,10,11,62,63,64,65,66,67,68,69,70,71,72,73,74] (I32_2 x0 x1 y7690 y7806 y7985 L) (RR32 L) (J32_2 x0 x1 y7690 y7806 y7985 L) t)) (e' := (mkE [(0,(Zl E_Graph x0)),(2,(V.fp (E_Graph.e x1))),(1,(V.fz (List.map (EL (EI .i64)).e y7690))),(12,(Zl E_Block x1.fBlocks)),(0,(i6 (ln x1.fBlocks))),(0,(i6 y7806)),(38,(Zl E_Ins y7985.fIns)),(0,(i6 (ln y7985.fIns))),(0,(i6 y8015))] 14)) (by kernel_rfl) ?_;refine Run.rgn ?_;refine Ro.t 2 ?_;refine RunO.nil ?_;have h := Option.some.inj h; subst h;have hp := hp.del 0;show I32_2 x0 x1 y7690 y7806 y7985 L _ _ _;exact ⟨(by kernel_rfl),hp⟩
  · rw [ite_f h8031] at h; refine Rn.f h8031 ?_;refine Run.exit ?_;have h := Option.some.inj h; subst h;show J32_2 x0 x1 y7690 y7806 y7985 L () _ _ _;exact ⟨rfl,(by kernel_rfl),hp⟩
def F32_j1 (x0 : (List T_Graph)) (x1 : T_Graph) (y7690 : (List (List Int))) (y7806 : Int) (y7985 : T_Block) : Option (Stp (Int) Bool Unit) :=
  (iter (fun s : (Int) => F32_2_b x0 x1 y7690 y7806 y7985 s) FUEL ((0 : Int))).bind fun o => match o with
  | .ret r => some (.ret r)
  | .go () =>
    some (.next ((IntKind.i64.wrap (y7806 + (1 : Int)))))
theorem w32_j1 {x0 : (List T_Graph)} {x1 : T_Graph} {y7690 : (List (List Int))} {y7806 : Int} {y7985 : T_Block} {t : (Stp (Int) Bool Unit)} (h : F32_j1 x0 x1 y7690 y7806 y7985 = some t) {b7987 : Nat} {H : Heap} {L : List Ob} (hp : HP H ((some (b7987,0),[(Zl E_Ins y7985.fIns),(V.int .u8 y7985.fTerm.fKind),(i6 y7985.fTerm.fArg),(i6 y7985.fTerm.fTo.a0),(i6 y7985.fTerm.fTo.a1),(V.int .u8 y7985.fTerm.fTrap)]) :: L)) :
    Run T i32n35 (mkE [(0,(Zl E_Graph x0)),(2,(V.fp (E_Graph.e x1))),(1,(V.fz (List.map (EL (EI .i64)).e y7690))),(1,(V.ptr b7987 0 0)),(10,(Zl E_Block x1.fBlocks)),(0,(i6 (ln x1.fBlocks))),(0,(i6 y7806))] 55) H (blk 1 (thn T (.clr [4,6,7,9,10,11,22,23,24,25,26,27,28,29,30,31,32,33,34,35,36,37,38,39,40,41,42,43,44,45,46,47,48,49,50,51,52,53,54,55,56,57,58,59,60,61,62,63,64,65,66,67,68,69,70,71,72,73,74] (.rgn i32r39)) (stp [4,6,7,9,10,11,21,22,23,24,25,26,27,28,29,30,31,32,33,34,35,36,37,38,39,40,41,42,43,44,45,46,47,48,49,50,51,52,53,54,55,56,57,58,59,60,61,62,63,64,65,66,67,68,69,70,71,72,73,74,75] (I32_1 x0 x1 y7690 L) (RR32 L) (J32_1 x0 x1 y7690 L) t))) := by
  unfold F32_j1 at h;refine Rn.g ?_;refine Ro.t 1 ?_;refine Ro.p (hp.ld 0 (off := 0) (n := none) (v := (Zl E_Ins y7985.fIns)) rfl (by kernel_rfl)) ?_;refine Ro.p (len_fz E_Ins y7985.fIns) ?_;refine Ro.t 1 ?_;refine Ro.d (mkE [(0,(Zl E_Graph x0)),(2,(V.fp (E_Graph.e x1))),(1,(V.fz (List.map (EL (EI .i64)).e y7690))),(12,(Zl E_Block x1.fBlocks)),(0,(i6 (ln x1.fBlocks))),(0,(i6 y7806)),(38,(Zl E_Ins y7985.fIns)),(0,(i6 (ln y7985.fIns))),(0,(i6 (0 : Int)))] 14) ?_;refine Run.block ?_;obtain ⟨o,h8044,h⟩ := bind_some h;have hp := hp.del 0;refine (Run.iter (I := I32_2 x0 x1 y7690 y7806 y7985 L) (RR := RR32 L) (J := J32_2 x0 x1 y7690 y7806 y7985 L) (fun s e h' t hI hf => ?_) FUEL h8044 (by exact ⟨(by kernel_rfl),hp⟩)).mono ?_
  · obtain ⟨rfl,hp⟩ := hI; exact w32_2_b hf hp
  · rintro X e' H hq;cases o with
    | ret r => cases X <;> first | exact hq.elim | (cases h; exact hq)
    | go a =>
      cases X with | nrm => exact hq.elim | ret => exact hq.elim | ext i => ?_;obtain ⟨rfl,he,hp⟩ := hq
      dsimp only at h
      refine Run.clrE (ts := [4,6,7,9,10,11,22,23,24,25,26,27,28,29,30,31,32,33,34,35,36,37,38,39,40,41,42,43,44,45,46,47,48,49,50,51,52,53,54,55,56,57,58,59,60,61,62,63,64,65,66,67,68,69,70,71,72,73,74]) (b := (.rgn i32r39)) (Q := (stp [4,6,7,9,10,11,21,22,23,24,25,26,27,28,29,30,31,32,33,34,35,36,37,38,39,40,41,42,43,44,45,46,47,48,49,50,51,52,53,54,55,56,57,58,59,60,61,62,63,64,65,66,67,68,69,70,71,72,73,74,75] (I32_1 x0 x1 y7690 L) (RR32 L) (J32_1 x0 x1 y7690 L) t)) he ?_;refine Run.rgn ?_;refine Ro.t 2 ?_;refine RunO.nil ?_;have h := Option.some.inj h; subst h;show I32_1 x0 x1 y7690 L _ _ _;exact ⟨(by kernel_rfl),hp⟩
def F32_1_b (x0 : (List T_Graph)) (x1 : T_Graph) (y7690 : (List (List Int))) (y7806 : Int) : Option (Stp (Int) Bool Unit) :=
  if (decide (y7806 < ((List.length x1.fBlocks : Nat) : Int))) then
    (idx x1.fBlocks y7806).bind fun y7985 =>
    (F60 x1 y7985.fTerm).bind fun y8045 =>
    if y8045 then
      (idx y7690 y7806).bind fun y8048 =>
      (F61 y7985 ((List.length y8048 : Nat) : Int)).bind fun y8050 =>
      if y8050 then
        if (y7806 == (0 : Int)) then
          if (decide (((List.length y7985.fIns : Nat) : Int) > (0 : Int))) then
            (idx y7985.fIns (0 : Int)).bind fun y8055 =>
            if (y8055.fKind == (1 : Int)) then
              some (.ret false)
            else
              F32_j1 x0 x1 y7690 y7806 y7985
          else
            F32_j1 x0 x1 y7690 y7806 y7985
        else
          F32_j1 x0 x1 y7690 y7806 y7985
      else
        some (.ret false)
    else
      some (.ret false)
  else
    some (.go ())
theorem w32_1_b {x0 : (List T_Graph)} {x1 : T_Graph} {y7690 : (List (List Int))} {y7806 : Int} {t : (Stp (Int) Bool Unit)} (h : F32_1_b x0 x1 y7690 y7806 = some t) {H : Heap} {L : List Ob} (hp : HP H (L)) :
    Run T i32n42 (mkE [(0,(Zl E_Graph x0)),(2,(V.fp (E_Graph.e x1))),(1,(V.fz (List.map (EL (EI .i64)).e y7690))),(12,(Zl E_Block x1.fBlocks)),(0,(i6 (ln x1.fBlocks))),(0,(i6 y7806))] 55) H (stp [4,6,7,9,10,11,21,22,23,24,25,26,27,28,29,30,31,32,33,34,35,36,37,38,39,40,41,42,43,44,45,46,47,48,49,50,51,52,53,54,55,56,57,58,59,60,61,62,63,64,65,66,67,68,69,70,71,72,73,74,75] (I32_1 x0 x1 y7690 L) (RR32 L) (J32_1 x0 x1 y7690 L) t) := by
  unfold F32_1_b at h;refine Rn.g ?_;refine Ro.t 1 ?_;refine Ro.d (mkE [(0,(Zl E_Graph x0)),(2,(V.fp (E_Graph.e x1))),(1,(V.fz (List.map (EL (EI .i64)).e y7690))),(12,(Zl E_Block x1.fBlocks)),(0,(i6 (ln x1.fBlocks))),(0,(i6 y7806)),(0,(V.bool (decide (y7806 < (ln x1.fBlocks)))))] 54) ?_;refine Run.seq ?_;rcases tf (decide (y7806 < (ln x1.fBlocks))) with h7926 | h7926
  · rw [ite_t h7926] at h; refine Rn.t h7926 ?_;refine Run.skip ?_;refine Rn.c (mkE [(0,(Zl E_Graph x0)),(2,(V.fp (E_Graph.e x1))),(1,(V.fz (List.map (EL (EI .i64)).e y7690))),(12,(Zl E_Block x1.fBlocks)),(0,(i6 (ln x1.fBlocks))),(0,(i6 y7806))] 55) ?_;refine Run.seq ?_;refine Run.block ?_;refine Rn.g ?_;refine Ro.t 1 ?_;obtain ⟨y7985,h7986,h⟩ := bind_some h;refine Ro.p (idx_fz E_Block .i64 h7986) ?_;refine Ro.t 1 ?_;refine RunO.alloc hp (by kernel_rfl) ?_;intro b7987 H hp;have hp : HP H ((some (b7987,0),[(V.fz (List.map E_Ins.e ([] : List T_Ins))),(V.int .u8 (0 : Int)),(i6 (0 : Int)),(i6 (0 : Int)),(i6 (0 : Int)),(V.int .u8 (0 : Int))]) :: L) := hp;refine Ro.t 1 ?_;refine RunO.st hp (by kernel_rfl) 0 (off := 0) (v := (E_Block.e y7985)) (cs' := [(Zl E_Ins y7985.fIns),(V.int .u8 y7985.fTerm.fKind),(i6 y7985.fTerm.fArg),(i6 y7985.fTerm.fTo.a0),(i6 y7985.fTerm.fTo.a1),(V.int .u8 y7985.fTerm.fTrap)]) rfl (by kernel_rfl) (by kernel_rfl) (by kernel_rfl) ?_;intro H hp;refine Ro.d (mkE [(0,(Zl E_Graph x0)),(2,(V.fp (E_Graph.e x1))),(1,(V.fz (List.map (EL (EI .i64)).e y7690))),(0,(i6 y7806)),(0,(V.ptr b7987 0 0)),(10,(Zl E_Block x1.fBlocks)),(0,(i6 (ln x1.fBlocks))),(0,(i6 y7806))] 55) ?_;refine Run.seq ?_;refine Rn.g ?_;refine Ro.t 2 ?_;refine Ro.p (hp.ld 0 (off := 1) (n := (some 5)) (v := (E_Term.e y7985.fTerm)) rfl (by kernel_rfl)) ?_;obtain ⟨y8045,h8046,h⟩ := bind_some h;rcases tf y8045 with h8047 | h8047
    · subst h8047; rw [if_pos rfl] at h;refine RunO.c1 (by kernel_rfl) (by kernel_rfl) (c60 h8046 _) ?_;refine Ro.t 2 ?_;refine Ro.p (hp.ld 0 (off := 0) (n := (some 6)) (v := (E_Block.e y7985)) rfl (by kernel_rfl)) ?_;refine Ro.t 2 ?_;obtain ⟨y8048,h8049,h⟩ := bind_some h;refine Ro.p (idx_fz (EL (EI .i64)) .i64 h8049) ?_;refine Ro.t 1 ?_;refine Ro.p (len_fz (EI .i64) y8048) ?_;obtain ⟨y8050,h8051,h⟩ := bind_some h;rcases tf y8050 with h8052 | h8052
      · subst h8052; rw [if_pos rfl] at h;refine RunO.c1 (by kernel_rfl) (by kernel_rfl) (c61 h8051 _) ?_;refine Ro.t 4 ?_;rcases tf (y7806 == (0 : Int)) with h8053 | h8053
        · rw [ite_t h8053] at h; refine Ro.p (bool_of h8053) ?_;refine Ro.t 2 ?_;refine Ro.p (hp.ld 0 (off := 0) (n := none) (v := (Zl E_Ins y7985.fIns)) rfl (by kernel_rfl)) ?_;refine Ro.p (len_fz E_Ins y7985.fIns) ?_;rcases tf (decide ((ln y7985.fIns) > (0 : Int))) with h8054 | h8054
          · rw [ite_t h8054] at h; refine Ro.p (bool_of h8054) ?_;refine Ro.t 3 ?_;refine Ro.p (hp.ld 0 (off := 0) (n := none) (v := (Zl E_Ins y7985.fIns)) rfl (by kernel_rfl)) ?_;obtain ⟨y8055,h8056,h⟩ := bind_some h;refine Ro.p (idx_fz E_Ins .i64 h8056) ?_;refine Ro.t 5 ?_;refine Ro.d (mkE [(0,(Zl E_Graph x0)),(2,(V.fp (E_Graph.e x1))),(1,(V.fz (List.map (EL (EI .i64)).e y7690))),(1,(V.ptr b7987 0 0)),(10,(Zl E_Block x1.fBlocks)),(0,(i6 (ln x1.fBlocks))),(0,(i6 y7806)),(36,(V.bool (y8055.fKind == (1 : Int))))] 18) ?_;rcases tf (y8055.fKind == (1 : Int)) with h8057 | h8057
            · rw [ite_t h8057] at h; refine Rn.t h8057 ?_;refine Rn.g ?_;refine Ro.t 1 ?_;refine Ro.d (mkE [(4,(V.bool false))] 71) ?_;refine Run.ret ?_;have h := Option.some.inj h; subst h;show RR32 L _ _ _;have hp := hp.del 0;exact ⟨(V.bool false),(by kernel_rfl),(by kernel_rfl),hp⟩
            · rw [ite_f h8057] at h; refine Rn.f h8057 ?_;refine Run.skip ?_;refine Rn.c (mkE [(0,(Zl E_Graph x0)),(2,(V.fp (E_Graph.e x1))),(1,(V.fz (List.map (EL (EI .i64)).e y7690))),(1,(V.ptr b7987 0 0)),(10,(Zl E_Block x1.fBlocks)),(0,(i6 (ln x1.fBlocks))),(0,(i6 y7806))] 55) ?_;exact w32_j1 h hp
          · rw [ite_f h8054] at h; refine Ro.p (bool_of h8054) ?_;refine Ro.t 10 ?_;refine Ro.d (mkE [(0,(Zl E_Graph x0)),(2,(V.fp (E_Graph.e x1))),(1,(V.fz (List.map (EL (EI .i64)).e y7690))),(1,(V.ptr b7987 0 0)),(10,(Zl E_Block x1.fBlocks)),(0,(i6 (ln x1.fBlocks))),(0,(i6 y7806)),(36,(V.bool false))] 18) ?_;refine Run.condF (by kernel_rfl) ?_;refine Run.skip ?_;refine Rn.c (mkE [(0,(Zl E_Graph x0)),(2,(V.fp (E_Graph.e x1))),(1,(V.fz (List.map (EL (EI .i64)).e y7690))),(1,(V.ptr b7987 0 0)),(10,(Zl E_Block x1.fBlocks)),(0,(i6 (ln x1.fBlocks))),(0,(i6 y7806))] 55) ?_;exact w32_j1 h hp
        · rw [ite_f h8053] at h; refine Ro.p (bool_of h8053) ?_;refine Ro.t 15 ?_;refine Ro.d (mkE [(0,(Zl E_Graph x0)),(2,(V.fp (E_Graph.e x1))),(1,(V.fz (List.map (EL (EI .i64)).e y7690))),(1,(V.ptr b7987 0 0)),(10,(Zl E_Block x1.fBlocks)),(0,(i6 (ln x1.fBlocks))),(0,(i6 y7806)),(36,(V.bool false))] 18) ?_;refine Run.condF (by kernel_rfl) ?_;refine Run.skip ?_;refine Rn.c (mkE [(0,(Zl E_Graph x0)),(2,(V.fp (E_Graph.e x1))),(1,(V.fz (List.map (EL (EI .i64)).e y7690))),(1,(V.ptr b7987 0 0)),(10,(Zl E_Block x1.fBlocks)),(0,(i6 (ln x1.fBlocks))),(0,(i6 y7806))] 55) ?_;exact w32_j1 h hp
      · subst h8052; rw [if_neg (by decide)] at h;refine RunO.c1 (by kernel_rfl) (by kernel_rfl) (c61 h8051 _) ?_;refine Ro.t 20 ?_;refine Ro.d (mkE [(0,(Zl E_Graph x0)),(2,(V.fp (E_Graph.e x1))),(1,(V.fz (List.map (EL (EI .i64)).e y7690))),(1,(V.ptr b7987 0 0)),(10,(Zl E_Block x1.fBlocks)),(0,(i6 (ln x1.fBlocks))),(0,(i6 y7806)),(36,(V.bool true))] 18) ?_;refine Run.condT (by kernel_rfl) ?_;refine Rn.g ?_;refine Ro.t 1 ?_;refine Ro.d (mkE [(4,(V.bool false))] 71) ?_;refine Run.ret ?_;have h := Option.some.inj h; subst h;show RR32 L _ _ _;have hp := hp.del 0;exact ⟨(V.bool false),(by kernel_rfl),(by kernel_rfl),hp⟩
    · subst h8047; rw [if_neg (by decide)] at h;refine RunO.c1 (by kernel_rfl) (by kernel_rfl) (c60 h8046 _) ?_;refine Ro.t 29 ?_;refine Ro.d (mkE [(0,(Zl E_Graph x0)),(2,(V.fp (E_Graph.e x1))),(1,(V.fz (List.map (EL (EI .i64)).e y7690))),(1,(V.ptr b7987 0 0)),(10,(Zl E_Block x1.fBlocks)),(0,(i6 (ln x1.fBlocks))),(0,(i6 y7806)),(36,(V.bool true))] 18) ?_;refine Run.condT (by kernel_rfl) ?_;refine Rn.g ?_;refine Ro.t 1 ?_;refine Ro.d (mkE [(4,(V.bool false))] 71) ?_;refine Run.ret ?_;have h := Option.some.inj h; subst h;show RR32 L _ _ _;have hp := hp.del 0;exact ⟨(V.bool false),(by kernel_rfl),(by kernel_rfl),hp⟩
  · rw [ite_f h7926] at h; refine Rn.f h7926 ?_;refine Run.exit ?_;have h := Option.some.inj h; subst h;show J32_1 x0 x1 y7690 L () _ _ _;exact ⟨rfl,(by kernel_rfl),hp⟩
def F32 (x0 : (List T_Graph)) (x1 : T_Graph) : Option Bool :=
  (F59 x1).bind fun y7687 =>
  if (!y7687) then
    some false
  else
    (F13 x1).bind fun y7690 =>
    (iter (fun s : (Int) => F32_1_b x0 x1 y7690 s) FUEL ((0 : Int))).bind fun o => match o with
    | .ret r => some r
    | .go () =>
      some true
theorem w32 {x0 : (List T_Graph)} {x1 : T_Graph} {r : Bool} (h : F32 x0 x1 = some r) {H : Heap} {L : List Ob} (hp : HP H (L)) : Fn T 32 [(Zl E_Graph x0),(E_Graph.e x1)] H (Q32 L r) := by
  refine Fn.enterE t32 (e0 := (mkE [(0,(Zl E_Graph x0)),(0,(E_Graph.e x1))] 74)) (by kernel_rfl) ?_;show Run T (.clr [] i32n51) _ _ (finE none [4] (Q32 L r));refine Rn.k (mkE [(0,(Zl E_Graph x0)),(0,(E_Graph.e x1))] 74) ?_;unfold F32 at h;refine Rn.g ?_;refine Ro.t 2 ?_;refine Ro.d (mkE [(0,(Zl E_Graph x0)),(2,(V.fp (E_Graph.e x1)))] 72) ?_;refine Run.seq ?_;refine Rn.g ?_;refine Ro.t 1 ?_;obtain ⟨y7687,h7688,h⟩ := bind_some h;refine RunO.c1 (by kernel_rfl) (by kernel_rfl) (c59 h7688 _) ?_;refine Ro.t 1 ?_;refine Ro.d (mkE [(0,(Zl E_Graph x0)),(2,(V.fp (E_Graph.e x1))),(10,(V.bool (!y7687)))] 61) ?_;rcases tf (!y7687) with h7689 | h7689
  · rw [ite_t h7689] at h; refine Rn.t h7689 ?_;refine Rn.g ?_;refine Ro.t 1 ?_;refine Ro.d (mkE [(4,(V.bool false))] 71) ?_;refine Run.ret ?_;have h := Option.some.inj h; subst h;exact ⟨(V.bool false),(by kernel_rfl),(by kernel_rfl),hp⟩
  · rw [ite_f h7689] at h; refine Rn.f h7689 ?_;refine Run.skip ?_;refine Rn.c (mkE [(0,(Zl E_Graph x0)),(2,(V.fp (E_Graph.e x1)))] 72) ?_;refine Rn.g ?_;refine Ro.t 1 ?_;obtain ⟨y7690,h7691,h⟩ := bind_some h;refine RunO.c2 (by kernel_rfl) (by kernel_rfl) (by kernel_rfl) (c13 h7691) ?_;refine Ro.t 1 ?_;refine Ro.d (mkE [(0,(Zl E_Graph x0)),(2,(V.fp (E_Graph.e x1))),(1,(V.fz (List.map (EL (EI .i64)).e y7690)))] 70) ?_;refine Run.seq ?_;refine Rn.g ?_;refine Ro.t 2 ?_;refine Ro.p (len_fz E_Block x1.fBlocks) ?_;refine Ro.t 1 ?_;refine Ro.d (mkE [(0,(Zl E_Graph x0)),(2,(V.fp (E_Graph.e x1))),(1,(V.fz (List.map (EL (EI .i64)).e y7690))),(12,(Zl E_Block x1.fBlocks)),(0,(i6 (ln x1.fBlocks))),(0,(i6 (0 : Int)))] 55) ?_;refine Run.block ?_;obtain ⟨o,h8058,h⟩ := bind_some h;refine (Run.iter (I := I32_1 x0 x1 y7690 L) (RR := RR32 L) (J := J32_1 x0 x1 y7690 L) (fun s e h' t hI hf => ?_) FUEL h8058 (by exact ⟨(by kernel_rfl),hp⟩)).mono ?_
    · obtain ⟨rfl,hp⟩ := hI; exact w32_1_b hf hp
    · rintro X e' H hq;cases o with
      | ret r => cases X <;> first | exact hq.elim | (cases h; exact hq)
      | go a =>
        cases X with | nrm => exact hq.elim | ret => exact hq.elim | ext i => ?_;obtain ⟨rfl,he,hp⟩ := hq
        dsimp only at h
        refine Run.clrE (ts := [0,3,4,5,6,7,9,10,11,17,18,19,20,21,22,23,24,25,26,27,28,29,30,31,32,33,34,35,36,37,38,39,40,41,42,43,44,45,46,47,48,49,50,51,52,53,54,55,56,57,58,59,60,61,62,63,64,65,66,67,68,69,70,71,72,73,74,75]) (b := i32n47) (Q := (finE none [4] (Q32 L r))) he ?_;refine Rn.g ?_;refine Ro.t 1 ?_;refine Ro.d (mkE [(4,(V.bool true))] 71) ?_;refine Run.ret ?_;have h := Option.some.inj h; subst h;exact ⟨(V.bool true),(by kernel_rfl),(by kernel_rfl),hp⟩
theorem c32 {x0 : (List T_Graph)} {x1 : T_Graph} {r : Bool} (h : F32 x0 x1 = some r) (s : Bool) : Fn T 32 [(Zl E_Graph x0),(E_Graph.e x1)] [] (fun v hh => deep s hh deepN v = some (EB.e r)) := by
  refine (w32 h HP.nil).mono ?_;rintro v hh ⟨rfl,hp⟩;exact EB.hd s hh 38 _ (.inr rfl)
abbrev Q10 (L : List Ob) (r : (Int × Int)) : V → Heap → Prop := fun v h => v = .tup [(EI .i64).e r.1,(EI .i64).e r.2] ∧ HP h (L)
abbrev RR10 (L : List Ob) (r : (Int × Int)) : List V → Heap → Prop := fun e h => endR none [2,3] (Q10 L r) e h
abbrev I10_1 (x0 : (List T_Graph)) (L : List Ob) : (Int) → List V → Heap → Prop := fun s e h => e = (mkE [(0,(Zl E_Graph x0)),(8,(Zl E_Graph x0)),(0,(i6 (ln x0))),(0,(i6 s))] 10) ∧ HP h (L)
abbrev J10_1 (x0 : (List T_Graph)) (L : List Ob) : Unit → Nat → List V → Heap → Prop := fun a i e h => i = 0 ∧ clrEnv [0,2,3,4,5,9,10,11,12,13,14,15,16,17,18,19,20,21] e = (mkE [] 22) ∧ HP h (L)
def F10_1_b (x0 : (List T_Graph)) (y8099 : Int) : Option (Stp (Int) (Int × Int) Unit) :=
  if (decide (y8099 < ((List.length x0 : Nat) : Int))) then
    (idx x0 y8099).bind fun y8122 =>
    (F32 x0 y8122).bind fun y8125 =>
    if (!y8125) then
      some (.ret ((4 : Int),y8099))
    else
      some (.next ((IntKind.i64.wrap (y8099 + (1 : Int)))))
  else
    some (.go ())
theorem w10_1_b {x0 : (List T_Graph)} {y8099 : Int} {t : (Stp (Int) (Int × Int) Unit)} (h : F10_1_b x0 y8099 = some t) {H : Heap} {L : List Ob} (hp : HP H (L)) :
    Run T i10n20 (mkE [(0,(Zl E_Graph x0)),(8,(Zl E_Graph x0)),(0,(i6 (ln x0))),(0,(i6 y8099))] 10) H (stp [2,3,4,5,12,13,14,15,16,17,18,19,20,21] (I10_1 x0 L) (RR10 L) (J10_1 x0 L) t) := by
  unfold F10_1_b at h;refine Rn.g ?_;refine Ro.t 1 ?_;refine Ro.d (mkE [(0,(Zl E_Graph x0)),(8,(Zl E_Graph x0)),(0,(i6 (ln x0))),(0,(i6 y8099)),(0,(V.bool (decide (y8099 < (ln x0)))))] 9) ?_;refine Run.seq ?_;rcases tf (decide (y8099 < (ln x0))) with h8115 | h8115
  · rw [ite_t h8115] at h; refine Rn.t h8115 ?_;refine Run.skip ?_;refine Rn.c (mkE [(0,(Zl E_Graph x0)),(8,(Zl E_Graph x0)),(0,(i6 (ln x0))),(0,(i6 y8099))] 10) ?_;refine Run.seq ?_;refine Run.block ?_;refine Rn.g ?_;refine Ro.t 1 ?_;obtain ⟨y8122,h8123,h⟩ := bind_some h;refine Ro.p (idx_fz E_Graph .i64 h8123) ?_;refine Ro.t 1 ?_;refine RunO.alloc hp (by kernel_rfl) ?_;intro b8124 H hp;have hp : HP H ((some (b8124,0),[(ES.e ([] : List UInt8)),(V.fz (List.map (EI .i64).e ([] : List Int))),(V.int .u8 (0 : Int)),(V.fz (List.map (EI .u8).e ([] : List Int))),(V.fz (List.map E_Array.e ([] : List T_Array))),(V.fz (List.map E_Block.e ([] : List T_Block)))]) :: L) := hp;refine Ro.t 1 ?_;refine RunO.st hp (by kernel_rfl) 0 (off := 0) (v := (E_Graph.e y8122)) (cs' := [(ES.e y8122.fName),(Zl (EI .i64) y8122.fParams),(V.int .u8 y8122.fResult),(Zl (EI .u8) y8122.fVars),(Zl E_Array y8122.fArrays),(Zl E_Block y8122.fBlocks)]) rfl (by kernel_rfl) (by kernel_rfl) (by kernel_rfl) ?_;intro H hp;refine Ro.d (mkE [(0,(Zl E_Graph x0)),(3,(i6 y8099)),(0,(V.ptr b8124 0 0)),(3,(Zl E_Graph x0)),(0,(i6 (ln x0))),(0,(i6 y8099))] 10) ?_;refine Rn.g ?_;refine Ro.t 1 ?_;refine Ro.p (hp.ld 0 (off := 0) (n := (some 6)) (v := (E_Graph.e y8122)) rfl (by kernel_rfl)) ?_;obtain ⟨y8125,h8126,h⟩ := bind_some h;refine RunO.c1 (by kernel_rfl) (by kernel_rfl) (c32 h8126 _) ?_;refine Ro.t 1 ?_;refine Ro.d (mkE [(0,(Zl E_Graph x0)),(3,(i6 y8099)),(4,(Zl E_Graph x0)),(0,(i6 (ln x0))),(0,(i6 y8099)),(7,(V.bool (!y8125)))] 2) ?_;rcases tf (!y8125) with h8127 | h8127
    · rw [ite_t h8127] at h; refine Rn.t h8127 ?_;refine Rn.g ?_;refine Ro.t 3 ?_;refine Ro.d (mkE [(2,(i6 (4 : Int))),(0,(i6 y8099))] 18) ?_;refine Run.ret ?_;have h := Option.some.inj h; subst h;show RR10 L _ _ _;have hp := hp.del 0;exact ⟨(V.tup [(i6 (4 : Int)),(i6 y8099)]),(by kernel_rfl),(by kernel_rfl),hp⟩
    · rw [ite_f h8127] at h; refine Rn.f h8127 ?_;refine Run.skip ?_;refine Run.clrE (ts := [2,3,4,5,13,14,15,16,17,18,19,20]) (b := (.rgn i10r17)) (Q := (stp [2,3,4,5,12,13,14,15,16,17,18,19,20,21] (I10_1 x0 L) (RR10 L) (J10_1 x0 L) t)) (e' := (mkE [(0,(Zl E_Graph x0)),(8,(Zl E_Graph x0)),(0,(i6 (ln x0))),(0,(i6 y8099))] 10)) (by kernel_rfl) ?_;refine Run.rgn ?_;refine Ro.t 2 ?_;refine RunO.nil ?_;have h := Option.some.inj h; subst h;have hp := hp.del 0;show I10_1 x0 L _ _ _;exact ⟨(by kernel_rfl),hp⟩
  · rw [ite_f h8115] at h; refine Rn.f h8115 ?_;refine Run.exit ?_;have h := Option.some.inj h; subst h;show J10_1 x0 L () _ _ _;exact ⟨rfl,(by kernel_rfl),hp⟩
def F10 (x0 : (List T_Graph)) : Option (Int × Int) :=
  if (decide (((List.length x0 : Nat) : Int) > (64 : Int))) then
    some ((3 : Int),(0 : Int))
  else
    (iter (fun s : (Int) => F10_1_b x0 s) FUEL ((0 : Int))).bind fun o => match o with
    | .ret r => some r
    | .go () =>
      some ((0 : Int),(0 : Int))
theorem w10 {x0 : (List T_Graph)} {r : (Int × Int)} (h : F10 x0 = some r) {H : Heap} {L : List Ob} (hp : HP H (L)) : Fn T 10 [(Zl E_Graph x0)] H (Q10 L r) := by
  refine Fn.enterE t10 (e0 := (mkE [(0,(Zl E_Graph x0))] 21)) (by kernel_rfl) ?_;show Run T (.clr [] i10n28) _ _ (finE none [2,3] (Q10 L r));refine Rn.k (mkE [(0,(Zl E_Graph x0))] 21) ?_;unfold F10 at h;refine Rn.g ?_;refine Ro.t 2 ?_;refine Ro.d (mkE [(0,(Zl E_Graph x0))] 21) ?_;refine Run.seq ?_;refine Rn.g ?_;refine Ro.t 1 ?_;refine Ro.p (len_fz E_Graph x0) ?_;refine Ro.t 1 ?_;refine Ro.d (mkE [(0,(Zl E_Graph x0)),(7,(V.bool (decide ((ln x0) > (64 : Int)))))] 13) ?_;rcases tf (decide ((ln x0) > (64 : Int))) with h8084 | h8084
  · rw [ite_t h8084] at h; refine Rn.t h8084 ?_;refine Rn.g ?_;refine Ro.t 2 ?_;refine Ro.d (mkE [(2,(i6 (3 : Int))),(0,(i6 (0 : Int)))] 18) ?_;refine Run.ret ?_;have h := Option.some.inj h; subst h;exact ⟨(V.tup [(i6 (3 : Int)),(i6 (0 : Int))]),(by kernel_rfl),(by kernel_rfl),hp⟩
  · rw [ite_f h8084] at h; refine Rn.f h8084 ?_;refine Run.skip ?_;refine Rn.c (mkE [(0,(Zl E_Graph x0))] 21) ?_;refine Run.seq ?_;refine Rn.g ?_;refine Ro.t 1 ?_;refine Ro.p (len_fz E_Graph x0) ?_;refine Ro.t 1 ?_;refine Ro.d (mkE [(0,(Zl E_Graph x0)),(8,(Zl E_Graph x0)),(0,(i6 (ln x0))),(0,(i6 (0 : Int)))] 10) ?_;refine Run.block ?_;obtain ⟨o,h8128,h⟩ := bind_some h;refine (Run.iter (I := I10_1 x0 L) (RR := RR10 L) (J := J10_1 x0 L) (fun s e h' t hI hf => ?_) FUEL h8128 (by exact ⟨(by kernel_rfl),hp⟩)).mono ?_
    · obtain ⟨rfl,hp⟩ := hI; exact w10_1_b hf hp
    · rintro X e' H hq;cases o with
      | ret r => cases X <;> first | exact hq.elim | (cases h; exact hq)
      | go a =>
        cases X with | nrm => exact hq.elim | ret => exact hq.elim | ext i => ?_;obtain ⟨rfl,he,hp⟩ := hq
        dsimp only at h
        refine Run.clrE (ts := [0,2,3,4,5,9,10,11,12,13,14,15,16,17,18,19,20,21]) (b := i10n25) (Q := (finE none [2,3] (Q10 L r))) he ?_;refine Rn.g ?_;refine Ro.t 2 ?_;refine Ro.d (mkE [(2,(i6 (0 : Int))),(0,(i6 (0 : Int)))] 18) ?_;refine Run.ret ?_;have h := Option.some.inj h; subst h;exact ⟨(V.tup [(i6 (0 : Int)),(i6 (0 : Int))]),(by kernel_rfl),(by kernel_rfl),hp⟩
theorem c10 {x0 : (List T_Graph)} {r : (Int × Int)} (h : F10 x0 = some r) (s : Bool) : Fn T 10 [(Zl E_Graph x0)] [] (fun v hh => deep s hh deepN v = some (.tup [(EI .i64).e r.1,(EI .i64).e r.2])) := by
  refine (w10 h HP.nil).mono ?_;rintro v hh ⟨rfl,hp⟩;exact congrArg (Option.map V.tup) (omapc ((EI .i64).hd s hh 37 _ (.inr rfl)) (omapc ((EI .i64).hd s hh 37 _ (.inr rfl)) omapn))
abbrev Q17 (L : List Ob) (r : Bool) : V → Heap → Prop := fun v h => v = EB.e r ∧ HP h (L)
abbrev RR17 (L : List Ob) (r : Bool) : List V → Heap → Prop := fun e h => endR none [4] (Q17 L r) e h
abbrev I17_1 (x0 : (List Int)) (x1 : (List Int)) (L : List Ob) : (Int) → List V → Heap → Prop := fun s e h => e = (mkE [(0,(Zl (EI .i64) x0)),(0,(Zl (EI .i64) x1)),(3,(i6 s))] 20) ∧ HP h (L)
abbrev J17_1 (x0 : (List Int)) (x1 : (List Int)) (L : List Ob) : Unit → Nat → List V → Heap → Prop := fun a i e h => i = 0 ∧ clrEnv [0,1,4,5,11,12,13,14,15,16,17,18,19,20,21,22,23,24,25] e = (mkE [] 26) ∧ HP h (L)
def F17_1_b (x0 : (List Int)) (x1 : (List Int)) (y8190 : Int) : Option (Stp (Int) Bool Unit) :=
  if (decide (y8190 < ((List.length x0 : Nat) : Int))) then
    (idx x0 y8190).bind fun y8210 =>
    (idx x1 y8190).bind fun y8212 =>
    if (y8210 != y8212) then
      some (.ret false)
    else
      some (.next ((IntKind.i64.wrap (y8190 + (1 : Int)))))
  else
    some (.go ())
theorem w17_1_b {x0 : (List Int)} {x1 : (List Int)} {y8190 : Int} {t : (Stp (Int) Bool Unit)} (h : F17_1_b x0 x1 y8190 = some t) {H : Heap} {L : List Ob} (hp : HP H (L)) :
    Run T i17n18 (mkE [(0,(Zl (EI .i64) x0)),(0,(Zl (EI .i64) x1)),(3,(i6 y8190))] 20) H (stp [4,11,12,13,14,15,16,17,18,19,20,21,22,23,24,25] (I17_1 x0 x1 L) (RR17 L) (J17_1 x0 x1 L) t) := by
  unfold F17_1_b at h;refine Run.seq ?_;refine Rn.g ?_;refine Ro.t 2 ?_;refine Ro.p (len_fz (EI .i64) x0) ?_;refine Ro.t 1 ?_;refine Ro.d (mkE [(0,(Zl (EI .i64) x0)),(0,(Zl (EI .i64) x1)),(3,(i6 y8190)),(8,(V.bool (decide (y8190 < (ln x0)))))] 11) ?_;rcases tf (decide (y8190 < (ln x0))) with h8204 | h8204
  · rw [ite_t h8204] at h; refine Rn.t h8204 ?_;refine Run.skip ?_;refine Rn.c (mkE [(0,(Zl (EI .i64) x0)),(0,(Zl (EI .i64) x1)),(3,(i6 y8190))] 20) ?_;refine Run.seq ?_;refine Run.block ?_;refine Rn.g ?_;refine Ro.t 2 ?_;obtain ⟨y8210,h8211,h⟩ := bind_some h;refine Ro.p (idx_fz (EI .i64) .i64 h8211) ?_;refine Ro.t 3 ?_;obtain ⟨y8212,h8213,h⟩ := bind_some h;refine Ro.p (idx_fz (EI .i64) .i64 h8213) ?_;refine Ro.t 2 ?_;refine Ro.d (mkE [(0,(Zl (EI .i64) x0)),(0,(Zl (EI .i64) x1)),(3,(i6 y8190)),(19,(V.bool (y8210 != y8212)))] 0) ?_;rcases tf (y8210 != y8212) with h8214 | h8214
    · rw [ite_t h8214] at h; refine Rn.t h8214 ?_;refine Rn.g ?_;refine Ro.t 1 ?_;refine Ro.d (mkE [(4,(V.bool false))] 21) ?_;refine Run.ret ?_;have h := Option.some.inj h; subst h;show RR17 L _ _ _;exact ⟨(V.bool false),(by kernel_rfl),(by kernel_rfl),hp⟩
    · rw [ite_f h8214] at h; refine Rn.f h8214 ?_;refine Run.skip ?_;refine Run.clrE (ts := [4,17,18,19,20,21,22,23,24,25]) (b := (.rgn i17r16)) (Q := (stp [4,11,12,13,14,15,16,17,18,19,20,21,22,23,24,25] (I17_1 x0 x1 L) (RR17 L) (J17_1 x0 x1 L) t)) (e' := (mkE [(0,(Zl (EI .i64) x0)),(0,(Zl (EI .i64) x1)),(3,(i6 y8190))] 20)) (by kernel_rfl) ?_;refine Run.rgn ?_;refine Ro.t 3 ?_;refine RunO.nil ?_;have h := Option.some.inj h; subst h;show I17_1 x0 x1 L _ _ _;exact ⟨(by kernel_rfl),hp⟩
  · rw [ite_f h8204] at h; refine Rn.f h8204 ?_;refine Run.exit ?_;have h := Option.some.inj h; subst h;show J17_1 x0 x1 L () _ _ _;exact ⟨rfl,(by kernel_rfl),hp⟩
def F17 (x0 : (List Int)) (x1 : (List Int)) : Option Bool :=
  if (((List.length x0 : Nat) : Int) != ((List.length x1 : Nat) : Int)) then
    some false
  else
    (iter (fun s : (Int) => F17_1_b x0 x1 s) FUEL ((0 : Int))).bind fun o => match o with
    | .ret r => some r
    | .go () =>
      some true
theorem w17 {x0 : (List Int)} {x1 : (List Int)} {r : Bool} (h : F17 x0 x1 = some r) {H : Heap} {L : List Ob} (hp : HP H (L)) : Fn T 17 [(Zl (EI .i64) x0),(Zl (EI .i64) x1)] H (Q17 L r) := by
  refine Fn.enterE t17 (e0 := (mkE [(0,(Zl (EI .i64) x0)),(0,(Zl (EI .i64) x1))] 24)) (by kernel_rfl) ?_;show Run T (.clr [] i17n26) _ _ (finE none [4] (Q17 L r));refine Rn.k (mkE [(0,(Zl (EI .i64) x0)),(0,(Zl (EI .i64) x1))] 24) ?_;unfold F17 at h;refine Rn.g ?_;refine Ro.t 1 ?_;refine Ro.d (mkE [(0,(Zl (EI .i64) x0)),(0,(Zl (EI .i64) x1))] 24) ?_;refine Run.seq ?_;refine Rn.g ?_;refine Ro.t 1 ?_;refine Ro.p (len_fz (EI .i64) x0) ?_;refine Ro.t 1 ?_;refine Ro.p (len_fz (EI .i64) x1) ?_;refine Ro.t 1 ?_;refine Ro.d (mkE [(0,(Zl (EI .i64) x0)),(0,(Zl (EI .i64) x1)),(8,(V.bool ((ln x0) != (ln x1))))] 15) ?_;rcases tf ((ln x0) != (ln x1)) with h8177 | h8177
  · rw [ite_t h8177] at h; refine Rn.t h8177 ?_;refine Rn.g ?_;refine Ro.t 1 ?_;refine Ro.d (mkE [(4,(V.bool false))] 21) ?_;refine Run.ret ?_;have h := Option.some.inj h; subst h;exact ⟨(V.bool false),(by kernel_rfl),(by kernel_rfl),hp⟩
  · rw [ite_f h8177] at h; refine Rn.f h8177 ?_;refine Run.skip ?_;refine Rn.c (mkE [(0,(Zl (EI .i64) x0)),(0,(Zl (EI .i64) x1))] 24) ?_;refine Run.seq ?_;refine Rn.g ?_;refine Ro.t 1 ?_;refine Ro.d (mkE [(0,(Zl (EI .i64) x0)),(0,(Zl (EI .i64) x1)),(3,(i6 (0 : Int)))] 20) ?_;refine Run.block ?_;obtain ⟨o,h8215,h⟩ := bind_some h;refine (Run.iter (I := I17_1 x0 x1 L) (RR := RR17 L) (J := J17_1 x0 x1 L) (fun s e h' t hI hf => ?_) FUEL h8215 (by exact ⟨(by kernel_rfl),hp⟩)).mono ?_
    · obtain ⟨rfl,hp⟩ := hI; exact w17_1_b hf hp
    · rintro X e' H hq;cases o with
      | ret r => cases X <;> first | exact hq.elim | (cases h; exact hq)
      | go a =>
        cases X with | nrm => exact hq.elim | ret => exact hq.elim | ext i => ?_;obtain ⟨rfl,he,hp⟩ := hq
        dsimp only at h
        refine Run.clrE (ts := [0,1,4,5,11,12,13,14,15,16,17,18,19,20,21,22,23,24,25]) (b := i17n23) (Q := (finE none [4] (Q17 L r))) he ?_;refine Rn.g ?_;refine Ro.t 1 ?_;refine Ro.d (mkE [(4,(V.bool true))] 21) ?_;refine Run.ret ?_;have h := Option.some.inj h; subst h;exact ⟨(V.bool true),(by kernel_rfl),(by kernel_rfl),hp⟩
theorem c17 {x0 : (List Int)} {x1 : (List Int)} {r : Bool} (h : F17 x0 x1 = some r) (s : Bool) : Fn T 17 [(Zl (EI .i64) x0),(Zl (EI .i64) x1)] [] (fun v hh => deep s hh deepN v = some (EB.e r)) := by
  refine (w17 h HP.nil).mono ?_;rintro v hh ⟨rfl,hp⟩;exact EB.hd s hh 38 _ (.inr rfl)
abbrev Q22 (L : List Ob) (r : Int) : V → Heap → Prop := fun v h => v = (EI .i64).e r ∧ HP h (L)
abbrev RR22 (L : List Ob) (r : Int) : List V → Heap → Prop := fun e h => endR none [2] (Q22 L r) e h
abbrev I22_1 (x0 : T_Graph) (L : List Ob) : (Int × Int) → List V → Heap → Prop := fun s e h => e = (mkE [(3,(i6 s.1)),(6,(Zl E_Block x0.fBlocks)),(0,(i6 (ln x0.fBlocks))),(0,(i6 s.2))] 10) ∧ HP h (L)
abbrev J22_1 (x0 : T_Graph) (L : List Ob) : (Int) → Nat → List V → Heap → Prop := fun a i e h => i = 0 ∧ clrEnv [1,5,9,10,11,12,13,14,15,16,17,18,19,20,21] e = (mkE [(3,(i6 a))] 19) ∧ HP h (L)
def F22_1_b (x0 : T_Graph) (y8239 : Int) (y8240 : Int) : Option (Stp (Int × Int) Int (Int)) :=
  if (decide (y8240 < ((List.length x0.fBlocks : Nat) : Int))) then
    (idx x0.fBlocks y8240).bind fun y8249 =>
    some (.next ((IntKind.i64.wrap (y8239 + ((List.length y8249.fIns : Nat) : Int))),(IntKind.i64.wrap (y8240 + (1 : Int)))))
  else
    some (.go (y8239))
theorem w22_1_b {x0 : T_Graph} {y8239 : Int} {y8240 : Int} {t : (Stp (Int × Int) Int (Int))} (h : F22_1_b x0 y8239 y8240 = some t) {H : Heap} {L : List Ob} (hp : HP H (L)) :
    Run T i22n12 (mkE [(3,(i6 y8239)),(6,(Zl E_Block x0.fBlocks)),(0,(i6 (ln x0.fBlocks))),(0,(i6 y8240))] 10) H (stp [5,13,14,15,16,17,18,19,20,21] (I22_1 x0 L) (RR22 L) (J22_1 x0 L) t) := by
  unfold F22_1_b at h;refine Rn.g ?_;refine Ro.t 1 ?_;refine Ro.d (mkE [(3,(i6 y8239)),(6,(Zl E_Block x0.fBlocks)),(0,(i6 (ln x0.fBlocks))),(0,(i6 y8240)),(0,(V.bool (decide (y8240 < (ln x0.fBlocks)))))] 9) ?_;refine Run.seq ?_;rcases tf (decide (y8240 < (ln x0.fBlocks))) with h8248 | h8248
  · rw [ite_t h8248] at h; refine Rn.t h8248 ?_;refine Run.skip ?_;refine Rn.c (mkE [(3,(i6 y8239)),(6,(Zl E_Block x0.fBlocks)),(0,(i6 (ln x0.fBlocks))),(0,(i6 y8240))] 10) ?_;refine Run.seq ?_;refine Run.block ?_;refine Rn.g ?_;obtain ⟨y8249,h8250,h⟩ := bind_some h;refine Ro.p (idx_fz E_Block .i64 h8250) ?_;refine Ro.t 1 ?_;refine RunO.alloc hp (by kernel_rfl) ?_;intro b8251 H hp;have hp : HP H ((some (b8251,0),[(V.fz (List.map E_Ins.e ([] : List T_Ins))),(V.int .u8 (0 : Int)),(i6 (0 : Int)),(i6 (0 : Int)),(i6 (0 : Int)),(V.int .u8 (0 : Int))]) :: L) := hp;refine RunO.st hp (by kernel_rfl) 0 (off := 0) (v := (E_Block.e y8249)) (cs' := [(Zl E_Ins y8249.fIns),(V.int .u8 y8249.fTerm.fKind),(i6 y8249.fTerm.fArg),(i6 y8249.fTerm.fTo.a0),(i6 y8249.fTerm.fTo.a1),(V.int .u8 y8249.fTerm.fTrap)]) rfl (by kernel_rfl) (by kernel_rfl) (by kernel_rfl) ?_;intro H hp;refine Ro.d (mkE [(3,(i6 y8239)),(1,(V.ptr b8251 0 0)),(4,(Zl E_Block x0.fBlocks)),(0,(i6 (ln x0.fBlocks))),(0,(i6 y8240))] 10) ?_;refine Run.rgn ?_;refine Ro.t 2 ?_;refine Ro.p (hp.ld 0 (off := 0) (n := none) (v := (Zl E_Ins y8249.fIns)) rfl (by kernel_rfl)) ?_;refine Ro.p (len_fz E_Ins y8249.fIns) ?_;refine Ro.t 2 ?_;refine RunO.nil ?_;refine Run.clrE (ts := [5,14,15,16,17,18,19,20]) (b := (.rgn i22r9)) (Q := (stp [5,13,14,15,16,17,18,19,20,21] (I22_1 x0 L) (RR22 L) (J22_1 x0 L) t)) (e' := (mkE [(3,(i6 (IntKind.i64.wrap (y8239 + (ln y8249.fIns))))),(6,(Zl E_Block x0.fBlocks)),(0,(i6 (ln x0.fBlocks))),(0,(i6 y8240))] 10)) (by kernel_rfl) ?_;refine Run.rgn ?_;refine Ro.t 2 ?_;refine RunO.nil ?_;have h := Option.some.inj h; subst h;have hp := hp.del 0;show I22_1 x0 L _ _ _;exact ⟨(by kernel_rfl),hp⟩
  · rw [ite_f h8248] at h; refine Rn.f h8248 ?_;refine Run.exit ?_;have h := Option.some.inj h; subst h;show J22_1 x0 L _ _ _ _;exact ⟨rfl,(by kernel_rfl),hp⟩
def F22 (x0 : T_Graph) : Option Int :=
  (iter (fun s : (Int × Int) => F22_1_b x0 s.1 s.2) FUEL (((List.length x0.fBlocks : Nat) : Int),(0 : Int))).bind fun o => match o with
  | .ret r => some r
  | .go (y8246) =>
    some y8246
theorem w22 {x0 : T_Graph} {r : Int} (h : F22 x0 = some r) {H : Heap} {L : List Ob} (hp : HP H (L)) : Fn T 22 [(E_Graph.e x0)] H (Q22 L r) := by
  refine Fn.enterE t22 (e0 := (mkE [(0,(E_Graph.e x0))] 22)) (by kernel_rfl) ?_;show Run T (.clr [] i22n20) _ _ (finE none [2] (Q22 L r));refine Rn.k (mkE [(0,(E_Graph.e x0))] 22) ?_;unfold F22 at h;refine Rn.g ?_;refine Ro.t 2 ?_;refine Ro.d (mkE [(1,(V.fp (E_Graph.e x0)))] 21) ?_;refine Rn.g ?_;refine Ro.t 2 ?_;refine Ro.p (len_fz E_Block x0.fBlocks) ?_;refine Ro.t 1 ?_;refine Ro.d (mkE [(1,(V.fp (E_Graph.e x0))),(1,(i6 (ln x0.fBlocks)))] 19) ?_;refine Run.seq ?_;refine Rn.g ?_;refine Ro.t 2 ?_;refine Ro.p (len_fz E_Block x0.fBlocks) ?_;refine Ro.t 1 ?_;refine Ro.d (mkE [(3,(i6 (ln x0.fBlocks))),(6,(Zl E_Block x0.fBlocks)),(0,(i6 (ln x0.fBlocks))),(0,(i6 (0 : Int)))] 10) ?_;refine Run.block ?_;obtain ⟨o,h8252,h⟩ := bind_some h;refine (Run.iter (I := I22_1 x0 L) (RR := RR22 L) (J := J22_1 x0 L) (fun s e h' t hI hf => ?_) FUEL h8252 (by exact ⟨(by kernel_rfl),hp⟩)).mono ?_
  · obtain ⟨rfl,hp⟩ := hI; exact w22_1_b hf hp
  · rintro X e' H hq;cases o with
    | ret r => cases X <;> first | exact hq.elim | (cases h; exact hq)
    | go y8246 =>
      cases X with | nrm => exact hq.elim | ret => exact hq.elim | ext i => ?_;obtain ⟨rfl,he,hp⟩ := hq
      dsimp only at h
      refine Run.clrE (ts := [1,5,9,10,11,12,13,14,15,16,17,18,19,20,21]) (b := i22n17) (Q := (finE none [2] (Q22 L r))) he ?_;refine Rn.g ?_;refine Ro.t 2 ?_;refine Ro.d (mkE [(2,(i6 y8246))] 20) ?_;refine Run.ret ?_;have h := Option.some.inj h; subst h;exact ⟨(i6 y8246),(by kernel_rfl),(by kernel_rfl),hp⟩
theorem c22 {x0 : T_Graph} {r : Int} (h : F22 x0 = some r) (s : Bool) : Fn T 22 [(E_Graph.e x0)] [] (fun v hh => deep s hh deepN v = some ((EI .i64).e r)) := by
  refine (w22 h HP.nil).mono ?_;rintro v hh ⟨rfl,hp⟩;exact (EI .i64).hd s hh 38 _ (.inr rfl)
abbrev Q9 (L : List Ob) (r : Bool) : V → Heap → Prop := fun v h => v = EB.e r ∧ HP h (L)
abbrev RR9 (L : List Ob) (r : Bool) : List V → Heap → Prop := fun e h => endR none [0] (Q9 L r) e h
def F9 : Option Bool :=
  (F28 true).bind fun y8255 =>
  (F28 false).bind fun y8257 =>
  (F10 ([y8255,y8257] : List T_Graph)).bind fun y8259 =>
  (F28 true).bind fun y8261 =>
  (F10 ([y8261] : List T_Graph)).bind fun y8263 =>
  (F28 true).bind fun y8265 =>
  (F31 [] y8265 (⟨(4 : Int),(13 : Int),(1 : Int),([(0 : Int),(2 : Int)] : List Int),(0 : Int),(0 : Int)⟩ : T_Ins)).bind fun y8267 =>
  if (y8259.1 == (4 : Int)) then
    if (y8259.2 == (1 : Int)) then
      if (y8263.1 == (0 : Int)) then
        if (y8263.2 == (0 : Int)) then
          if (y8267.1 == (1 : Int)) then
            if y8267.2 then
              (F28 false).bind fun y8275 =>
              (F14 y8275).bind fun y8277 =>
              (F17 y8277 ([(0 : Int),(1 : Int),(2 : Int),(3 : Int)] : List Int)).bind fun y8279 =>
              if y8279 then
                (F28 false).bind fun y8282 =>
                (F22 y8282).bind fun y8284 =>
                some (y8284 == (9 : Int))
              else
                some false
            else
              some false
          else
            some false
        else
          some false
      else
        some false
    else
      some false
  else
    some false
theorem w9 {r : Bool} (h : F9 = some r) {H : Heap} {L : List Ob} (hp : HP H (L)) : Fn T 9 [] H (Q9 L r) := by
  refine Fn.enterE t9 (e0 := (mkE [] 59)) (by kernel_rfl) ?_;show Run T (.clr [] i9n9) _ _ (finE none [0] (Q9 L r));refine Rn.k (mkE [] 59) ?_;unfold F9 at h;refine Rn.g ?_;refine Ro.t 1 ?_;refine Ro.d (mkE [] 59) ?_;refine Rn.g ?_;obtain ⟨y8255,h8256,h⟩ := bind_some h;refine RunO.c2 (by kernel_rfl) (by kernel_rfl) (by kernel_rfl) (c28 h8256) ?_;obtain ⟨y8257,h8258,h⟩ := bind_some h;refine RunO.c2 (by kernel_rfl) (by kernel_rfl) (by kernel_rfl) (c28 h8258) ?_;refine Ro.t 1 ?_;obtain ⟨y8259,h8260,h⟩ := bind_some h;refine RunO.c1 (by kernel_rfl) (by kernel_rfl) (c10 h8260 _) ?_;refine Ro.t 5 ?_;refine Ro.d (mkE [(1,(i6 y8259.1)),(0,(i6 y8259.2))] 56) ?_;refine Rn.g ?_;obtain ⟨y8261,h8262,h⟩ := bind_some h;refine RunO.c2 (by kernel_rfl) (by kernel_rfl) (by kernel_rfl) (c28 h8262) ?_;refine Ro.t 1 ?_;obtain ⟨y8263,h8264,h⟩ := bind_some h;refine RunO.c1 (by kernel_rfl) (by kernel_rfl) (c10 h8264 _) ?_;refine Ro.t 5 ?_;refine Ro.d (mkE [(1,(i6 y8259.1)),(0,(i6 y8259.2)),(0,(i6 y8263.1)),(0,(i6 y8263.2))] 54) ?_;refine Rn.g ?_;obtain ⟨y8265,h8266,h⟩ := bind_some h;refine RunO.c2 (by kernel_rfl) (by kernel_rfl) (by kernel_rfl) (c28 h8266) ?_;refine Ro.t 2 ?_;obtain ⟨y8267,h8268,h⟩ := bind_some h;refine RunO.c1 (by kernel_rfl) (by kernel_rfl) (c31 h8268 _) ?_;refine Ro.t 5 ?_;refine Ro.d (mkE [(1,(i6 y8259.1)),(0,(i6 y8259.2)),(0,(i6 y8263.1)),(0,(i6 y8263.2)),(0,(V.int .u8 y8267.1)),(0,(V.bool y8267.2))] 52) ?_;refine Rn.g ?_;refine Ro.t 1 ?_;rcases tf (y8259.1 == (4 : Int)) with h8269 | h8269
  · rw [ite_t h8269] at h; refine Ro.p (bool_of h8269) ?_;refine Ro.t 2 ?_;rcases tf (y8259.2 == (1 : Int)) with h8270 | h8270
    · rw [ite_t h8270] at h; refine Ro.p (bool_of h8270) ?_;refine Ro.t 3 ?_;rcases tf (y8263.1 == (0 : Int)) with h8271 | h8271
      · rw [ite_t h8271] at h; refine Ro.p (bool_of h8271) ?_;refine Ro.t 3 ?_;rcases tf (y8263.2 == (0 : Int)) with h8272 | h8272
        · rw [ite_t h8272] at h; refine Ro.p (bool_of h8272) ?_;refine Ro.t 3 ?_;rcases tf (y8267.1 == (1 : Int)) with h8273 | h8273
          · rw [ite_t h8273] at h; refine Ro.p (bool_of h8273) ?_;refine Ro.t 2 ?_;rcases tf y8267.2 with h8274 | h8274
            · rw [ite_t h8274] at h; refine Ro.p (bool_of h8274) ?_;refine Ro.t 2 ?_;obtain ⟨y8275,h8276,h⟩ := bind_some h;refine RunO.c2 (by kernel_rfl) (by kernel_rfl) (by kernel_rfl) (c28 h8276) ?_;obtain ⟨y8277,h8278,h⟩ := bind_some h;refine RunO.c2 (by kernel_rfl) (by kernel_rfl) (by kernel_rfl) (c14 h8278) ?_;refine Ro.t 1 ?_;obtain ⟨y8279,h8280,h⟩ := bind_some h;rcases tf y8279 with h8281 | h8281
              · subst h8281; rw [if_pos rfl] at h;refine RunO.c1 (by kernel_rfl) (by kernel_rfl) (c17 h8280 _) ?_;refine Ro.t 2 ?_;obtain ⟨y8282,h8283,h⟩ := bind_some h;refine RunO.c2 (by kernel_rfl) (by kernel_rfl) (by kernel_rfl) (c28 h8283) ?_;obtain ⟨y8284,h8285,h⟩ := bind_some h;refine RunO.c1 (by kernel_rfl) (by kernel_rfl) (c22 h8285 _) ?_;refine Ro.t 3 ?_;refine Ro.d (mkE [(0,(V.bool (y8284 == (9 : Int))))] 58) ?_;refine Run.ret ?_;have h := Option.some.inj h; subst h;exact ⟨(V.bool (y8284 == (9 : Int))),(by kernel_rfl),(by kernel_rfl),hp⟩
              · subst h8281; rw [if_neg (by decide)] at h;refine RunO.c1 (by kernel_rfl) (by kernel_rfl) (c17 h8280 _) ?_;refine Ro.t 7 ?_;refine Ro.d (mkE [(0,(V.bool false))] 58) ?_;refine Run.ret ?_;have h := Option.some.inj h; subst h;exact ⟨(V.bool false),(by kernel_rfl),(by kernel_rfl),hp⟩
            · rw [ite_f h8274] at h; refine Ro.p (bool_of h8274) ?_;refine Ro.t 13 ?_;refine Ro.d (mkE [(0,(V.bool false))] 58) ?_;refine Run.ret ?_;have h := Option.some.inj h; subst h;exact ⟨(V.bool false),(by kernel_rfl),(by kernel_rfl),hp⟩
          · rw [ite_f h8273] at h; refine Ro.p (bool_of h8273) ?_;refine Ro.t 16 ?_;refine Ro.d (mkE [(0,(V.bool false))] 58) ?_;refine Run.ret ?_;have h := Option.some.inj h; subst h;exact ⟨(V.bool false),(by kernel_rfl),(by kernel_rfl),hp⟩
        · rw [ite_f h8272] at h; refine Ro.p (bool_of h8272) ?_;refine Ro.t 20 ?_;refine Ro.d (mkE [(0,(V.bool false))] 58) ?_;refine Run.ret ?_;have h := Option.some.inj h; subst h;exact ⟨(V.bool false),(by kernel_rfl),(by kernel_rfl),hp⟩
      · rw [ite_f h8271] at h; refine Ro.p (bool_of h8271) ?_;refine Ro.t 24 ?_;refine Ro.d (mkE [(0,(V.bool false))] 58) ?_;refine Run.ret ?_;have h := Option.some.inj h; subst h;exact ⟨(V.bool false),(by kernel_rfl),(by kernel_rfl),hp⟩
    · rw [ite_f h8270] at h; refine Ro.p (bool_of h8270) ?_;refine Ro.t 28 ?_;refine Ro.d (mkE [(0,(V.bool false))] 58) ?_;refine Run.ret ?_;have h := Option.some.inj h; subst h;exact ⟨(V.bool false),(by kernel_rfl),(by kernel_rfl),hp⟩
  · rw [ite_f h8269] at h; refine Ro.p (bool_of h8269) ?_;refine Ro.t 31 ?_;refine Ro.d (mkE [(0,(V.bool false))] 58) ?_;refine Run.ret ?_;have h := Option.some.inj h; subst h;exact ⟨(V.bool false),(by kernel_rfl),(by kernel_rfl),hp⟩
theorem c9 {r : Bool} (h : F9 = some r) (s : Bool) : Fn T 9 [] [] (fun v hh => deep s hh deepN v = some (EB.e r)) := by
  refine (w9 h HP.nil).mono ?_;rintro v hh ⟨rfl,hp⟩;exact EB.hd s hh 38 _ (.inr rfl)
abbrev Q47 (L : List Ob) (r : (List Int)) : V → Heap → Prop := fun v h => ∃ (o0 : Option (Nat × Nat)) (q0 : List V),v = slv (EI .i64).z (EI .i64).ag (List.length r) o0 ∧ HP h ((o0,List.flatMap (EI .i64).c r ++ q0) :: L)
abbrev RR47 (L : List Ob) (r : (List Int)) : List V → Heap → Prop := fun e h => endR none [8] (Q47 L r) e h
abbrev I47_1 (x0 : (List Int)) (x1 : (List Int)) (x2 : (List Int)) (x3 : (List Int)) (L : List Ob) : ((List Int) × Int) → List V → Heap → Prop := fun s e h => ∃ o8381 : Option (Nat × Nat),∃ q8382 : List V,e = (mkE [(0,(Zl (EI .i64) x0)),(0,(Zl (EI .i64) x1)),(1,(Zl (EI .i64) x3)),(5,(slv (EI .i64).z (EI .i64).ag (List.length s.1) o8381)),(3,(Zl (EI .i64) x2)),(0,(i6 (ln x2))),(0,(i6 s.2))] 22) ∧ HP h ((o8381,List.flatMap (EI .i64).c s.1 ++ q8382) :: L)
abbrev J47_1 (x0 : (List Int)) (x1 : (List Int)) (x2 : (List Int)) (x3 : (List Int)) (L : List Ob) : ((List Int)) → Nat → List V → Heap → Prop := fun a i e h => i = 0 ∧ ∃ o8414 : Option (Nat × Nat),∃ q8415 : List V,clrEnv [0,1,2,3,11,12,13,14,15,16,17,18,19,20,21,22,23,24,25,26,27,28,29,30,31,32,33,34,35,36] e = (mkE [(9,(slv (EI .i64).z (EI .i64).ag (List.length a) o8414))] 28) ∧ HP h ((o8414,List.flatMap (EI .i64).c a ++ q8415) :: L)
def F47_j1 (x0 : (List Int)) (x1 : (List Int)) (x2 : (List Int)) (x3 : (List Int)) (y8383 : Int) (l8430 : (List Int)) : Option (Stp ((List Int) × Int) (List Int) ((List Int))) :=
  some (.next (l8430,(IntKind.i64.wrap (y8383 + (1 : Int)))))
theorem w47_j1 {x0 : (List Int)} {x1 : (List Int)} {x2 : (List Int)} {x3 : (List Int)} {y8383 : Int} {l8430 : (List Int)} {t : (Stp ((List Int) × Int) (List Int) ((List Int)))} (h : F47_j1 x0 x1 x2 x3 y8383 l8430 = some t) {o8431 : Option (Nat × Nat)} {q8432 : List V} {H : Heap} {L : List Ob} (hp : HP H ((o8431,List.flatMap (EI .i64).c l8430 ++ q8432) :: L)) :
    Run T (.rgn i47r14) (mkE [(0,(Zl (EI .i64) x0)),(0,(Zl (EI .i64) x1)),(1,(Zl (EI .i64) x3)),(5,(slv (EI .i64).z (EI .i64).ag (List.length l8430) o8431)),(3,(Zl (EI .i64) x2)),(0,(i6 (ln x2))),(0,(i6 y8383))] 22) H (stp [11,12,16,17,18,19,20,21,22,23,24,25,26,27,28,29,30,31,32,33,34,35,36] (I47_1 x0 x1 x2 x3 L) (RR47 L) (J47_1 x0 x1 x2 x3 L) t) := by
  unfold F47_j1 at h;refine Run.rgn ?_;refine Ro.t 2 ?_;refine RunO.nil ?_;have h := Option.some.inj h; subst h;show I47_1 x0 x1 x2 x3 L _ _ _;exact ⟨o8431,q8432,(by kernel_rfl),hp⟩
def F47_1_b (x0 : (List Int)) (x1 : (List Int)) (x2 : (List Int)) (x3 : (List Int)) (l8380 : (List Int)) (y8383 : Int) : Option (Stp ((List Int) × Int) (List Int) ((List Int))) :=
  if (decide (y8383 < ((List.length x2 : Nat) : Int))) then
    (idx x2 y8383).bind fun y8433 =>
    (idx x3 y8433).bind fun y8435 =>
    (F65 x1 y8435).bind fun y8437 =>
    if (decide (y8437 < ((List.length x0 : Nat) : Int))) then
      (idx x0 y8437).bind fun y8440 =>
      (more 8 l8380 ([y8440] : List Int)).bind fun y8442 =>
      F47_j1 x0 x1 x2 x3 y8383 (y8442)
    else
      F47_j1 x0 x1 x2 x3 y8383 (l8380)
  else
    some (.go (l8380))
theorem w47_1_b {x0 : (List Int)} {x1 : (List Int)} {x2 : (List Int)} {x3 : (List Int)} {l8380 : (List Int)} {y8383 : Int} {t : (Stp ((List Int) × Int) (List Int) ((List Int)))} (h : F47_1_b x0 x1 x2 x3 l8380 y8383 = some t) {o8381 : Option (Nat × Nat)} {q8382 : List V} {H : Heap} {L : List Ob} (hp : HP H ((o8381,List.flatMap (EI .i64).c l8380 ++ q8382) :: L)) :
    Run T i47n17 (mkE [(0,(Zl (EI .i64) x0)),(0,(Zl (EI .i64) x1)),(1,(Zl (EI .i64) x3)),(5,(slv (EI .i64).z (EI .i64).ag (List.length l8380) o8381)),(3,(Zl (EI .i64) x2)),(0,(i6 (ln x2))),(0,(i6 y8383))] 22) H (stp [11,12,16,17,18,19,20,21,22,23,24,25,26,27,28,29,30,31,32,33,34,35,36] (I47_1 x0 x1 x2 x3 L) (RR47 L) (J47_1 x0 x1 x2 x3 L) t) := by
  unfold F47_1_b at h;refine Rn.g ?_;refine Ro.t 1 ?_;refine Ro.d (mkE [(0,(Zl (EI .i64) x0)),(0,(Zl (EI .i64) x1)),(1,(Zl (EI .i64) x3)),(5,(slv (EI .i64).z (EI .i64).ag (List.length l8380) o8381)),(3,(Zl (EI .i64) x2)),(0,(i6 (ln x2))),(0,(i6 y8383)),(0,(V.bool (decide (y8383 < (ln x2)))))] 21) ?_;refine Run.seq ?_;rcases tf (decide (y8383 < (ln x2))) with h8417 | h8417
  · rw [ite_t h8417] at h; refine Rn.t h8417 ?_;refine Run.skip ?_;refine Rn.c (mkE [(0,(Zl (EI .i64) x0)),(0,(Zl (EI .i64) x1)),(1,(Zl (EI .i64) x3)),(5,(slv (EI .i64).z (EI .i64).ag (List.length l8380) o8381)),(3,(Zl (EI .i64) x2)),(0,(i6 (ln x2))),(0,(i6 y8383))] 22) ?_;refine Run.seq ?_;refine Run.block ?_;refine Rn.g ?_;obtain ⟨y8433,h8434,h⟩ := bind_some h;refine Ro.p (idx_fz (EI .i64) .i64 h8434) ?_;refine Ro.t 2 ?_;refine Ro.d (mkE [(0,(Zl (EI .i64) x0)),(0,(Zl (EI .i64) x1)),(1,(Zl (EI .i64) x3)),(5,(slv (EI .i64).z (EI .i64).ag (List.length l8380) o8381)),(1,(i6 y8433)),(1,(Zl (EI .i64) x2)),(0,(i6 (ln x2))),(0,(i6 y8383))] 22) ?_;refine Rn.g ?_;refine Ro.t 3 ?_;obtain ⟨y8435,h8436,h⟩ := bind_some h;refine Ro.p (idx_fz (EI .i64) .i64 h8436) ?_;refine Ro.t 1 ?_;obtain ⟨y8437,h8438,h⟩ := bind_some h;refine RunO.c1 (by kernel_rfl) (by kernel_rfl) (c65 h8438 _) ?_;refine Ro.t 1 ?_;refine Ro.d (mkE [(0,(Zl (EI .i64) x0)),(0,(Zl (EI .i64) x1)),(1,(Zl (EI .i64) x3)),(5,(slv (EI .i64).z (EI .i64).ag (List.length l8380) o8381)),(2,(i6 y8437)),(0,(Zl (EI .i64) x2)),(0,(i6 (ln x2))),(0,(i6 y8383))] 22) ?_;refine Rn.g ?_;refine Ro.t 2 ?_;refine Ro.p (len_fz (EI .i64) x0) ?_;refine Ro.t 1 ?_;refine Ro.d (mkE [(0,(Zl (EI .i64) x0)),(0,(Zl (EI .i64) x1)),(1,(Zl (EI .i64) x3)),(5,(slv (EI .i64).z (EI .i64).ag (List.length l8380) o8381)),(2,(i6 y8437)),(0,(Zl (EI .i64) x2)),(0,(i6 (ln x2))),(0,(i6 y8383)),(12,(V.bool (decide (y8437 < (ln x0)))))] 9) ?_;rcases tf (decide (y8437 < (ln x0))) with h8439 | h8439
    · rw [ite_t h8439] at h; refine Rn.t h8439 ?_;refine Run.rgn ?_;refine Ro.t 3 ?_;obtain ⟨y8440,h8441,h⟩ := bind_some h;refine Ro.p (idx_fz (EI .i64) .i64 h8441) ?_;refine Ro.t 2 ?_;obtain ⟨y8442,h8443,h⟩ := bind_some h;refine RunO.app1 (EI .i64) hp (by kernel_rfl) 0 (o := o8381) (l := l8380) (rest := q8382) (m := ([y8440] : List Int)) rfl (by kernel_rfl) (by kernel_rfl) ((EI .i64).new_fz _ ([y8440] : List Int)) (by kernel_rfl) (by kernel_rfl) h8443 ?_;intro o8444 H hp;have hp : HP H ((o8444,List.flatMap (EI .i64).c y8442 ++ []) :: L) := hp;refine Ro.t 1 ?_;refine RunO.nil ?_;refine Run.clrE (ts := [11,12,17,18,19,20,21,22,23,24,25,26,27,28,29,30,31,32,33,34,35]) (b := (.rgn i47r14)) (Q := (stp [11,12,16,17,18,19,20,21,22,23,24,25,26,27,28,29,30,31,32,33,34,35,36] (I47_1 x0 x1 x2 x3 L) (RR47 L) (J47_1 x0 x1 x2 x3 L) t)) (e' := (mkE [(0,(Zl (EI .i64) x0)),(0,(Zl (EI .i64) x1)),(1,(Zl (EI .i64) x3)),(5,(slv (EI .i64).z (EI .i64).ag (List.length y8442) o8444)),(3,(Zl (EI .i64) x2)),(0,(i6 (ln x2))),(0,(i6 y8383))] 22)) (by kernel_rfl) ?_;exact w47_j1 h hp
    · rw [ite_f h8439] at h; refine Rn.f h8439 ?_;refine Run.skip ?_;refine Run.clrE (ts := [11,12,17,18,19,20,21,22,23,24,25,26,27,28,29,30,31,32,33,34,35]) (b := (.rgn i47r14)) (Q := (stp [11,12,16,17,18,19,20,21,22,23,24,25,26,27,28,29,30,31,32,33,34,35,36] (I47_1 x0 x1 x2 x3 L) (RR47 L) (J47_1 x0 x1 x2 x3 L) t)) (e' := (mkE [(0,(Zl (EI .i64) x0)),(0,(Zl (EI .i64) x1)),(1,(Zl (EI .i64) x3)),(5,(slv (EI .i64).z (EI .i64).ag (List.length l8380) o8381)),(3,(Zl (EI .i64) x2)),(0,(i6 (ln x2))),(0,(i6 y8383))] 22)) (by kernel_rfl) ?_;exact w47_j1 h hp
  · rw [ite_f h8417] at h; refine Rn.f h8417 ?_;refine Run.exit ?_;have h := Option.some.inj h; subst h;show J47_1 x0 x1 x2 x3 L _ _ _ _;exact ⟨rfl,o8381,q8382,(by kernel_rfl),hp⟩
def F47 (x0 : (List Int)) (x1 : (List Int)) (x2 : (List Int)) (x3 : (List Int)) : Option (List Int) :=
  (iter (fun s : ((List Int) × Int) => F47_1_b x0 x1 x2 x3 s.1 s.2) FUEL ([],(0 : Int))).bind fun o => match o with
  | .ret r => some r
  | .go (l8413) =>
    some l8413
theorem w47 {x0 : (List Int)} {x1 : (List Int)} {x2 : (List Int)} {x3 : (List Int)} {r : (List Int)} (h : F47 x0 x1 x2 x3 = some r) {H : Heap} {L : List Ob} (hp : HP H (L)) : Fn T 47 [(Zl (EI .i64) x0),(Zl (EI .i64) x1),(Zl (EI .i64) x2),(Zl (EI .i64) x3)] H (Q47 L r) := by
  refine Fn.enterE t47 (e0 := (mkE [(0,(Zl (EI .i64) x0)),(0,(Zl (EI .i64) x1)),(0,(Zl (EI .i64) x2)),(0,(Zl (EI .i64) x3))] 34)) (by kernel_rfl) ?_;show Run T (.clr [] i47n25) _ _ (finE none [8] (Q47 L r));refine Rn.k (mkE [(0,(Zl (EI .i64) x0)),(0,(Zl (EI .i64) x1)),(0,(Zl (EI .i64) x2)),(0,(Zl (EI .i64) x3))] 34) ?_;unfold F47 at h;refine Rn.g ?_;refine Ro.t 1 ?_;refine Ro.d (mkE [(0,(Zl (EI .i64) x0)),(0,(Zl (EI .i64) x1)),(0,(Zl (EI .i64) x2)),(0,(Zl (EI .i64) x3))] 34) ?_;refine Rn.g ?_;refine Ro.t 1 ?_;refine Ro.d (mkE [(0,(Zl (EI .i64) x0)),(0,(Zl (EI .i64) x1)),(0,(Zl (EI .i64) x2)),(0,(Zl (EI .i64) x3)),(5,V.nils)] 28) ?_;refine Run.seq ?_;refine Rn.g ?_;refine Ro.t 1 ?_;refine Ro.p (len_fz (EI .i64) x2) ?_;refine Ro.t 1 ?_;refine Ro.d (mkE [(0,(Zl (EI .i64) x0)),(0,(Zl (EI .i64) x1)),(1,(Zl (EI .i64) x3)),(5,V.nils),(3,(Zl (EI .i64) x2)),(0,(i6 (ln x2))),(0,(i6 (0 : Int)))] 22) ?_;refine Run.block ?_;obtain ⟨o,h8445,h⟩ := bind_some h;have hp := hp.non;refine (Run.iter (I := I47_1 x0 x1 x2 x3 L) (RR := RR47 L) (J := J47_1 x0 x1 x2 x3 L) (fun s e h' t hI hf => ?_) FUEL h8445 (by exact ⟨none,[],(by kernel_rfl),hp⟩)).mono ?_
  · obtain ⟨_,_,rfl,hp⟩ := hI; exact w47_1_b hf hp
  · rintro X e' H hq;cases o with
    | ret r => cases X <;> first | exact hq.elim | (cases h; exact hq)
    | go l8413 =>
      cases X with | nrm => exact hq.elim | ret => exact hq.elim | ext i => ?_;obtain ⟨rfl,o8414,q8415,he,hp⟩ := hq
      dsimp only at h
      refine Run.clrE (ts := [0,1,2,3,11,12,13,14,15,16,17,18,19,20,21,22,23,24,25,26,27,28,29,30,31,32,33,34,35,36]) (b := i47n22) (Q := (finE none [8] (Q47 L r))) he ?_;refine Rn.g ?_;refine Ro.t 2 ?_;refine Ro.d (mkE [(8,(slv (EI .i64).z (EI .i64).ag (List.length l8413) o8414))] 29) ?_;refine Run.ret ?_;have h := Option.some.inj h; subst h;exact ⟨(slv (EI .i64).z (EI .i64).ag (List.length l8413) o8414),(by kernel_rfl),_,_,(by kernel_rfl),hp⟩
theorem c47 {x0 : (List Int)} {x1 : (List Int)} {x2 : (List Int)} {x3 : (List Int)} {r : (List Int)} (h : F47 x0 x1 x2 x3 = some r) (s : Bool) : Fn T 47 [(Zl (EI .i64) x0),(Zl (EI .i64) x1),(Zl (EI .i64) x2),(Zl (EI .i64) x3)] [] (fun v hh => deep s hh deepN v = some ((EL (EI .i64)).e r)) := by
  refine (w47 h HP.nil).mono ?_;rintro v hh ⟨o0,q0,rfl,hp⟩;exact own_deep (EI .i64) hp 0 rfl s (.inr rfl) 36
abbrev Q40 (L : List Ob) (r : Bool) : V → Heap → Prop := fun v h => v = EB.e r ∧ HP h (L)
abbrev RR40 (L : List Ob) (r : Bool) : List V → Heap → Prop := fun e h => endR none [4] (Q40 L r) e h
abbrev I40_1 (x0 : (List Int)) (x1 : (List Int)) (L : List Ob) : (Int) → List V → Heap → Prop := fun s e h => e = (mkE [(0,(Zl (EI .u8) x0)),(0,(Zl (EI .u8) x1)),(3,(i6 s))] 20) ∧ HP h (L)
abbrev J40_1 (x0 : (List Int)) (x1 : (List Int)) (L : List Ob) : Unit → Nat → List V → Heap → Prop := fun a i e h => i = 0 ∧ clrEnv [0,1,4,5,11,12,13,14,15,16,17,18,19,20,21,22,23,24,25] e = (mkE [] 26) ∧ HP h (L)
def F40_1_b (x0 : (List Int)) (x1 : (List Int)) (y8492 : Int) : Option (Stp (Int) Bool Unit) :=
  if (decide (y8492 < ((List.length x0 : Nat) : Int))) then
    (idx x0 y8492).bind fun y8512 =>
    (idx x1 y8492).bind fun y8514 =>
    if (y8512 != y8514) then
      some (.ret false)
    else
      some (.next ((IntKind.i64.wrap (y8492 + (1 : Int)))))
  else
    some (.go ())
theorem w40_1_b {x0 : (List Int)} {x1 : (List Int)} {y8492 : Int} {t : (Stp (Int) Bool Unit)} (h : F40_1_b x0 x1 y8492 = some t) {H : Heap} {L : List Ob} (hp : HP H (L)) :
    Run T i40n18 (mkE [(0,(Zl (EI .u8) x0)),(0,(Zl (EI .u8) x1)),(3,(i6 y8492))] 20) H (stp [4,11,12,13,14,15,16,17,18,19,20,21,22,23,24,25] (I40_1 x0 x1 L) (RR40 L) (J40_1 x0 x1 L) t) := by
  unfold F40_1_b at h;refine Run.seq ?_;refine Rn.g ?_;refine Ro.t 2 ?_;refine Ro.p (len_fz (EI .u8) x0) ?_;refine Ro.t 1 ?_;refine Ro.d (mkE [(0,(Zl (EI .u8) x0)),(0,(Zl (EI .u8) x1)),(3,(i6 y8492)),(8,(V.bool (decide (y8492 < (ln x0)))))] 11) ?_;rcases tf (decide (y8492 < (ln x0))) with h8506 | h8506
  · rw [ite_t h8506] at h; refine Rn.t h8506 ?_;refine Run.skip ?_;refine Rn.c (mkE [(0,(Zl (EI .u8) x0)),(0,(Zl (EI .u8) x1)),(3,(i6 y8492))] 20) ?_;refine Run.seq ?_;refine Run.block ?_;refine Rn.g ?_;refine Ro.t 2 ?_;obtain ⟨y8512,h8513,h⟩ := bind_some h;refine Ro.p (idx_fz (EI .u8) .i64 h8513) ?_;refine Ro.t 3 ?_;obtain ⟨y8514,h8515,h⟩ := bind_some h;refine Ro.p (idx_fz (EI .u8) .i64 h8515) ?_;refine Ro.t 2 ?_;refine Ro.d (mkE [(0,(Zl (EI .u8) x0)),(0,(Zl (EI .u8) x1)),(3,(i6 y8492)),(19,(V.bool (y8512 != y8514)))] 0) ?_;rcases tf (y8512 != y8514) with h8516 | h8516
    · rw [ite_t h8516] at h; refine Rn.t h8516 ?_;refine Rn.g ?_;refine Ro.t 1 ?_;refine Ro.d (mkE [(4,(V.bool false))] 21) ?_;refine Run.ret ?_;have h := Option.some.inj h; subst h;show RR40 L _ _ _;exact ⟨(V.bool false),(by kernel_rfl),(by kernel_rfl),hp⟩
    · rw [ite_f h8516] at h; refine Rn.f h8516 ?_;refine Run.skip ?_;refine Run.clrE (ts := [4,17,18,19,20,21,22,23,24,25]) (b := (.rgn i40r16)) (Q := (stp [4,11,12,13,14,15,16,17,18,19,20,21,22,23,24,25] (I40_1 x0 x1 L) (RR40 L) (J40_1 x0 x1 L) t)) (e' := (mkE [(0,(Zl (EI .u8) x0)),(0,(Zl (EI .u8) x1)),(3,(i6 y8492))] 20)) (by kernel_rfl) ?_;refine Run.rgn ?_;refine Ro.t 3 ?_;refine RunO.nil ?_;have h := Option.some.inj h; subst h;show I40_1 x0 x1 L _ _ _;exact ⟨(by kernel_rfl),hp⟩
  · rw [ite_f h8506] at h; refine Rn.f h8506 ?_;refine Run.exit ?_;have h := Option.some.inj h; subst h;show J40_1 x0 x1 L () _ _ _;exact ⟨rfl,(by kernel_rfl),hp⟩
def F40 (x0 : (List Int)) (x1 : (List Int)) : Option Bool :=
  if (((List.length x0 : Nat) : Int) != ((List.length x1 : Nat) : Int)) then
    some false
  else
    (iter (fun s : (Int) => F40_1_b x0 x1 s) FUEL ((0 : Int))).bind fun o => match o with
    | .ret r => some r
    | .go () =>
      some true
theorem w40 {x0 : (List Int)} {x1 : (List Int)} {r : Bool} (h : F40 x0 x1 = some r) {H : Heap} {L : List Ob} (hp : HP H (L)) : Fn T 40 [(Zl (EI .u8) x0),(Zl (EI .u8) x1)] H (Q40 L r) := by
  refine Fn.enterE t40 (e0 := (mkE [(0,(Zl (EI .u8) x0)),(0,(Zl (EI .u8) x1))] 24)) (by kernel_rfl) ?_;show Run T (.clr [] i40n26) _ _ (finE none [4] (Q40 L r));refine Rn.k (mkE [(0,(Zl (EI .u8) x0)),(0,(Zl (EI .u8) x1))] 24) ?_;unfold F40 at h;refine Rn.g ?_;refine Ro.t 1 ?_;refine Ro.d (mkE [(0,(Zl (EI .u8) x0)),(0,(Zl (EI .u8) x1))] 24) ?_;refine Run.seq ?_;refine Rn.g ?_;refine Ro.t 1 ?_;refine Ro.p (len_fz (EI .u8) x0) ?_;refine Ro.t 1 ?_;refine Ro.p (len_fz (EI .u8) x1) ?_;refine Ro.t 1 ?_;refine Ro.d (mkE [(0,(Zl (EI .u8) x0)),(0,(Zl (EI .u8) x1)),(8,(V.bool ((ln x0) != (ln x1))))] 15) ?_;rcases tf ((ln x0) != (ln x1)) with h8479 | h8479
  · rw [ite_t h8479] at h; refine Rn.t h8479 ?_;refine Rn.g ?_;refine Ro.t 1 ?_;refine Ro.d (mkE [(4,(V.bool false))] 21) ?_;refine Run.ret ?_;have h := Option.some.inj h; subst h;exact ⟨(V.bool false),(by kernel_rfl),(by kernel_rfl),hp⟩
  · rw [ite_f h8479] at h; refine Rn.f h8479 ?_;refine Run.skip ?_;refine Rn.c (mkE [(0,(Zl (EI .u8) x0)),(0,(Zl (EI .u8) x1))] 24) ?_;refine Run.seq ?_;refine Rn.g ?_;refine Ro.t 1 ?_;refine Ro.d (mkE [(0,(Zl (EI .u8) x0)),(0,(Zl (EI .u8) x1)),(3,(i6 (0 : Int)))] 20) ?_;refine Run.block ?_;obtain ⟨o,h8517,h⟩ := bind_some h;refine (Run.iter (I := I40_1 x0 x1 L) (RR := RR40 L) (J := J40_1 x0 x1 L) (fun s e h' t hI hf => ?_) FUEL h8517 (by exact ⟨(by kernel_rfl),hp⟩)).mono ?_
    · obtain ⟨rfl,hp⟩ := hI; exact w40_1_b hf hp
    · rintro X e' H hq;cases o with
      | ret r => cases X <;> first | exact hq.elim | (cases h; exact hq)
      | go a =>
        cases X with | nrm => exact hq.elim | ret => exact hq.elim | ext i => ?_;obtain ⟨rfl,he,hp⟩ := hq
        dsimp only at h
        refine Run.clrE (ts := [0,1,4,5,11,12,13,14,15,16,17,18,19,20,21,22,23,24,25]) (b := i40n23) (Q := (finE none [4] (Q40 L r))) he ?_;refine Rn.g ?_;refine Ro.t 1 ?_;refine Ro.d (mkE [(4,(V.bool true))] 21) ?_;refine Run.ret ?_;have h := Option.some.inj h; subst h;exact ⟨(V.bool true),(by kernel_rfl),(by kernel_rfl),hp⟩
theorem c40 {x0 : (List Int)} {x1 : (List Int)} {r : Bool} (h : F40 x0 x1 = some r) (s : Bool) : Fn T 40 [(Zl (EI .u8) x0),(Zl (EI .u8) x1)] [] (fun v hh => deep s hh deepN v = some (EB.e r)) := by
  refine (w40 h HP.nil).mono ?_;rintro v hh ⟨rfl,hp⟩;exact EB.hd s hh 38 _ (.inr rfl)
abbrev Q41 (L : List Ob) (r : Bool) : V → Heap → Prop := fun v h => v = EB.e r ∧ HP h (L)
abbrev RR41 (L : List Ob) (r : Bool) : List V → Heap → Prop := fun e h => endR none [4] (Q41 L r) e h
abbrev I41_1 (x0 : (List T_Array)) (x1 : (List T_Array)) (L : List Ob) : (Int) → List V → Heap → Prop := fun s e h => e = (mkE [(0,(Zl E_Array x0)),(0,(Zl E_Array x1)),(3,(i6 s))] 20) ∧ HP h (L)
abbrev J41_1 (x0 : (List T_Array)) (x1 : (List T_Array)) (L : List Ob) : Unit → Nat → List V → Heap → Prop := fun a i e h => i = 0 ∧ clrEnv [0,1,4,5,11,12,13,14,15,16,17,18,19,20,21,22,23,24,25] e = (mkE [] 26) ∧ HP h (L)
def F41_1_b (x0 : (List T_Array)) (x1 : (List T_Array)) (y8562 : Int) : Option (Stp (Int) Bool Unit) :=
  if (decide (y8562 < ((List.length x0 : Nat) : Int))) then
    (idx x0 y8562).bind fun y8582 =>
    (idx x1 y8562).bind fun y8584 =>
    if (!(decide (y8582 = y8584))) then
      some (.ret false)
    else
      some (.next ((IntKind.i64.wrap (y8562 + (1 : Int)))))
  else
    some (.go ())
theorem w41_1_b {x0 : (List T_Array)} {x1 : (List T_Array)} {y8562 : Int} {t : (Stp (Int) Bool Unit)} (h : F41_1_b x0 x1 y8562 = some t) {H : Heap} {L : List Ob} (hp : HP H (L)) :
    Run T i41n18 (mkE [(0,(Zl E_Array x0)),(0,(Zl E_Array x1)),(3,(i6 y8562))] 20) H (stp [4,11,12,13,14,15,16,17,18,19,20,21,22,23,24,25] (I41_1 x0 x1 L) (RR41 L) (J41_1 x0 x1 L) t) := by
  unfold F41_1_b at h;refine Run.seq ?_;refine Rn.g ?_;refine Ro.t 2 ?_;refine Ro.p (len_fz E_Array x0) ?_;refine Ro.t 1 ?_;refine Ro.d (mkE [(0,(Zl E_Array x0)),(0,(Zl E_Array x1)),(3,(i6 y8562)),(8,(V.bool (decide (y8562 < (ln x0)))))] 11) ?_;rcases tf (decide (y8562 < (ln x0))) with h8576 | h8576
  · rw [ite_t h8576] at h; refine Rn.t h8576 ?_;refine Run.skip ?_;refine Rn.c (mkE [(0,(Zl E_Array x0)),(0,(Zl E_Array x1)),(3,(i6 y8562))] 20) ?_;refine Run.seq ?_;refine Run.block ?_;refine Rn.g ?_;refine Ro.t 2 ?_;obtain ⟨y8582,h8583,h⟩ := bind_some h;refine Ro.p (idx_fz E_Array .i64 h8583) ?_;refine Ro.t 3 ?_;obtain ⟨y8584,h8585,h⟩ := bind_some h;refine Ro.p (idx_fz E_Array .i64 h8585) ?_;refine Ro.t 1 ?_;refine Ro.p (eqs_Array true y8582 y8584) ?_;refine Ro.d (mkE [(0,(Zl E_Array x0)),(0,(Zl E_Array x1)),(3,(i6 y8562)),(19,(V.bool (!(decide (y8582 = y8584)))))] 0) ?_;rcases tf (!(decide (y8582 = y8584))) with h8586 | h8586
    · rw [ite_t h8586] at h; refine Rn.t h8586 ?_;refine Rn.g ?_;refine Ro.t 1 ?_;refine Ro.d (mkE [(4,(V.bool false))] 21) ?_;refine Run.ret ?_;have h := Option.some.inj h; subst h;show RR41 L _ _ _;exact ⟨(V.bool false),(by kernel_rfl),(by kernel_rfl),hp⟩
    · rw [ite_f h8586] at h; refine Rn.f h8586 ?_;refine Run.skip ?_;refine Run.clrE (ts := [4,17,18,19,20,21,22,23,24,25]) (b := (.rgn i41r16)) (Q := (stp [4,11,12,13,14,15,16,17,18,19,20,21,22,23,24,25] (I41_1 x0 x1 L) (RR41 L) (J41_1 x0 x1 L) t)) (e' := (mkE [(0,(Zl E_Array x0)),(0,(Zl E_Array x1)),(3,(i6 y8562))] 20)) (by kernel_rfl) ?_;refine Run.rgn ?_;refine Ro.t 3 ?_;refine RunO.nil ?_;have h := Option.some.inj h; subst h;show I41_1 x0 x1 L _ _ _;exact ⟨(by kernel_rfl),hp⟩
  · rw [ite_f h8576] at h; refine Rn.f h8576 ?_;refine Run.exit ?_;have h := Option.some.inj h; subst h;show J41_1 x0 x1 L () _ _ _;exact ⟨rfl,(by kernel_rfl),hp⟩
def F41 (x0 : (List T_Array)) (x1 : (List T_Array)) : Option Bool :=
  if (((List.length x0 : Nat) : Int) != ((List.length x1 : Nat) : Int)) then
    some false
  else
    (iter (fun s : (Int) => F41_1_b x0 x1 s) FUEL ((0 : Int))).bind fun o => match o with
    | .ret r => some r
    | .go () =>
      some true
theorem w41 {x0 : (List T_Array)} {x1 : (List T_Array)} {r : Bool} (h : F41 x0 x1 = some r) {H : Heap} {L : List Ob} (hp : HP H (L)) : Fn T 41 [(Zl E_Array x0),(Zl E_Array x1)] H (Q41 L r) := by
  refine Fn.enterE t41 (e0 := (mkE [(0,(Zl E_Array x0)),(0,(Zl E_Array x1))] 24)) (by kernel_rfl) ?_;show Run T (.clr [] i41n26) _ _ (finE none [4] (Q41 L r));refine Rn.k (mkE [(0,(Zl E_Array x0)),(0,(Zl E_Array x1))] 24) ?_;unfold F41 at h;refine Rn.g ?_;refine Ro.t 1 ?_;refine Ro.d (mkE [(0,(Zl E_Array x0)),(0,(Zl E_Array x1))] 24) ?_;refine Run.seq ?_;refine Rn.g ?_;refine Ro.t 1 ?_;refine Ro.p (len_fz E_Array x0) ?_;refine Ro.t 1 ?_;refine Ro.p (len_fz E_Array x1) ?_;refine Ro.t 1 ?_;refine Ro.d (mkE [(0,(Zl E_Array x0)),(0,(Zl E_Array x1)),(8,(V.bool ((ln x0) != (ln x1))))] 15) ?_;rcases tf ((ln x0) != (ln x1)) with h8549 | h8549
  · rw [ite_t h8549] at h; refine Rn.t h8549 ?_;refine Rn.g ?_;refine Ro.t 1 ?_;refine Ro.d (mkE [(4,(V.bool false))] 21) ?_;refine Run.ret ?_;have h := Option.some.inj h; subst h;exact ⟨(V.bool false),(by kernel_rfl),(by kernel_rfl),hp⟩
  · rw [ite_f h8549] at h; refine Rn.f h8549 ?_;refine Run.skip ?_;refine Rn.c (mkE [(0,(Zl E_Array x0)),(0,(Zl E_Array x1))] 24) ?_;refine Run.seq ?_;refine Rn.g ?_;refine Ro.t 1 ?_;refine Ro.d (mkE [(0,(Zl E_Array x0)),(0,(Zl E_Array x1)),(3,(i6 (0 : Int)))] 20) ?_;refine Run.block ?_;obtain ⟨o,h8587,h⟩ := bind_some h;refine (Run.iter (I := I41_1 x0 x1 L) (RR := RR41 L) (J := J41_1 x0 x1 L) (fun s e h' t hI hf => ?_) FUEL h8587 (by exact ⟨(by kernel_rfl),hp⟩)).mono ?_
    · obtain ⟨rfl,hp⟩ := hI; exact w41_1_b hf hp
    · rintro X e' H hq;cases o with
      | ret r => cases X <;> first | exact hq.elim | (cases h; exact hq)
      | go a =>
        cases X with | nrm => exact hq.elim | ret => exact hq.elim | ext i => ?_;obtain ⟨rfl,he,hp⟩ := hq
        dsimp only at h
        refine Run.clrE (ts := [0,1,4,5,11,12,13,14,15,16,17,18,19,20,21,22,23,24,25]) (b := i41n23) (Q := (finE none [4] (Q41 L r))) he ?_;refine Rn.g ?_;refine Ro.t 1 ?_;refine Ro.d (mkE [(4,(V.bool true))] 21) ?_;refine Run.ret ?_;have h := Option.some.inj h; subst h;exact ⟨(V.bool true),(by kernel_rfl),(by kernel_rfl),hp⟩
theorem c41 {x0 : (List T_Array)} {x1 : (List T_Array)} {r : Bool} (h : F41 x0 x1 = some r) (s : Bool) : Fn T 41 [(Zl E_Array x0),(Zl E_Array x1)] [] (fun v hh => deep s hh deepN v = some (EB.e r)) := by
  refine (w41 h HP.nil).mono ?_;rintro v hh ⟨rfl,hp⟩;exact EB.hd s hh 38 _ (.inr rfl)
abbrev Q97 (L : List Ob) (r : Bool) : V → Heap → Prop := fun v h => v = EB.e r ∧ HP h (L)
abbrev RR97 (L : List Ob) (r : Bool) : List V → Heap → Prop := fun e h => endR none [4] (Q97 L r) e h
def F97 (x0 : T_Ins) (x1 : T_Ins) : Option Bool :=
  if (x0.fKind == x1.fKind) then
    if (x0.fOp == x1.fOp) then
      if (x0.fDst == x1.fDst) then
        (F17 x0.fArgs x1.fArgs).bind fun y8617 =>
        if y8617 then
          if (x0.fBits == x1.fBits) then
            some (x0.fRef == x1.fRef)
          else
            some false
        else
          some false
      else
        some false
    else
      some false
  else
    some false
theorem w97 {x0 : T_Ins} {x1 : T_Ins} {r : Bool} (h : F97 x0 x1 = some r) {H : Heap} {L : List Ob} (hp : HP H (L)) : Fn T 97 [(E_Ins.e x0),(E_Ins.e x1)] H (Q97 L r) := by
  refine Fn.enterE t97 (e0 := (mkE [(0,(E_Ins.e x0)),(0,(E_Ins.e x1))] 43)) (by kernel_rfl) ?_;show Run T (.clr [] i97n3) _ _ (finE none [4] (Q97 L r));refine Rn.k (mkE [(0,(E_Ins.e x0)),(0,(E_Ins.e x1))] 43) ?_;unfold F97 at h;refine Rn.g ?_;refine Ro.t 3 ?_;refine Ro.d (mkE [(2,(V.fp (E_Ins.e x0))),(0,(V.fp (E_Ins.e x1)))] 41) ?_;refine Rn.g ?_;refine Ro.t 4 ?_;rcases tf (x0.fKind == x1.fKind) with h8614 | h8614
  · rw [ite_t h8614] at h; refine Ro.p (bool_of h8614) ?_;refine Ro.t 5 ?_;rcases tf (x0.fOp == x1.fOp) with h8615 | h8615
    · rw [ite_t h8615] at h; refine Ro.p (bool_of h8615) ?_;refine Ro.t 6 ?_;rcases tf (x0.fDst == x1.fDst) with h8616 | h8616
      · rw [ite_t h8616] at h; refine Ro.p (bool_of h8616) ?_;refine Ro.t 6 ?_;obtain ⟨y8617,h8618,h⟩ := bind_some h;rcases tf y8617 with h8619 | h8619
        · subst h8619; rw [if_pos rfl] at h;refine RunO.c1 (by kernel_rfl) (by kernel_rfl) (c17 h8618 _) ?_;refine Ro.t 6 ?_;rcases tf (x0.fBits == x1.fBits) with h8620 | h8620
          · rw [ite_t h8620] at h; refine Ro.p (bool_of h8620) ?_;refine Ro.t 9 ?_;refine Ro.d (mkE [(4,(V.bool (x0.fRef == x1.fRef)))] 40) ?_;refine Run.ret ?_;have h := Option.some.inj h; subst h;exact ⟨(V.bool (x0.fRef == x1.fRef)),(by kernel_rfl),(by kernel_rfl),hp⟩
          · rw [ite_f h8620] at h; refine Ro.p (bool_of h8620) ?_;refine Ro.t 9 ?_;refine Ro.d (mkE [(4,(V.bool false))] 40) ?_;refine Run.ret ?_;have h := Option.some.inj h; subst h;exact ⟨(V.bool false),(by kernel_rfl),(by kernel_rfl),hp⟩
        · subst h8619; rw [if_neg (by decide)] at h;refine RunO.c1 (by kernel_rfl) (by kernel_rfl) (c17 h8618 _) ?_;refine Ro.t 16 ?_;refine Ro.d (mkE [(4,(V.bool false))] 40) ?_;refine Run.ret ?_;have h := Option.some.inj h; subst h;exact ⟨(V.bool false),(by kernel_rfl),(by kernel_rfl),hp⟩
      · rw [ite_f h8616] at h; refine Ro.p (bool_of h8616) ?_;refine Ro.t 23 ?_;refine Ro.d (mkE [(4,(V.bool false))] 40) ?_;refine Run.ret ?_;have h := Option.some.inj h; subst h;exact ⟨(V.bool false),(by kernel_rfl),(by kernel_rfl),hp⟩
    · rw [ite_f h8615] at h; refine Ro.p (bool_of h8615) ?_;refine Ro.t 30 ?_;refine Ro.d (mkE [(4,(V.bool false))] 40) ?_;refine Run.ret ?_;have h := Option.some.inj h; subst h;exact ⟨(V.bool false),(by kernel_rfl),(by kernel_rfl),hp⟩
  · rw [ite_f h8614] at h; refine Ro.p (bool_of h8614) ?_;refine Ro.t 36 ?_;refine Ro.d (mkE [(4,(V.bool false))] 40) ?_;refine Run.ret ?_;have h := Option.some.inj h; subst h;exact ⟨(V.bool false),(by kernel_rfl),(by kernel_rfl),hp⟩
theorem c97 {x0 : T_Ins} {x1 : T_Ins} {r : Bool} (h : F97 x0 x1 = some r) (s : Bool) : Fn T 97 [(E_Ins.e x0),(E_Ins.e x1)] [] (fun v hh => deep s hh deepN v = some (EB.e r)) := by
  refine (w97 h HP.nil).mono ?_;rintro v hh ⟨rfl,hp⟩;exact EB.hd s hh 38 _ (.inr rfl)
abbrev Q87 (L : List Ob) (r : Bool) : V → Heap → Prop := fun v h => v = EB.e r ∧ HP h (L)
abbrev RR87 (L : List Ob) (r : Bool) : List V → Heap → Prop := fun e h => endR none [4] (Q87 L r) e h
abbrev I87_1 (x0 : (List T_Ins)) (x1 : (List T_Ins)) (L : List Ob) : (Int) → List V → Heap → Prop := fun s e h => e = (mkE [(0,(Zl E_Ins x0)),(0,(Zl E_Ins x1)),(3,(i6 s))] 21) ∧ HP h (L)
abbrev J87_1 (x0 : (List T_Ins)) (x1 : (List T_Ins)) (L : List Ob) : Unit → Nat → List V → Heap → Prop := fun a i e h => i = 0 ∧ clrEnv [0,1,4,5,11,12,13,14,15,16,17,18,19,20,21,22,23,24,25,26] e = (mkE [] 27) ∧ HP h (L)
def F87_1_b (x0 : (List T_Ins)) (x1 : (List T_Ins)) (y8666 : Int) : Option (Stp (Int) Bool Unit) :=
  if (decide (y8666 < ((List.length x0 : Nat) : Int))) then
    (idx x0 y8666).bind fun y8692 =>
    (idx x1 y8666).bind fun y8694 =>
    (F97 y8692 y8694).bind fun y8696 =>
    if (!y8696) then
      some (.ret false)
    else
      some (.next ((IntKind.i64.wrap (y8666 + (1 : Int)))))
  else
    some (.go ())
theorem w87_1_b {x0 : (List T_Ins)} {x1 : (List T_Ins)} {y8666 : Int} {t : (Stp (Int) Bool Unit)} (h : F87_1_b x0 x1 y8666 = some t) {H : Heap} {L : List Ob} (hp : HP H (L)) :
    Run T i87n18 (mkE [(0,(Zl E_Ins x0)),(0,(Zl E_Ins x1)),(3,(i6 y8666))] 21) H (stp [4,11,12,13,14,15,16,17,18,19,20,21,22,23,24,25,26] (I87_1 x0 x1 L) (RR87 L) (J87_1 x0 x1 L) t) := by
  unfold F87_1_b at h;refine Run.seq ?_;refine Rn.g ?_;refine Ro.t 2 ?_;refine Ro.p (len_fz E_Ins x0) ?_;refine Ro.t 1 ?_;refine Ro.d (mkE [(0,(Zl E_Ins x0)),(0,(Zl E_Ins x1)),(3,(i6 y8666)),(8,(V.bool (decide (y8666 < (ln x0)))))] 12) ?_;rcases tf (decide (y8666 < (ln x0))) with h8684 | h8684
  · rw [ite_t h8684] at h; refine Rn.t h8684 ?_;refine Run.skip ?_;refine Rn.c (mkE [(0,(Zl E_Ins x0)),(0,(Zl E_Ins x1)),(3,(i6 y8666))] 21) ?_;refine Run.seq ?_;refine Run.block ?_;refine Rn.g ?_;refine Ro.t 2 ?_;obtain ⟨y8692,h8693,h⟩ := bind_some h;refine Ro.p (idx_fz E_Ins .i64 h8693) ?_;refine Ro.t 3 ?_;obtain ⟨y8694,h8695,h⟩ := bind_some h;refine Ro.p (idx_fz E_Ins .i64 h8695) ?_;refine Ro.t 1 ?_;obtain ⟨y8696,h8697,h⟩ := bind_some h;refine RunO.c1 (by kernel_rfl) (by kernel_rfl) (c97 h8697 _) ?_;refine Ro.t 1 ?_;refine Ro.d (mkE [(0,(Zl E_Ins x0)),(0,(Zl E_Ins x1)),(3,(i6 y8666)),(20,(V.bool (!y8696)))] 0) ?_;rcases tf (!y8696) with h8698 | h8698
    · rw [ite_t h8698] at h; refine Rn.t h8698 ?_;refine Rn.g ?_;refine Ro.t 1 ?_;refine Ro.d (mkE [(4,(V.bool false))] 22) ?_;refine Run.ret ?_;have h := Option.some.inj h; subst h;show RR87 L _ _ _;exact ⟨(V.bool false),(by kernel_rfl),(by kernel_rfl),hp⟩
    · rw [ite_f h8698] at h; refine Rn.f h8698 ?_;refine Run.skip ?_;refine Run.clrE (ts := [4,17,18,19,20,21,22,23,24,25,26]) (b := (.rgn i87r16)) (Q := (stp [4,11,12,13,14,15,16,17,18,19,20,21,22,23,24,25,26] (I87_1 x0 x1 L) (RR87 L) (J87_1 x0 x1 L) t)) (e' := (mkE [(0,(Zl E_Ins x0)),(0,(Zl E_Ins x1)),(3,(i6 y8666))] 21)) (by kernel_rfl) ?_;refine Run.rgn ?_;refine Ro.t 3 ?_;refine RunO.nil ?_;have h := Option.some.inj h; subst h;show I87_1 x0 x1 L _ _ _;exact ⟨(by kernel_rfl),hp⟩
  · rw [ite_f h8684] at h; refine Rn.f h8684 ?_;refine Run.exit ?_;have h := Option.some.inj h; subst h;show J87_1 x0 x1 L () _ _ _;exact ⟨rfl,(by kernel_rfl),hp⟩
def F87 (x0 : (List T_Ins)) (x1 : (List T_Ins)) : Option Bool :=
  if (((List.length x0 : Nat) : Int) != ((List.length x1 : Nat) : Int)) then
    some false
  else
    (iter (fun s : (Int) => F87_1_b x0 x1 s) FUEL ((0 : Int))).bind fun o => match o with
    | .ret r => some r
    | .go () =>
      some true
theorem w87 {x0 : (List T_Ins)} {x1 : (List T_Ins)} {r : Bool} (h : F87 x0 x1 = some r) {H : Heap} {L : List Ob} (hp : HP H (L)) : Fn T 87 [(Zl E_Ins x0),(Zl E_Ins x1)] H (Q87 L r) := by
  refine Fn.enterE t87 (e0 := (mkE [(0,(Zl E_Ins x0)),(0,(Zl E_Ins x1))] 25)) (by kernel_rfl) ?_;show Run T (.clr [] i87n26) _ _ (finE none [4] (Q87 L r));refine Rn.k (mkE [(0,(Zl E_Ins x0)),(0,(Zl E_Ins x1))] 25) ?_;unfold F87 at h;refine Rn.g ?_;refine Ro.t 1 ?_;refine Ro.d (mkE [(0,(Zl E_Ins x0)),(0,(Zl E_Ins x1))] 25) ?_;refine Run.seq ?_;refine Rn.g ?_;refine Ro.t 1 ?_;refine Ro.p (len_fz E_Ins x0) ?_;refine Ro.t 1 ?_;refine Ro.p (len_fz E_Ins x1) ?_;refine Ro.t 1 ?_;refine Ro.d (mkE [(0,(Zl E_Ins x0)),(0,(Zl E_Ins x1)),(8,(V.bool ((ln x0) != (ln x1))))] 16) ?_;rcases tf ((ln x0) != (ln x1)) with h8649 | h8649
  · rw [ite_t h8649] at h; refine Rn.t h8649 ?_;refine Rn.g ?_;refine Ro.t 1 ?_;refine Ro.d (mkE [(4,(V.bool false))] 22) ?_;refine Run.ret ?_;have h := Option.some.inj h; subst h;exact ⟨(V.bool false),(by kernel_rfl),(by kernel_rfl),hp⟩
  · rw [ite_f h8649] at h; refine Rn.f h8649 ?_;refine Run.skip ?_;refine Rn.c (mkE [(0,(Zl E_Ins x0)),(0,(Zl E_Ins x1))] 25) ?_;refine Run.seq ?_;refine Rn.g ?_;refine Ro.t 1 ?_;refine Ro.d (mkE [(0,(Zl E_Ins x0)),(0,(Zl E_Ins x1)),(3,(i6 (0 : Int)))] 21) ?_;refine Run.block ?_;obtain ⟨o,h8699,h⟩ := bind_some h;refine (Run.iter (I := I87_1 x0 x1 L) (RR := RR87 L) (J := J87_1 x0 x1 L) (fun s e h' t hI hf => ?_) FUEL h8699 (by exact ⟨(by kernel_rfl),hp⟩)).mono ?_
    · obtain ⟨rfl,hp⟩ := hI; exact w87_1_b hf hp
    · rintro X e' H hq;cases o with
      | ret r => cases X <;> first | exact hq.elim | (cases h; exact hq)
      | go a =>
        cases X with | nrm => exact hq.elim | ret => exact hq.elim | ext i => ?_;obtain ⟨rfl,he,hp⟩ := hq
        dsimp only at h
        refine Run.clrE (ts := [0,1,4,5,11,12,13,14,15,16,17,18,19,20,21,22,23,24,25,26]) (b := i87n23) (Q := (finE none [4] (Q87 L r))) he ?_;refine Rn.g ?_;refine Ro.t 1 ?_;refine Ro.d (mkE [(4,(V.bool true))] 22) ?_;refine Run.ret ?_;have h := Option.some.inj h; subst h;exact ⟨(V.bool true),(by kernel_rfl),(by kernel_rfl),hp⟩
theorem c87 {x0 : (List T_Ins)} {x1 : (List T_Ins)} {r : Bool} (h : F87 x0 x1 = some r) (s : Bool) : Fn T 87 [(Zl E_Ins x0),(Zl E_Ins x1)] [] (fun v hh => deep s hh deepN v = some (EB.e r)) := by
  refine (w87 h HP.nil).mono ?_;rintro v hh ⟨rfl,hp⟩;exact EB.hd s hh 38 _ (.inr rfl)
abbrev Q64 (L : List Ob) (r : Bool) : V → Heap → Prop := fun v h => v = EB.e r ∧ HP h (L)
abbrev RR64 (L : List Ob) (r : Bool) : List V → Heap → Prop := fun e h => endR none [4] (Q64 L r) e h
def F64 (x0 : T_Block) (x1 : T_Block) : Option Bool :=
  (F87 x0.fIns x1.fIns).bind fun y8703 =>
  if y8703 then
    some (decide (x0.fTerm = x1.fTerm))
  else
    some false
theorem w64 {x0 : T_Block} {x1 : T_Block} {r : Bool} (h : F64 x0 x1 = some r) {H : Heap} {L : List Ob} (hp : HP H (L)) : Fn T 64 [(E_Block.e x0),(E_Block.e x1)] H (Q64 L r) := by
  refine Fn.enterE t64 (e0 := (mkE [(0,(E_Block.e x0)),(0,(E_Block.e x1))] 15)) (by kernel_rfl) ?_;show Run T (.clr [] i64n3) _ _ (finE none [4] (Q64 L r));refine Rn.k (mkE [(0,(E_Block.e x0)),(0,(E_Block.e x1))] 15) ?_;unfold F64 at h;refine Rn.g ?_;refine Ro.t 3 ?_;refine Ro.d (mkE [(2,(V.fp (E_Block.e x0))),(0,(V.fp (E_Block.e x1)))] 13) ?_;refine Rn.g ?_;refine Ro.t 4 ?_;obtain ⟨y8703,h8704,h⟩ := bind_some h;rcases tf y8703 with h8705 | h8705
  · subst h8705; rw [if_pos rfl] at h;refine RunO.c1 (by kernel_rfl) (by kernel_rfl) (c87 h8704 _) ?_;refine Ro.t 5 ?_;refine Ro.p (eqs_Term false x0.fTerm x1.fTerm) ?_;refine Ro.t 2 ?_;refine Ro.d (mkE [(4,(V.bool (decide (x0.fTerm = x1.fTerm))))] 12) ?_;refine Run.ret ?_;have h := Option.some.inj h; subst h;exact ⟨(V.bool (decide (x0.fTerm = x1.fTerm))),(by kernel_rfl),(by kernel_rfl),hp⟩
  · subst h8705; rw [if_neg (by decide)] at h;refine RunO.c1 (by kernel_rfl) (by kernel_rfl) (c87 h8704 _) ?_;refine Ro.t 8 ?_;refine Ro.d (mkE [(4,(V.bool false))] 12) ?_;refine Run.ret ?_;have h := Option.some.inj h; subst h;exact ⟨(V.bool false),(by kernel_rfl),(by kernel_rfl),hp⟩
theorem c64 {x0 : T_Block} {x1 : T_Block} {r : Bool} (h : F64 x0 x1 = some r) (s : Bool) : Fn T 64 [(E_Block.e x0),(E_Block.e x1)] [] (fun v hh => deep s hh deepN v = some (EB.e r)) := by
  refine (w64 h HP.nil).mono ?_;rintro v hh ⟨rfl,hp⟩;exact EB.hd s hh 38 _ (.inr rfl)
abbrev Q42 (L : List Ob) (r : Bool) : V → Heap → Prop := fun v h => v = EB.e r ∧ HP h (L)
abbrev RR42 (L : List Ob) (r : Bool) : List V → Heap → Prop := fun e h => endR none [4] (Q42 L r) e h
abbrev I42_1 (x0 : (List T_Block)) (x1 : (List T_Block)) (L : List Ob) : (Int) → List V → Heap → Prop := fun s e h => e = (mkE [(0,(Zl E_Block x0)),(0,(Zl E_Block x1)),(3,(i6 s))] 21) ∧ HP h (L)
abbrev J42_1 (x0 : (List T_Block)) (x1 : (List T_Block)) (L : List Ob) : Unit → Nat → List V → Heap → Prop := fun a i e h => i = 0 ∧ clrEnv [0,1,4,5,11,12,13,14,15,16,17,18,19,20,21,22,23,24,25,26] e = (mkE [] 27) ∧ HP h (L)
def F42_1_b (x0 : (List T_Block)) (x1 : (List T_Block)) (y8751 : Int) : Option (Stp (Int) Bool Unit) :=
  if (decide (y8751 < ((List.length x0 : Nat) : Int))) then
    (idx x0 y8751).bind fun y8777 =>
    (idx x1 y8751).bind fun y8779 =>
    (F64 y8777 y8779).bind fun y8781 =>
    if (!y8781) then
      some (.ret false)
    else
      some (.next ((IntKind.i64.wrap (y8751 + (1 : Int)))))
  else
    some (.go ())
theorem w42_1_b {x0 : (List T_Block)} {x1 : (List T_Block)} {y8751 : Int} {t : (Stp (Int) Bool Unit)} (h : F42_1_b x0 x1 y8751 = some t) {H : Heap} {L : List Ob} (hp : HP H (L)) :
    Run T i42n18 (mkE [(0,(Zl E_Block x0)),(0,(Zl E_Block x1)),(3,(i6 y8751))] 21) H (stp [4,11,12,13,14,15,16,17,18,19,20,21,22,23,24,25,26] (I42_1 x0 x1 L) (RR42 L) (J42_1 x0 x1 L) t) := by
  unfold F42_1_b at h;refine Run.seq ?_;refine Rn.g ?_;refine Ro.t 2 ?_;refine Ro.p (len_fz E_Block x0) ?_;refine Ro.t 1 ?_;refine Ro.d (mkE [(0,(Zl E_Block x0)),(0,(Zl E_Block x1)),(3,(i6 y8751)),(8,(V.bool (decide (y8751 < (ln x0)))))] 12) ?_;rcases tf (decide (y8751 < (ln x0))) with h8769 | h8769
  · rw [ite_t h8769] at h; refine Rn.t h8769 ?_;refine Run.skip ?_;refine Rn.c (mkE [(0,(Zl E_Block x0)),(0,(Zl E_Block x1)),(3,(i6 y8751))] 21) ?_;refine Run.seq ?_;refine Run.block ?_;refine Rn.g ?_;refine Ro.t 2 ?_;obtain ⟨y8777,h8778,h⟩ := bind_some h;refine Ro.p (idx_fz E_Block .i64 h8778) ?_;refine Ro.t 3 ?_;obtain ⟨y8779,h8780,h⟩ := bind_some h;refine Ro.p (idx_fz E_Block .i64 h8780) ?_;refine Ro.t 1 ?_;obtain ⟨y8781,h8782,h⟩ := bind_some h;refine RunO.c1 (by kernel_rfl) (by kernel_rfl) (c64 h8782 _) ?_;refine Ro.t 1 ?_;refine Ro.d (mkE [(0,(Zl E_Block x0)),(0,(Zl E_Block x1)),(3,(i6 y8751)),(20,(V.bool (!y8781)))] 0) ?_;rcases tf (!y8781) with h8783 | h8783
    · rw [ite_t h8783] at h; refine Rn.t h8783 ?_;refine Rn.g ?_;refine Ro.t 1 ?_;refine Ro.d (mkE [(4,(V.bool false))] 22) ?_;refine Run.ret ?_;have h := Option.some.inj h; subst h;show RR42 L _ _ _;exact ⟨(V.bool false),(by kernel_rfl),(by kernel_rfl),hp⟩
    · rw [ite_f h8783] at h; refine Rn.f h8783 ?_;refine Run.skip ?_;refine Run.clrE (ts := [4,17,18,19,20,21,22,23,24,25,26]) (b := (.rgn i42r16)) (Q := (stp [4,11,12,13,14,15,16,17,18,19,20,21,22,23,24,25,26] (I42_1 x0 x1 L) (RR42 L) (J42_1 x0 x1 L) t)) (e' := (mkE [(0,(Zl E_Block x0)),(0,(Zl E_Block x1)),(3,(i6 y8751))] 21)) (by kernel_rfl) ?_;refine Run.rgn ?_;refine Ro.t 3 ?_;refine RunO.nil ?_;have h := Option.some.inj h; subst h;show I42_1 x0 x1 L _ _ _;exact ⟨(by kernel_rfl),hp⟩
  · rw [ite_f h8769] at h; refine Rn.f h8769 ?_;refine Run.exit ?_;have h := Option.some.inj h; subst h;show J42_1 x0 x1 L () _ _ _;exact ⟨rfl,(by kernel_rfl),hp⟩
def F42 (x0 : (List T_Block)) (x1 : (List T_Block)) : Option Bool :=
  if (((List.length x0 : Nat) : Int) != ((List.length x1 : Nat) : Int)) then
    some false
  else
    (iter (fun s : (Int) => F42_1_b x0 x1 s) FUEL ((0 : Int))).bind fun o => match o with
    | .ret r => some r
    | .go () =>
      some true
theorem w42 {x0 : (List T_Block)} {x1 : (List T_Block)} {r : Bool} (h : F42 x0 x1 = some r) {H : Heap} {L : List Ob} (hp : HP H (L)) : Fn T 42 [(Zl E_Block x0),(Zl E_Block x1)] H (Q42 L r) := by
  refine Fn.enterE t42 (e0 := (mkE [(0,(Zl E_Block x0)),(0,(Zl E_Block x1))] 25)) (by kernel_rfl) ?_;show Run T (.clr [] i42n26) _ _ (finE none [4] (Q42 L r));refine Rn.k (mkE [(0,(Zl E_Block x0)),(0,(Zl E_Block x1))] 25) ?_;unfold F42 at h;refine Rn.g ?_;refine Ro.t 1 ?_;refine Ro.d (mkE [(0,(Zl E_Block x0)),(0,(Zl E_Block x1))] 25) ?_;refine Run.seq ?_;refine Rn.g ?_;refine Ro.t 1 ?_;refine Ro.p (len_fz E_Block x0) ?_;refine Ro.t 1 ?_;refine Ro.p (len_fz E_Block x1) ?_;refine Ro.t 1 ?_;refine Ro.d (mkE [(0,(Zl E_Block x0)),(0,(Zl E_Block x1)),(8,(V.bool ((ln x0) != (ln x1))))] 16) ?_;rcases tf ((ln x0) != (ln x1)) with h8734 | h8734
  · rw [ite_t h8734] at h; refine Rn.t h8734 ?_;refine Rn.g ?_;refine Ro.t 1 ?_;refine Ro.d (mkE [(4,(V.bool false))] 22) ?_;refine Run.ret ?_;have h := Option.some.inj h; subst h;exact ⟨(V.bool false),(by kernel_rfl),(by kernel_rfl),hp⟩
  · rw [ite_f h8734] at h; refine Rn.f h8734 ?_;refine Run.skip ?_;refine Rn.c (mkE [(0,(Zl E_Block x0)),(0,(Zl E_Block x1))] 25) ?_;refine Run.seq ?_;refine Rn.g ?_;refine Ro.t 1 ?_;refine Ro.d (mkE [(0,(Zl E_Block x0)),(0,(Zl E_Block x1)),(3,(i6 (0 : Int)))] 21) ?_;refine Run.block ?_;obtain ⟨o,h8784,h⟩ := bind_some h;refine (Run.iter (I := I42_1 x0 x1 L) (RR := RR42 L) (J := J42_1 x0 x1 L) (fun s e h' t hI hf => ?_) FUEL h8784 (by exact ⟨(by kernel_rfl),hp⟩)).mono ?_
    · obtain ⟨rfl,hp⟩ := hI; exact w42_1_b hf hp
    · rintro X e' H hq;cases o with
      | ret r => cases X <;> first | exact hq.elim | (cases h; exact hq)
      | go a =>
        cases X with | nrm => exact hq.elim | ret => exact hq.elim | ext i => ?_;obtain ⟨rfl,he,hp⟩ := hq
        dsimp only at h
        refine Run.clrE (ts := [0,1,4,5,11,12,13,14,15,16,17,18,19,20,21,22,23,24,25,26]) (b := i42n23) (Q := (finE none [4] (Q42 L r))) he ?_;refine Rn.g ?_;refine Ro.t 1 ?_;refine Ro.d (mkE [(4,(V.bool true))] 22) ?_;refine Run.ret ?_;have h := Option.some.inj h; subst h;exact ⟨(V.bool true),(by kernel_rfl),(by kernel_rfl),hp⟩
theorem c42 {x0 : (List T_Block)} {x1 : (List T_Block)} {r : Bool} (h : F42 x0 x1 = some r) (s : Bool) : Fn T 42 [(Zl E_Block x0),(Zl E_Block x1)] [] (fun v hh => deep s hh deepN v = some (EB.e r)) := by
  refine (w42 h HP.nil).mono ?_;rintro v hh ⟨rfl,hp⟩;exact EB.hd s hh 38 _ (.inr rfl)
abbrev Q24 (L : List Ob) (r : Bool) : V → Heap → Prop := fun v h => v = EB.e r ∧ HP h (L)
abbrev RR24 (L : List Ob) (r : Bool) : List V → Heap → Prop := fun e h => endR none [4] (Q24 L r) e h
def F24 (x0 : T_Graph) (x1 : T_Graph) : Option Bool :=
  if (x0.fName == x1.fName) then
    (F17 x0.fParams x1.fParams).bind fun y8788 =>
    if y8788 then
      if (x0.fResult == x1.fResult) then
        (F40 x0.fVars x1.fVars).bind fun y8792 =>
        if y8792 then
          (F41 x0.fArrays x1.fArrays).bind fun y8795 =>
          if y8795 then
            (F42 x0.fBlocks x1.fBlocks).bind fun y8798 =>
            some y8798
          else
            some false
        else
          some false
      else
        some false
    else
      some false
  else
    some false
theorem w24 {x0 : T_Graph} {x1 : T_Graph} {r : Bool} (h : F24 x0 x1 = some r) {H : Heap} {L : List Ob} (hp : HP H (L)) : Fn T 24 [(E_Graph.e x0),(E_Graph.e x1)] H (Q24 L r) := by
  refine Fn.enterE t24 (e0 := (mkE [(0,(E_Graph.e x0)),(0,(E_Graph.e x1))] 43)) (by kernel_rfl) ?_;show Run T (.clr [] i24n3) _ _ (finE none [4] (Q24 L r));refine Rn.k (mkE [(0,(E_Graph.e x0)),(0,(E_Graph.e x1))] 43) ?_;unfold F24 at h;refine Rn.g ?_;refine Ro.t 3 ?_;refine Ro.d (mkE [(2,(V.fp (E_Graph.e x0))),(0,(V.fp (E_Graph.e x1)))] 41) ?_;refine Rn.g ?_;refine Ro.t 4 ?_;rcases tf (x0.fName == x1.fName) with h8787 | h8787
  · rw [ite_t h8787] at h; refine Ro.p (Eq.trans (str_eql x0.fName x1.fName) (bool_of h8787)) ?_;refine Ro.t 5 ?_;obtain ⟨y8788,h8789,h⟩ := bind_some h;rcases tf y8788 with h8790 | h8790
    · subst h8790; rw [if_pos rfl] at h;refine RunO.c1 (by kernel_rfl) (by kernel_rfl) (c17 h8789 _) ?_;refine Ro.t 6 ?_;rcases tf (x0.fResult == x1.fResult) with h8791 | h8791
      · rw [ite_t h8791] at h; refine Ro.p (bool_of h8791) ?_;refine Ro.t 6 ?_;obtain ⟨y8792,h8793,h⟩ := bind_some h;rcases tf y8792 with h8794 | h8794
        · subst h8794; rw [if_pos rfl] at h;refine RunO.c1 (by kernel_rfl) (by kernel_rfl) (c40 h8793 _) ?_;refine Ro.t 6 ?_;obtain ⟨y8795,h8796,h⟩ := bind_some h;rcases tf y8795 with h8797 | h8797
          · subst h8797; rw [if_pos rfl] at h;refine RunO.c1 (by kernel_rfl) (by kernel_rfl) (c41 h8796 _) ?_;refine Ro.t 6 ?_;obtain ⟨y8798,h8799,h⟩ := bind_some h;refine RunO.c1 (by kernel_rfl) (by kernel_rfl) (c42 h8799 _) ?_;refine Ro.t 2 ?_;refine Ro.d (mkE [(4,(V.bool y8798))] 40) ?_;refine Run.ret ?_;have h := Option.some.inj h; subst h;exact ⟨(V.bool y8798),(by kernel_rfl),(by kernel_rfl),hp⟩
          · subst h8797; rw [if_neg (by decide)] at h;refine RunO.c1 (by kernel_rfl) (by kernel_rfl) (c41 h8796 _) ?_;refine Ro.t 9 ?_;refine Ro.d (mkE [(4,(V.bool false))] 40) ?_;refine Run.ret ?_;have h := Option.some.inj h; subst h;exact ⟨(V.bool false),(by kernel_rfl),(by kernel_rfl),hp⟩
        · subst h8794; rw [if_neg (by decide)] at h;refine RunO.c1 (by kernel_rfl) (by kernel_rfl) (c40 h8793 _) ?_;refine Ro.t 16 ?_;refine Ro.d (mkE [(4,(V.bool false))] 40) ?_;refine Run.ret ?_;have h := Option.some.inj h; subst h;exact ⟨(V.bool false),(by kernel_rfl),(by kernel_rfl),hp⟩
      · rw [ite_f h8791] at h; refine Ro.p (bool_of h8791) ?_;refine Ro.t 23 ?_;refine Ro.d (mkE [(4,(V.bool false))] 40) ?_;refine Run.ret ?_;have h := Option.some.inj h; subst h;exact ⟨(V.bool false),(by kernel_rfl),(by kernel_rfl),hp⟩
    · subst h8790; rw [if_neg (by decide)] at h;refine RunO.c1 (by kernel_rfl) (by kernel_rfl) (c17 h8789 _) ?_;refine Ro.t 30 ?_;refine Ro.d (mkE [(4,(V.bool false))] 40) ?_;refine Run.ret ?_;have h := Option.some.inj h; subst h;exact ⟨(V.bool false),(by kernel_rfl),(by kernel_rfl),hp⟩
  · rw [ite_f h8787] at h; refine Ro.p (Eq.trans (str_eql x0.fName x1.fName) (bool_of h8787)) ?_;refine Ro.t 36 ?_;refine Ro.d (mkE [(4,(V.bool false))] 40) ?_;refine Run.ret ?_;have h := Option.some.inj h; subst h;exact ⟨(V.bool false),(by kernel_rfl),(by kernel_rfl),hp⟩
theorem c24 {x0 : T_Graph} {x1 : T_Graph} {r : Bool} (h : F24 x0 x1 = some r) (s : Bool) : Fn T 24 [(E_Graph.e x0),(E_Graph.e x1)] [] (fun v hh => deep s hh deepN v = some (EB.e r)) := by
  refine (w24 h HP.nil).mono ?_;rintro v hh ⟨rfl,hp⟩;exact EB.hd s hh 38 _ (.inr rfl)
abbrev Q8 (L : List Ob) (r : Bool) : V → Heap → Prop := fun v h => v = EB.e r ∧ HP h (L)
abbrev RR8 (L : List Ob) (r : Bool) : List V → Heap → Prop := fun e h => endR none [2] (Q8 L r) e h
abbrev I8_1 (x0 : (List T_Graph)) (L : List Ob) : (Int) → List V → Heap → Prop := fun s e h => e = (mkE [(0,(Zl E_Graph x0)),(2,(i6 s))] 14) ∧ HP h (L)
abbrev J8_1 (x0 : (List T_Graph)) (L : List Ob) : Unit → Nat → List V → Heap → Prop := fun a i e h => i = 0 ∧ clrEnv [0,2,3,7,8,9,10,11,12,13,14,15,16,17] e = (mkE [] 18) ∧ HP h (L)
def F8_1_b (x0 : (List T_Graph)) (y8841 : Int) : Option (Stp (Int) Bool Unit) :=
  if (decide (y8841 < ((List.length x0 : Nat) : Int))) then
    (idx x0 y8841).bind fun y8861 =>
    (F12 y8861).bind fun y8863 =>
    if y8863 then
      some (.ret true)
    else
      some (.next ((IntKind.i64.wrap (y8841 + (1 : Int)))))
  else
    some (.go ())
theorem w8_1_b {x0 : (List T_Graph)} {y8841 : Int} {t : (Stp (Int) Bool Unit)} (h : F8_1_b x0 y8841 = some t) {H : Heap} {L : List Ob} (hp : HP H (L)) :
    Run T i8n18 (mkE [(0,(Zl E_Graph x0)),(2,(i6 y8841))] 14) H (stp [2,7,8,9,10,11,12,13,14,15,16,17] (I8_1 x0 L) (RR8 L) (J8_1 x0 L) t) := by
  unfold F8_1_b at h;refine Run.seq ?_;refine Rn.g ?_;refine Ro.t 2 ?_;refine Ro.p (len_fz E_Graph x0) ?_;refine Ro.t 1 ?_;refine Ro.d (mkE [(0,(Zl E_Graph x0)),(2,(i6 y8841)),(6,(V.bool (decide (y8841 < (ln x0)))))] 7) ?_;rcases tf (decide (y8841 < (ln x0))) with h8855 | h8855
  · rw [ite_t h8855] at h; refine Rn.t h8855 ?_;refine Run.skip ?_;refine Rn.c (mkE [(0,(Zl E_Graph x0)),(2,(i6 y8841))] 14) ?_;refine Run.seq ?_;refine Run.block ?_;refine Rn.g ?_;refine Ro.t 2 ?_;obtain ⟨y8861,h8862,h⟩ := bind_some h;refine Ro.p (idx_fz E_Graph .i64 h8862) ?_;refine Ro.t 1 ?_;obtain ⟨y8863,h8864,h⟩ := bind_some h;refine RunO.c1 (by kernel_rfl) (by kernel_rfl) (c12 h8864 _) ?_;refine Ro.d (mkE [(0,(Zl E_Graph x0)),(2,(i6 y8841)),(13,(V.bool y8863))] 0) ?_;rcases tf y8863 with h8865 | h8865
    · rw [ite_t h8865] at h; refine Rn.t h8865 ?_;refine Rn.g ?_;refine Ro.t 1 ?_;refine Ro.d (mkE [(2,(V.bool true))] 15) ?_;refine Run.ret ?_;have h := Option.some.inj h; subst h;show RR8 L _ _ _;exact ⟨(V.bool true),(by kernel_rfl),(by kernel_rfl),hp⟩
    · rw [ite_f h8865] at h; refine Rn.f h8865 ?_;refine Run.skip ?_;refine Run.clrE (ts := [2,13,14,15,16,17]) (b := (.rgn i8r16)) (Q := (stp [2,7,8,9,10,11,12,13,14,15,16,17] (I8_1 x0 L) (RR8 L) (J8_1 x0 L) t)) (e' := (mkE [(0,(Zl E_Graph x0)),(2,(i6 y8841))] 14)) (by kernel_rfl) ?_;refine Run.rgn ?_;refine Ro.t 3 ?_;refine RunO.nil ?_;have h := Option.some.inj h; subst h;show I8_1 x0 L _ _ _;exact ⟨(by kernel_rfl),hp⟩
  · rw [ite_f h8855] at h; refine Rn.f h8855 ?_;refine Run.exit ?_;have h := Option.some.inj h; subst h;show J8_1 x0 L () _ _ _;exact ⟨rfl,(by kernel_rfl),hp⟩
def F8 (x0 : (List T_Graph)) : Option Bool :=
  if (decide (((List.length x0 : Nat) : Int) > (100 : Int))) then
    some true
  else
    (iter (fun s : (Int) => F8_1_b x0 s) FUEL ((0 : Int))).bind fun o => match o with
    | .ret r => some r
    | .go () =>
      some false
theorem w8 {x0 : (List T_Graph)} {r : Bool} (h : F8 x0 = some r) {H : Heap} {L : List Ob} (hp : HP H (L)) : Fn T 8 [(Zl E_Graph x0)] H (Q8 L r) := by
  refine Fn.enterE t8 (e0 := (mkE [(0,(Zl E_Graph x0))] 17)) (by kernel_rfl) ?_;show Run T (.clr [] i8n26) _ _ (finE none [2] (Q8 L r));refine Rn.k (mkE [(0,(Zl E_Graph x0))] 17) ?_;unfold F8 at h;refine Rn.g ?_;refine Ro.t 1 ?_;refine Ro.d (mkE [(0,(Zl E_Graph x0))] 17) ?_;refine Run.seq ?_;refine Rn.g ?_;refine Ro.t 1 ?_;refine Ro.p (len_fz E_Graph x0) ?_;refine Ro.t 1 ?_;refine Ro.d (mkE [(0,(Zl E_Graph x0)),(5,(V.bool (decide ((ln x0) > (100 : Int)))))] 11) ?_;rcases tf (decide ((ln x0) > (100 : Int))) with h8828 | h8828
  · rw [ite_t h8828] at h; refine Rn.t h8828 ?_;refine Rn.g ?_;refine Ro.t 1 ?_;refine Ro.d (mkE [(2,(V.bool true))] 15) ?_;refine Run.ret ?_;have h := Option.some.inj h; subst h;exact ⟨(V.bool true),(by kernel_rfl),(by kernel_rfl),hp⟩
  · rw [ite_f h8828] at h; refine Rn.f h8828 ?_;refine Run.skip ?_;refine Rn.c (mkE [(0,(Zl E_Graph x0))] 17) ?_;refine Run.seq ?_;refine Rn.g ?_;refine Ro.t 1 ?_;refine Ro.d (mkE [(0,(Zl E_Graph x0)),(2,(i6 (0 : Int)))] 14) ?_;refine Run.block ?_;obtain ⟨o,h8866,h⟩ := bind_some h;refine (Run.iter (I := I8_1 x0 L) (RR := RR8 L) (J := J8_1 x0 L) (fun s e h' t hI hf => ?_) FUEL h8866 (by exact ⟨(by kernel_rfl),hp⟩)).mono ?_
    · obtain ⟨rfl,hp⟩ := hI; exact w8_1_b hf hp
    · rintro X e' H hq;cases o with
      | ret r => cases X <;> first | exact hq.elim | (cases h; exact hq)
      | go a =>
        cases X with | nrm => exact hq.elim | ret => exact hq.elim | ext i => ?_;obtain ⟨rfl,he,hp⟩ := hq
        dsimp only at h
        refine Run.clrE (ts := [0,2,3,7,8,9,10,11,12,13,14,15,16,17]) (b := i8n23) (Q := (finE none [2] (Q8 L r))) he ?_;refine Rn.g ?_;refine Ro.t 1 ?_;refine Ro.d (mkE [(2,(V.bool false))] 15) ?_;refine Run.ret ?_;have h := Option.some.inj h; subst h;exact ⟨(V.bool false),(by kernel_rfl),(by kernel_rfl),hp⟩
theorem c8 {x0 : (List T_Graph)} {r : Bool} (h : F8 x0 = some r) (s : Bool) : Fn T 8 [(Zl E_Graph x0)] [] (fun v hh => deep s hh deepN v = some (EB.e r)) := by
  refine (w8 h HP.nil).mono ?_;rintro v hh ⟨rfl,hp⟩;exact EB.hd s hh 38 _ (.inr rfl)
end Go.Eng.Gra
