/- Functions of this seat, run on unknown values by the rules of the small machine (no condition beyond those stated). -/
import Derived.Test.YthpbodnnbjdnlaaDoorCopFa
set_option linter.unusedSectionVars false
namespace Go.Eng.Cop
open Go Go.Eng
set_option linter.unusedVariables false
set_option linter.unusedSimpArgs false
set_option maxRecDepth 20000
def F69_j1 (x0 : T_Code) (x1 : T_Unit) (x2 : Int) (y5842 : T_form) : Option Bool :=
  if y5842.fop then
    (F84 x0.fOp x0.fType).bind fun y5924 =>
    if (!y5924.2) then
      some false
    else
      F69_j2 x0 x1 x2 y5842
  else
    F69_j2 x0 x1 x2 y5842
theorem w69_j1 {x0 : T_Code} {x1 : T_Unit} {x2 : Int} {y5842 : T_form} {r : Bool} (h : F69_j1 x0 x1 x2 y5842 = some r) {b5844 : Nat} {H : Heap} {L : List Ob} (hp : HP H ((some (b5844,0),[(V.int .u8 y5842.fa),(V.int .u8 y5842.fb),(V.int .u8 y5842.fc),(V.bool y5842.fop),(V.bool y5842.ft),(V.bool y5842.fto),(V.bool y5842.ftrap),(V.bool y5842.fbits),(V.bool y5842.frow)]) :: L)) :
    Run T i69n57 (mkE [(1,(V.fp (E_Unit.e x1))),(0,(vI x2)),(0,(V.fp (E_Code.e x0))),(3,(V.ptr b5844 0 0))] 169) H (finE none [6] (Q69 L r)) := by
  unfold F69_j1 at h;refine Run.seq ?_;refine Rn.g ?_;refine Ro.t 1 ?_;refine Ro.p (hp.ld 0 (off := 3) (n := none) (v := (V.bool y5842.fop)) rfl (by kernel_rfl)) ?_;refine Ro.d (mkE [(1,(V.fp (E_Unit.e x1))),(0,(vI x2)),(0,(V.fp (E_Code.e x0))),(3,(V.ptr b5844 0 0)),(126,(V.bool y5842.fop))] 42) ?_;rcases tf y5842.fop with h5923 | h5923
  · rw [ite_t h5923] at h; refine Rn.t h5923 ?_;refine Rn.g ?_;refine Ro.t 4 ?_;obtain ⟨y5924,h5925,h⟩ := bind_some h;refine RunO.c1 (by kernel_rfl) (by kernel_rfl) (c84 h5925 _) ?_;refine Ro.t 5 ?_;refine Ro.d (mkE [(1,(V.fp (E_Unit.e x1))),(0,(vI x2)),(0,(V.fp (E_Code.e x0))),(3,(V.ptr b5844 0 0)),(1,(V.bool y5924.2))] 167) ?_;refine Rn.g ?_;refine Ro.t 2 ?_;refine Ro.d (mkE [(1,(V.fp (E_Unit.e x1))),(0,(vI x2)),(0,(V.fp (E_Code.e x0))),(3,(V.ptr b5844 0 0)),(136,(V.bool (!y5924.2)))] 32) ?_;rcases tf (!y5924.2) with h5926 | h5926
    · rw [ite_t h5926] at h; refine Rn.t h5926 ?_;refine Rn.g ?_;refine Ro.t 1 ?_;refine Ro.d (mkE [(6,(V.bool false))] 170) ?_;refine Run.ret ?_;obtain rfl := Option.some.inj h;have hp := hp.del 0;exact ⟨(V.bool false),(by kernel_rfl),(by kernel_rfl),hp⟩
    · rw [ite_f h5926] at h; refine Rn.f h5926 ?_;refine Run.skip ?_;refine Rn.c (mkE [(1,(V.fp (E_Unit.e x1))),(0,(vI x2)),(0,(V.fp (E_Code.e x0))),(3,(V.ptr b5844 0 0))] 169) ?_;exact w69_j2 h hp
  · rw [ite_f h5923] at h; refine Rn.f h5923 ?_;refine Run.skip ?_;refine Rn.c (mkE [(1,(V.fp (E_Unit.e x1))),(0,(vI x2)),(0,(V.fp (E_Code.e x0))),(3,(V.ptr b5844 0 0))] 169) ?_;exact w69_j2 h hp
def F69_j6 (x0 : T_Code) (x1 : T_Unit) (x2 : Int) (y5842 : T_form) (y5960 : Bool) : Option Bool :=
  if y5960 then
    some false
  else
    if (x0.fKind == (13 : Int)) then
      if (decide (x0.fType < (1 : Int))) then
        some false
      else
        if (decide (x0.fType > (5 : Int))) then
          some false
        else
          F69_j1 x0 x1 x2 y5842
    else
      F69_j1 x0 x1 x2 y5842
theorem w69_j6 {x0 : T_Code} {x1 : T_Unit} {x2 : Int} {y5842 : T_form} {y5960 : Bool} {r : Bool} (h : F69_j6 x0 x1 x2 y5842 y5960 = some r) {b5844 : Nat} {H : Heap} {L : List Ob} (hp : HP H ((some (b5844,0),[(V.int .u8 y5842.fa),(V.int .u8 y5842.fb),(V.int .u8 y5842.fc),(V.bool y5842.fop),(V.bool y5842.ft),(V.bool y5842.fto),(V.bool y5842.ftrap),(V.bool y5842.fbits),(V.bool y5842.frow)]) :: L)) :
    Run T i69n36 (mkE [(1,(V.fp (E_Unit.e x1))),(0,(vI x2)),(0,(V.fp (E_Code.e x0))),(3,(V.ptr b5844 0 0)),(100,(V.bool y5960))] 68) H (blk 0 (thn T (.clr [6,18,19,20,21,22,23,24,25,26,27,28,29,30,31,32,33,34,35,36,37,38,39,40,41,42,43,44,45,46,47,48,49,50,51,52,53,54,55,56,57,58,59,60,61,62,63,64,65,66,67,68,69,70,71,72,73,74,75,76,77,78,79,80,81,82,83,84,85,86,87,88,89,90,91,92,93,94,95,96,97,98,99,100,101,102,103,104,105,106,107,108,109,110,111,112,113,114,115,116,117,118,119,120,121,122,123,124,125,126,127,128,129,130,131,132] i69n57) (finE none [6] (Q69 L r)))) := by
  unfold F69_j6 at h;rcases tf y5960 with h5961 | h5961
  · rw [ite_t h5961] at h; refine Rn.t h5961 ?_;refine Rn.g ?_;refine Ro.t 1 ?_;refine Ro.d (mkE [(6,(V.bool false))] 170) ?_;refine Run.ret ?_;obtain rfl := Option.some.inj h;have hp := hp.del 0;exact ⟨(V.bool false),(by kernel_rfl),(by kernel_rfl),hp⟩
  · rw [ite_f h5961] at h; refine Rn.f h5961 ?_;refine Rn.g ?_;refine Ro.t 2 ?_;rcases tf (x0.fKind == (13 : Int)) with h5962 | h5962
    · rw [ite_t h5962] at h; refine Ro.p (bool_of h5962) ?_;refine Ro.t 3 ?_;rcases tf (decide (x0.fType < (1 : Int))) with h5963 | h5963
      · rw [ite_t h5963] at h; refine Ro.p (bool_of h5963) ?_;refine Ro.t 7 ?_;refine Ro.d (mkE [(1,(V.fp (E_Unit.e x1))),(0,(vI x2)),(0,(V.fp (E_Code.e x0))),(3,(V.ptr b5844 0 0)),(111,(V.bool true))] 57) ?_;refine Run.condT (by kernel_rfl) ?_;refine Rn.g ?_;refine Ro.t 1 ?_;refine Ro.d (mkE [(6,(V.bool false))] 170) ?_;refine Run.ret ?_;obtain rfl := Option.some.inj h;have hp := hp.del 0;exact ⟨(V.bool false),(by kernel_rfl),(by kernel_rfl),hp⟩
      · rw [ite_f h5963] at h; refine Ro.p (bool_of h5963) ?_;refine Ro.t 7 ?_;refine Ro.d (mkE [(1,(V.fp (E_Unit.e x1))),(0,(vI x2)),(0,(V.fp (E_Code.e x0))),(3,(V.ptr b5844 0 0)),(111,(V.bool (decide (x0.fType > (5 : Int)))))] 57) ?_;rcases tf (decide (x0.fType > (5 : Int))) with h5964 | h5964
        · rw [ite_t h5964] at h; refine Rn.t h5964 ?_;refine Rn.g ?_;refine Ro.t 1 ?_;refine Ro.d (mkE [(6,(V.bool false))] 170) ?_;refine Run.ret ?_;obtain rfl := Option.some.inj h;have hp := hp.del 0;exact ⟨(V.bool false),(by kernel_rfl),(by kernel_rfl),hp⟩
        · rw [ite_f h5964] at h; refine Rn.f h5964 ?_;refine Run.skip ?_;refine Rn.c (mkE [(1,(V.fp (E_Unit.e x1))),(0,(vI x2)),(0,(V.fp (E_Code.e x0))),(3,(V.ptr b5844 0 0))] 169) ?_;exact w69_j1 h hp
    · rw [ite_f h5962] at h; refine Ro.p (bool_of h5962) ?_;refine Ro.t 11 ?_;refine Ro.d (mkE [(1,(V.fp (E_Unit.e x1))),(0,(vI x2)),(0,(V.fp (E_Code.e x0))),(3,(V.ptr b5844 0 0)),(111,(V.bool false))] 57) ?_;refine Run.condF (by kernel_rfl) ?_;refine Run.skip ?_;refine Rn.c (mkE [(1,(V.fp (E_Unit.e x1))),(0,(vI x2)),(0,(V.fp (E_Code.e x0))),(3,(V.ptr b5844 0 0))] 169) ?_;exact w69_j1 h hp
def F69_j5 (x0 : T_Code) (x1 : T_Unit) (x2 : Int) (y5842 : T_form) (y5955 : Bool) : Option Bool :=
  if y5955 then
    some false
  else
    if y5842.fto then
      (F83 x0.fTo x0.fType).bind fun y5966 =>
      F69_j6 x0 x1 x2 y5842 ((!y5966))
    else
      F69_j6 x0 x1 x2 y5842 (false)
theorem w69_j5 {x0 : T_Code} {x1 : T_Unit} {x2 : Int} {y5842 : T_form} {y5955 : Bool} {r : Bool} (h : F69_j5 x0 x1 x2 y5842 y5955 = some r) {b5844 : Nat} {H : Heap} {L : List Ob} (hp : HP H ((some (b5844,0),[(V.int .u8 y5842.fa),(V.int .u8 y5842.fb),(V.int .u8 y5842.fc),(V.bool y5842.fop),(V.bool y5842.ft),(V.bool y5842.fto),(V.bool y5842.ftrap),(V.bool y5842.fbits),(V.bool y5842.frow)]) :: L)) :
    Run T i69n38 (mkE [(1,(V.fp (E_Unit.e x1))),(0,(vI x2)),(0,(V.fp (E_Code.e x0))),(3,(V.ptr b5844 0 0)),(69,(V.bool y5955))] 99) H (blk 0 (thn T (.clr [6,18,19,20,21,22,23,24,25,26,27,28,29,30,31,32,33,34,35,36,37,38,39,40,41,42,43,44,45,46,47,48,49,50,51,52,53,54,55,56,57,58,59,60,61,62,63,64,65,66,67,68,69,70,71,72,73,74,75,76,77,78,79,80,81,82,83,84,85,86,87,88,89,90,91,92,93,94,95,96,97,98,99,100,101,102,103,104,105,106,107,108,109,110,111,112,113,114,115,116,117,118,119,120,121,122,123,124,125,126,127,128,129,130,131,132] i69n57) (finE none [6] (Q69 L r)))) := by
  unfold F69_j5 at h;rcases tf y5955 with h5956 | h5956
  · rw [ite_t h5956] at h; refine Rn.t h5956 ?_;refine Rn.g ?_;refine Ro.t 1 ?_;refine Ro.d (mkE [(6,(V.bool false))] 170) ?_;refine Run.ret ?_;obtain rfl := Option.some.inj h;have hp := hp.del 0;exact ⟨(V.bool false),(by kernel_rfl),(by kernel_rfl),hp⟩
  · rw [ite_f h5956] at h; refine Rn.f h5956 ?_;refine Rn.g ?_;refine Ro.t 1 ?_;rcases tf y5842.fto with h5965 | h5965
    · rw [ite_t h5965] at h; refine Ro.p (Eq.trans (hp.ld 0 (off := 5) (n := none) (v := (V.bool y5842.fto)) rfl (by kernel_rfl)) (bool_of h5965)) ?_;refine Ro.t 5 ?_;obtain ⟨y5966,h5967,h⟩ := bind_some h;refine RunO.c1 (by kernel_rfl) (by kernel_rfl) (c83 h5967 _) ?_;refine Ro.t 3 ?_;refine Ro.d (mkE [(1,(V.fp (E_Unit.e x1))),(0,(vI x2)),(0,(V.fp (E_Code.e x0))),(3,(V.ptr b5844 0 0)),(100,(V.bool (!y5966)))] 68) ?_;exact w69_j6 h hp
    · rw [ite_f h5965] at h; refine Ro.p (Eq.trans (hp.ld 0 (off := 5) (n := none) (v := (V.bool y5842.fto)) rfl (by kernel_rfl)) (bool_of h5965)) ?_;refine Ro.t 9 ?_;refine Ro.d (mkE [(1,(V.fp (E_Unit.e x1))),(0,(vI x2)),(0,(V.fp (E_Code.e x0))),(3,(V.ptr b5844 0 0)),(100,(V.bool false))] 68) ?_;exact w69_j6 h hp
def F69_j4 (x0 : T_Code) (x1 : T_Unit) (x2 : Int) (y5842 : T_form) (y5949 : Bool) : Option Bool :=
  if y5949 then
    some false
  else
    if y5842.frow then
      if (decide (x0.fBits < (1 : Int))) then
        F69_j5 x0 x1 x2 y5842 (true)
      else
        if (decide (x0.fBits > (256 : Int))) then
          F69_j5 x0 x1 x2 y5842 (true)
        else
          if (decide (x0.fC < (0 : Int))) then
            F69_j5 x0 x1 x2 y5842 (true)
          else
            F69_j5 x0 x1 x2 y5842 ((decide (x0.fC > (IntKind.i64.wrap (x1.fFrame - (IntKind.i64.wrap x0.fBits))))))
    else
      F69_j5 x0 x1 x2 y5842 (false)
theorem w69_j4 {x0 : T_Code} {x1 : T_Unit} {x2 : Int} {y5842 : T_form} {y5949 : Bool} {r : Bool} (h : F69_j4 x0 x1 x2 y5842 y5949 = some r) {b5844 : Nat} {H : Heap} {L : List Ob} (hp : HP H ((some (b5844,0),[(V.int .u8 y5842.fa),(V.int .u8 y5842.fb),(V.int .u8 y5842.fc),(V.bool y5842.fop),(V.bool y5842.ft),(V.bool y5842.fto),(V.bool y5842.ftrap),(V.bool y5842.fbits),(V.bool y5842.frow)]) :: L)) :
    Run T i69n40 (mkE [(1,(V.fp (E_Unit.e x1))),(0,(vI x2)),(0,(V.fp (E_Code.e x0))),(3,(V.ptr b5844 0 0)),(56,(V.bool y5949))] 112) H (blk 0 (thn T (.clr [6,18,19,20,21,22,23,24,25,26,27,28,29,30,31,32,33,34,35,36,37,38,39,40,41,42,43,44,45,46,47,48,49,50,51,52,53,54,55,56,57,58,59,60,61,62,63,64,65,66,67,68,69,70,71,72,73,74,75,76,77,78,79,80,81,82,83,84,85,86,87,88,89,90,91,92,93,94,95,96,97,98,99,100,101,102,103,104,105,106,107,108,109,110,111,112,113,114,115,116,117,118,119,120,121,122,123,124,125,126,127,128,129,130,131,132] i69n57) (finE none [6] (Q69 L r)))) := by
  unfold F69_j4 at h;rcases tf y5949 with h5950 | h5950
  · rw [ite_t h5950] at h; refine Rn.t h5950 ?_;refine Rn.g ?_;refine Ro.t 1 ?_;refine Ro.d (mkE [(6,(V.bool false))] 170) ?_;refine Run.ret ?_;obtain rfl := Option.some.inj h;have hp := hp.del 0;exact ⟨(V.bool false),(by kernel_rfl),(by kernel_rfl),hp⟩
  · rw [ite_f h5950] at h; refine Rn.f h5950 ?_;refine Rn.g ?_;refine Ro.t 1 ?_;rcases tf y5842.frow with h5968 | h5968
    · rw [ite_t h5968] at h; refine Ro.p (Eq.trans (hp.ld 0 (off := 8) (n := none) (v := (V.bool y5842.frow)) rfl (by kernel_rfl)) (bool_of h5968)) ?_;refine Ro.t 3 ?_;rcases tf (decide (x0.fBits < (1 : Int))) with h5969 | h5969
      · rw [ite_t h5969] at h; refine Ro.p (bool_of h5969) ?_;refine Ro.t 25 ?_;refine Ro.d (mkE [(1,(V.fp (E_Unit.e x1))),(0,(vI x2)),(0,(V.fp (E_Code.e x0))),(3,(V.ptr b5844 0 0)),(69,(V.bool true))] 99) ?_;exact w69_j5 h hp
      · rw [ite_f h5969] at h; refine Ro.p (bool_of h5969) ?_;refine Ro.t 3 ?_;rcases tf (decide (x0.fBits > (256 : Int))) with h5970 | h5970
        · rw [ite_t h5970] at h; refine Ro.p (bool_of h5970) ?_;refine Ro.t 21 ?_;refine Ro.d (mkE [(1,(V.fp (E_Unit.e x1))),(0,(vI x2)),(0,(V.fp (E_Code.e x0))),(3,(V.ptr b5844 0 0)),(69,(V.bool true))] 99) ?_;exact w69_j5 h hp
        · rw [ite_f h5970] at h; refine Ro.p (bool_of h5970) ?_;refine Ro.t 4 ?_;rcases tf (decide (x0.fC < (0 : Int))) with h5971 | h5971
          · rw [ite_t h5971] at h; refine Ro.p (bool_of h5971) ?_;refine Ro.t 16 ?_;refine Ro.d (mkE [(1,(V.fp (E_Unit.e x1))),(0,(vI x2)),(0,(V.fp (E_Code.e x0))),(3,(V.ptr b5844 0 0)),(69,(V.bool true))] 99) ?_;exact w69_j5 h hp
          · rw [ite_f h5971] at h; refine Ro.p (bool_of h5971) ?_;refine Ro.t 16 ?_;refine Ro.d (mkE [(1,(V.fp (E_Unit.e x1))),(0,(vI x2)),(0,(V.fp (E_Code.e x0))),(3,(V.ptr b5844 0 0)),(69,(V.bool (decide (x0.fC > (IntKind.i64.wrap (x1.fFrame - (IntKind.i64.wrap x0.fBits)))))))] 99) ?_;exact w69_j5 h hp
    · rw [ite_f h5968] at h; refine Ro.p (Eq.trans (hp.ld 0 (off := 8) (n := none) (v := (V.bool y5842.frow)) rfl (by kernel_rfl)) (bool_of h5968)) ?_;refine Ro.t 29 ?_;refine Ro.d (mkE [(1,(V.fp (E_Unit.e x1))),(0,(vI x2)),(0,(V.fp (E_Code.e x0))),(3,(V.ptr b5844 0 0)),(69,(V.bool false))] 99) ?_;exact w69_j5 h hp
def F69_j3 (x0 : T_Code) (x1 : T_Unit) (x2 : Int) (y5842 : T_form) (y5945 : Bool) : Option Bool :=
  if y5945 then
    some false
  else
    if y5842.ftrap then
      if (decide (x0.fTrap < (1 : Int))) then
        F69_j4 x0 x1 x2 y5842 (true)
      else
        F69_j4 x0 x1 x2 y5842 ((decide (x0.fTrap > (3 : Int))))
    else
      F69_j4 x0 x1 x2 y5842 (false)
theorem w69_j3 {x0 : T_Code} {x1 : T_Unit} {x2 : Int} {y5842 : T_form} {y5945 : Bool} {r : Bool} (h : F69_j3 x0 x1 x2 y5842 y5945 = some r) {b5844 : Nat} {H : Heap} {L : List Ob} (hp : HP H ((some (b5844,0),[(V.int .u8 y5842.fa),(V.int .u8 y5842.fb),(V.int .u8 y5842.fc),(V.bool y5842.fop),(V.bool y5842.ft),(V.bool y5842.fto),(V.bool y5842.ftrap),(V.bool y5842.fbits),(V.bool y5842.frow)]) :: L)) :
    Run T i69n42 (mkE [(1,(V.fp (E_Unit.e x1))),(0,(vI x2)),(0,(V.fp (E_Code.e x0))),(3,(V.ptr b5844 0 0)),(10,(V.bool y5945))] 158) H (blk 0 (thn T (.clr [6,18,19,20,21,22,23,24,25,26,27,28,29,30,31,32,33,34,35,36,37,38,39,40,41,42,43,44,45,46,47,48,49,50,51,52,53,54,55,56,57,58,59,60,61,62,63,64,65,66,67,68,69,70,71,72,73,74,75,76,77,78,79,80,81,82,83,84,85,86,87,88,89,90,91,92,93,94,95,96,97,98,99,100,101,102,103,104,105,106,107,108,109,110,111,112,113,114,115,116,117,118,119,120,121,122,123,124,125,126,127,128,129,130,131,132] i69n57) (finE none [6] (Q69 L r)))) := by
  unfold F69_j3 at h;rcases tf y5945 with h5946 | h5946
  · rw [ite_t h5946] at h; refine Rn.t h5946 ?_;refine Rn.g ?_;refine Ro.t 1 ?_;refine Ro.d (mkE [(6,(V.bool false))] 170) ?_;refine Run.ret ?_;obtain rfl := Option.some.inj h;have hp := hp.del 0;exact ⟨(V.bool false),(by kernel_rfl),(by kernel_rfl),hp⟩
  · rw [ite_f h5946] at h; refine Rn.f h5946 ?_;refine Rn.g ?_;refine Ro.t 1 ?_;rcases tf y5842.ftrap with h5972 | h5972
    · rw [ite_t h5972] at h; refine Ro.p (Eq.trans (hp.ld 0 (off := 6) (n := none) (v := (V.bool y5842.ftrap)) rfl (by kernel_rfl)) (bool_of h5972)) ?_;refine Ro.t 3 ?_;rcases tf (decide (x0.fTrap < (1 : Int))) with h5973 | h5973
      · rw [ite_t h5973] at h; refine Ro.p (bool_of h5973) ?_;refine Ro.t 7 ?_;refine Ro.d (mkE [(1,(V.fp (E_Unit.e x1))),(0,(vI x2)),(0,(V.fp (E_Code.e x0))),(3,(V.ptr b5844 0 0)),(56,(V.bool true))] 112) ?_;exact w69_j4 h hp
      · rw [ite_f h5973] at h; refine Ro.p (bool_of h5973) ?_;refine Ro.t 7 ?_;refine Ro.d (mkE [(1,(V.fp (E_Unit.e x1))),(0,(vI x2)),(0,(V.fp (E_Code.e x0))),(3,(V.ptr b5844 0 0)),(56,(V.bool (decide (x0.fTrap > (3 : Int)))))] 112) ?_;exact w69_j4 h hp
    · rw [ite_f h5972] at h; refine Ro.p (Eq.trans (hp.ld 0 (off := 6) (n := none) (v := (V.bool y5842.ftrap)) rfl (by kernel_rfl)) (bool_of h5972)) ?_;refine Ro.t 11 ?_;refine Ro.d (mkE [(1,(V.fp (E_Unit.e x1))),(0,(vI x2)),(0,(V.fp (E_Code.e x0))),(3,(V.ptr b5844 0 0)),(56,(V.bool false))] 112) ?_;exact w69_j4 h hp
def F69_j9 (x0 : T_Code) (x1 : T_Unit) (x2 : Int) (y5842 : T_form) (y5981 : Bool) : Option Bool :=
  if y5981 then
    F69_j3 x0 x1 x2 y5842 (y5981)
  else
    if y5842.ftrap then
      if y5842.fbits then
        F69_j3 x0 x1 x2 y5842 (false)
      else
        if y5842.frow then
          F69_j3 x0 x1 x2 y5842 (false)
        else
          F69_j3 x0 x1 x2 y5842 ((x0.fBits != (0 : Int)))
    else
      if (x0.fTrap != (0 : Int)) then
        F69_j3 x0 x1 x2 y5842 ((x0.fTrap != (0 : Int)))
      else
        if y5842.fbits then
          F69_j3 x0 x1 x2 y5842 (false)
        else
          if y5842.frow then
            F69_j3 x0 x1 x2 y5842 (false)
          else
            F69_j3 x0 x1 x2 y5842 ((x0.fBits != (0 : Int)))
theorem w69_j9 {x0 : T_Code} {x1 : T_Unit} {x2 : Int} {y5842 : T_form} {y5981 : Bool} {r : Bool} (h : F69_j9 x0 x1 x2 y5842 y5981 = some r) {b5844 : Nat} {H : Heap} {L : List Ob} (hp : HP H ((some (b5844,0),[(V.int .u8 y5842.fa),(V.int .u8 y5842.fb),(V.int .u8 y5842.fc),(V.bool y5842.fop),(V.bool y5842.ft),(V.bool y5842.fto),(V.bool y5842.ftrap),(V.bool y5842.fbits),(V.bool y5842.frow)]) :: L)) :
    Run T i69n14 (mkE [(1,(V.fp (E_Unit.e x1))),(0,(vI x2)),(0,(V.fp (E_Code.e x0))),(3,(V.ptr b5844 0 0)),(10,(V.bool y5981))] 158) H (thn T (.clr [19,20,21,22,23,24,25,26,27,28,29,30,31,32,33,34,35,36,37,38,39,40,41,42,43,44,45,46,47,48,49,50,51,52,53,54,55,56,57,58,59,60,61,62,63] i69n42) (blk 0 (thn T (.clr [6,18,19,20,21,22,23,24,25,26,27,28,29,30,31,32,33,34,35,36,37,38,39,40,41,42,43,44,45,46,47,48,49,50,51,52,53,54,55,56,57,58,59,60,61,62,63,64,65,66,67,68,69,70,71,72,73,74,75,76,77,78,79,80,81,82,83,84,85,86,87,88,89,90,91,92,93,94,95,96,97,98,99,100,101,102,103,104,105,106,107,108,109,110,111,112,113,114,115,116,117,118,119,120,121,122,123,124,125,126,127,128,129,130,131,132] i69n57) (finE none [6] (Q69 L r))))) := by
  unfold F69_j9 at h;rcases tf y5981 with h5982 | h5982
  · rw [ite_t h5982] at h; refine Rn.t h5982 ?_;refine Run.skip ?_;refine Rn.c (mkE [(1,(V.fp (E_Unit.e x1))),(0,(vI x2)),(0,(V.fp (E_Code.e x0))),(3,(V.ptr b5844 0 0)),(10,(V.bool y5981))] 158) ?_;exact w69_j3 h hp
  · rw [ite_f h5982] at h; refine Rn.f h5982 ?_;refine Rn.g ?_;refine Ro.t 1 ?_;rcases tf y5842.ftrap with h5983 | h5983
    · rw [ite_t h5983] at h; refine Ro.p (Eq.trans (hp.ld 0 (off := 6) (n := none) (v := (V.bool y5842.ftrap)) rfl (by kernel_rfl)) (bool_of h5983)) ?_;refine Ro.t 7 ?_;refine Ro.d (mkE [(1,(V.fp (E_Unit.e x1))),(0,(vI x2)),(0,(V.fp (E_Code.e x0))),(3,(V.ptr b5844 0 0)),(10,(V.bool false))] 158) ?_;refine Run.condF (by kernel_rfl) ?_;refine Run.rgn ?_;refine Ro.t 1 ?_;rcases tf y5842.fbits with h5984 | h5984
      · rw [ite_t h5984] at h; refine Ro.p (Eq.trans (hp.ld 0 (off := 7) (n := none) (v := (V.bool y5842.fbits)) rfl (by kernel_rfl)) (bool_of h5984)) ?_;refine Ro.t 12 ?_;refine Ro.d (mkE [(1,(V.fp (E_Unit.e x1))),(0,(vI x2)),(0,(V.fp (E_Code.e x0))),(3,(V.ptr b5844 0 0)),(10,(V.bool false))] 158) ?_;exact w69_j3 h hp
      · rw [ite_f h5984] at h; refine Ro.p (Eq.trans (hp.ld 0 (off := 7) (n := none) (v := (V.bool y5842.fbits)) rfl (by kernel_rfl)) (bool_of h5984)) ?_;refine Ro.t 3 ?_;rcases tf y5842.frow with h5985 | h5985
        · rw [ite_t h5985] at h; refine Ro.p (Eq.trans (hp.ld 0 (off := 8) (n := none) (v := (V.bool y5842.frow)) rfl (by kernel_rfl)) (bool_of h5985)) ?_;refine Ro.t 8 ?_;refine Ro.d (mkE [(1,(V.fp (E_Unit.e x1))),(0,(vI x2)),(0,(V.fp (E_Code.e x0))),(3,(V.ptr b5844 0 0)),(10,(V.bool false))] 158) ?_;exact w69_j3 h hp
        · rw [ite_f h5985] at h; refine Ro.p (Eq.trans (hp.ld 0 (off := 8) (n := none) (v := (V.bool y5842.frow)) rfl (by kernel_rfl)) (bool_of h5985)) ?_;refine Ro.t 8 ?_;refine Ro.d (mkE [(1,(V.fp (E_Unit.e x1))),(0,(vI x2)),(0,(V.fp (E_Code.e x0))),(3,(V.ptr b5844 0 0)),(10,(V.bool (x0.fBits != (0 : Int))))] 158) ?_;exact w69_j3 h hp
    · rw [ite_f h5983] at h; refine Ro.p (Eq.trans (hp.ld 0 (off := 6) (n := none) (v := (V.bool y5842.ftrap)) rfl (by kernel_rfl)) (bool_of h5983)) ?_;refine Ro.t 7 ?_;refine Ro.d (mkE [(1,(V.fp (E_Unit.e x1))),(0,(vI x2)),(0,(V.fp (E_Code.e x0))),(3,(V.ptr b5844 0 0)),(10,(V.bool (x0.fTrap != (0 : Int))))] 158) ?_;rcases tf (x0.fTrap != (0 : Int)) with h5986 | h5986
      · rw [ite_t h5986] at h; refine Rn.t h5986 ?_;refine Run.skip ?_;refine Rn.c (mkE [(1,(V.fp (E_Unit.e x1))),(0,(vI x2)),(0,(V.fp (E_Code.e x0))),(3,(V.ptr b5844 0 0)),(10,(V.bool (x0.fTrap != (0 : Int))))] 158) ?_;exact w69_j3 h hp
      · rw [ite_f h5986] at h; refine Rn.f h5986 ?_;refine Run.rgn ?_;refine Ro.t 1 ?_;rcases tf y5842.fbits with h5987 | h5987
        · rw [ite_t h5987] at h; refine Ro.p (Eq.trans (hp.ld 0 (off := 7) (n := none) (v := (V.bool y5842.fbits)) rfl (by kernel_rfl)) (bool_of h5987)) ?_;refine Ro.t 12 ?_;refine Ro.d (mkE [(1,(V.fp (E_Unit.e x1))),(0,(vI x2)),(0,(V.fp (E_Code.e x0))),(3,(V.ptr b5844 0 0)),(10,(V.bool false))] 158) ?_;exact w69_j3 h hp
        · rw [ite_f h5987] at h; refine Ro.p (Eq.trans (hp.ld 0 (off := 7) (n := none) (v := (V.bool y5842.fbits)) rfl (by kernel_rfl)) (bool_of h5987)) ?_;refine Ro.t 3 ?_;rcases tf y5842.frow with h5988 | h5988
          · rw [ite_t h5988] at h; refine Ro.p (Eq.trans (hp.ld 0 (off := 8) (n := none) (v := (V.bool y5842.frow)) rfl (by kernel_rfl)) (bool_of h5988)) ?_;refine Ro.t 8 ?_;refine Ro.d (mkE [(1,(V.fp (E_Unit.e x1))),(0,(vI x2)),(0,(V.fp (E_Code.e x0))),(3,(V.ptr b5844 0 0)),(10,(V.bool false))] 158) ?_;exact w69_j3 h hp
          · rw [ite_f h5988] at h; refine Ro.p (Eq.trans (hp.ld 0 (off := 8) (n := none) (v := (V.bool y5842.frow)) rfl (by kernel_rfl)) (bool_of h5988)) ?_;refine Ro.t 8 ?_;refine Ro.d (mkE [(1,(V.fp (E_Unit.e x1))),(0,(vI x2)),(0,(V.fp (E_Code.e x0))),(3,(V.ptr b5844 0 0)),(10,(V.bool (x0.fBits != (0 : Int))))] 158) ?_;exact w69_j3 h hp
def F69_j8 (x0 : T_Code) (x1 : T_Unit) (x2 : Int) (y5842 : T_form) (y5978 : Bool) : Option Bool :=
  if y5978 then
    F69_j3 x0 x1 x2 y5842 (y5978)
  else
    if y5842.fto then
      F69_j9 x0 x1 x2 y5842 (false)
    else
      F69_j9 x0 x1 x2 y5842 ((x0.fTo != (0 : Int)))
theorem w69_j8 {x0 : T_Code} {x1 : T_Unit} {x2 : Int} {y5842 : T_form} {y5978 : Bool} {r : Bool} (h : F69_j8 x0 x1 x2 y5842 y5978 = some r) {b5844 : Nat} {H : Heap} {L : List Ob} (hp : HP H ((some (b5844,0),[(V.int .u8 y5842.fa),(V.int .u8 y5842.fb),(V.int .u8 y5842.fc),(V.bool y5842.fop),(V.bool y5842.ft),(V.bool y5842.fto),(V.bool y5842.ftrap),(V.bool y5842.fbits),(V.bool y5842.frow)]) :: L)) :
    Run T i69n16 (mkE [(1,(V.fp (E_Unit.e x1))),(0,(vI x2)),(0,(V.fp (E_Code.e x0))),(3,(V.ptr b5844 0 0)),(10,(V.bool y5978))] 158) H (thn T (.clr [19,20,21,22,23,24,25,26,27,28,29,30,31,32,33,34,35,36,37,38,39,40,41,42,43,44,45,46,47,48,49,50,51,52,53,54,55,56,57,58,59,60,61,62,63] i69n42) (blk 0 (thn T (.clr [6,18,19,20,21,22,23,24,25,26,27,28,29,30,31,32,33,34,35,36,37,38,39,40,41,42,43,44,45,46,47,48,49,50,51,52,53,54,55,56,57,58,59,60,61,62,63,64,65,66,67,68,69,70,71,72,73,74,75,76,77,78,79,80,81,82,83,84,85,86,87,88,89,90,91,92,93,94,95,96,97,98,99,100,101,102,103,104,105,106,107,108,109,110,111,112,113,114,115,116,117,118,119,120,121,122,123,124,125,126,127,128,129,130,131,132] i69n57) (finE none [6] (Q69 L r))))) := by
  unfold F69_j8 at h;rcases tf y5978 with h5979 | h5979
  · rw [ite_t h5979] at h; refine Rn.t h5979 ?_;refine Run.skip ?_;refine Rn.c (mkE [(1,(V.fp (E_Unit.e x1))),(0,(vI x2)),(0,(V.fp (E_Code.e x0))),(3,(V.ptr b5844 0 0)),(10,(V.bool y5978))] 158) ?_;exact w69_j3 h hp
  · rw [ite_f h5979] at h; refine Rn.f h5979 ?_;refine Rn.g ?_;refine Ro.t 1 ?_;rcases tf y5842.fto with h5989 | h5989
    · rw [ite_t h5989] at h; refine Ro.p (Eq.trans (hp.ld 0 (off := 5) (n := none) (v := (V.bool y5842.fto)) rfl (by kernel_rfl)) (bool_of h5989)) ?_;refine Ro.t 7 ?_;refine Ro.d (mkE [(1,(V.fp (E_Unit.e x1))),(0,(vI x2)),(0,(V.fp (E_Code.e x0))),(3,(V.ptr b5844 0 0)),(10,(V.bool false))] 158) ?_;exact w69_j9 h hp
    · rw [ite_f h5989] at h; refine Ro.p (Eq.trans (hp.ld 0 (off := 5) (n := none) (v := (V.bool y5842.fto)) rfl (by kernel_rfl)) (bool_of h5989)) ?_;refine Ro.t 7 ?_;refine Ro.d (mkE [(1,(V.fp (E_Unit.e x1))),(0,(vI x2)),(0,(V.fp (E_Code.e x0))),(3,(V.ptr b5844 0 0)),(10,(V.bool (x0.fTo != (0 : Int))))] 158) ?_;exact w69_j9 h hp
def F69_j7 (x0 : T_Code) (x1 : T_Unit) (x2 : Int) (y5842 : T_form) (y5975 : Bool) : Option Bool :=
  if y5975 then
    F69_j3 x0 x1 x2 y5842 (y5975)
  else
    if y5842.ft then
      F69_j8 x0 x1 x2 y5842 (false)
    else
      F69_j8 x0 x1 x2 y5842 ((x0.fType != (0 : Int)))
theorem w69_j7 {x0 : T_Code} {x1 : T_Unit} {x2 : Int} {y5842 : T_form} {y5975 : Bool} {r : Bool} (h : F69_j7 x0 x1 x2 y5842 y5975 = some r) {b5844 : Nat} {H : Heap} {L : List Ob} (hp : HP H ((some (b5844,0),[(V.int .u8 y5842.fa),(V.int .u8 y5842.fb),(V.int .u8 y5842.fc),(V.bool y5842.fop),(V.bool y5842.ft),(V.bool y5842.fto),(V.bool y5842.ftrap),(V.bool y5842.fbits),(V.bool y5842.frow)]) :: L)) :
    Run T i69n18 (mkE [(1,(V.fp (E_Unit.e x1))),(0,(vI x2)),(0,(V.fp (E_Code.e x0))),(3,(V.ptr b5844 0 0)),(10,(V.bool y5975))] 158) H (thn T (.clr [19,20,21,22,23,24,25,26,27,28,29,30,31,32,33,34,35,36,37,38,39,40,41,42,43,44,45,46,47,48,49,50,51,52,53,54,55,56,57,58,59,60,61,62,63] i69n42) (blk 0 (thn T (.clr [6,18,19,20,21,22,23,24,25,26,27,28,29,30,31,32,33,34,35,36,37,38,39,40,41,42,43,44,45,46,47,48,49,50,51,52,53,54,55,56,57,58,59,60,61,62,63,64,65,66,67,68,69,70,71,72,73,74,75,76,77,78,79,80,81,82,83,84,85,86,87,88,89,90,91,92,93,94,95,96,97,98,99,100,101,102,103,104,105,106,107,108,109,110,111,112,113,114,115,116,117,118,119,120,121,122,123,124,125,126,127,128,129,130,131,132] i69n57) (finE none [6] (Q69 L r))))) := by
  unfold F69_j7 at h;rcases tf y5975 with h5976 | h5976
  · rw [ite_t h5976] at h; refine Rn.t h5976 ?_;refine Run.skip ?_;refine Rn.c (mkE [(1,(V.fp (E_Unit.e x1))),(0,(vI x2)),(0,(V.fp (E_Code.e x0))),(3,(V.ptr b5844 0 0)),(10,(V.bool y5975))] 158) ?_;exact w69_j3 h hp
  · rw [ite_f h5976] at h; refine Rn.f h5976 ?_;refine Rn.g ?_;refine Ro.t 1 ?_;rcases tf y5842.ft with h5990 | h5990
    · rw [ite_t h5990] at h; refine Ro.p (Eq.trans (hp.ld 0 (off := 4) (n := none) (v := (V.bool y5842.ft)) rfl (by kernel_rfl)) (bool_of h5990)) ?_;refine Ro.t 7 ?_;refine Ro.d (mkE [(1,(V.fp (E_Unit.e x1))),(0,(vI x2)),(0,(V.fp (E_Code.e x0))),(3,(V.ptr b5844 0 0)),(10,(V.bool false))] 158) ?_;exact w69_j8 h hp
    · rw [ite_f h5990] at h; refine Ro.p (Eq.trans (hp.ld 0 (off := 4) (n := none) (v := (V.bool y5842.ft)) rfl (by kernel_rfl)) (bool_of h5990)) ?_;refine Ro.t 7 ?_;refine Ro.d (mkE [(1,(V.fp (E_Unit.e x1))),(0,(vI x2)),(0,(V.fp (E_Code.e x0))),(3,(V.ptr b5844 0 0)),(10,(V.bool (x0.fType != (0 : Int))))] 158) ?_;exact w69_j8 h hp
def F69 (x0 : T_Code) (x1 : T_Unit) (x2 : Int) : Option Bool :=
  (F82 x0.fKind).bind fun y5839 =>
  if (!y5839) then
    some false
  else
    (idx G0 x0.fKind).bind fun y5842 =>
    if y5842.fop then
      F69_j7 x0 x1 x2 y5842 (false)
    else
      F69_j7 x0 x1 x2 y5842 ((x0.fOp != (0 : Int)))
theorem w69 {x0 : T_Code} {x1 : T_Unit} {x2 : Int} {r : Bool} (h : F69 x0 x1 x2 = some r) {H : Heap} {L : List Ob} (hp : HP H (L)) : Fn T 69 [(E_Code.e x0),(V.fp (E_Unit.e x1)),(vI x2)] H (Q69 L r) := by
  refine Fn.enterE t69 (e0 := (mkE [(0,(E_Code.e x0)),(0,(V.fp (E_Unit.e x1))),(0,(vI x2))] 174)) (by kernel_rfl) ?_;show Run T (.clr [] i69n61) _ _ (finE none [6] (Q69 L r));refine Rn.k (mkE [(0,(E_Code.e x0)),(0,(V.fp (E_Unit.e x1))),(0,(vI x2))] 174) ?_;unfold F69 at h;refine Rn.g ?_;refine Ro.t 2 ?_;refine Ro.d (mkE [(1,(V.fp (E_Unit.e x1))),(0,(vI x2)),(0,(V.fp (E_Code.e x0)))] 173) ?_;refine Run.seq ?_;refine Rn.g ?_;refine Ro.t 2 ?_;obtain ⟨y5839,h5840,h⟩ := bind_some h;refine RunO.c1 (by kernel_rfl) (by kernel_rfl) (c82 h5840 _) ?_;refine Ro.t 1 ?_;refine Ro.d (mkE [(1,(V.fp (E_Unit.e x1))),(0,(vI x2)),(0,(V.fp (E_Code.e x0))),(9,(V.bool (!y5839)))] 163) ?_;rcases tf (!y5839) with h5841 | h5841
  · rw [ite_t h5841] at h; refine Rn.t h5841 ?_;refine Rn.g ?_;refine Ro.t 1 ?_;refine Ro.d (mkE [(6,(V.bool false))] 170) ?_;refine Run.ret ?_;obtain rfl := Option.some.inj h;exact ⟨(V.bool false),(by kernel_rfl),(by kernel_rfl),hp⟩
  · rw [ite_f h5841] at h; refine Rn.f h5841 ?_;refine Run.skip ?_;refine Rn.c (mkE [(1,(V.fp (E_Unit.e x1))),(0,(vI x2)),(0,(V.fp (E_Code.e x0)))] 173) ?_;refine Rn.g ?_;refine Ro.t 2 ?_;obtain ⟨y5842,h5843,h⟩ := bind_some h;refine Ro.p (idxp_fp E_form (l := G0) .u8 (n := 18) (cs := [V.int .u8 0,V.int .u8 0,V.int .u8 0,V.bool false,V.bool false,V.bool false,V.bool false,V.bool false,V.bool false,V.int .u8 1,V.int .u8 0,V.int .u8 0,V.bool false,V.bool false,V.bool false,V.bool false,V.bool true,V.bool false,V.int .u8 1,V.int .u8 1,V.int .u8 0,V.bool false,V.bool false,V.bool false,V.bool false,V.bool false,V.bool false,V.int .u8 1,V.int .u8 1,V.int .u8 7,V.bool true,V.bool true,V.bool false,V.bool false,V.bool false,V.bool false,V.int .u8 1,V.int .u8 1,V.int .u8 0,V.bool false,V.bool true,V.bool true,V.bool false,V.bool false,V.bool false,V.int .u8 1,V.int .u8 2,V.int .u8 0,V.bool false,V.bool false,V.bool false,V.bool false,V.bool false,V.bool false,V.int .u8 2,V.int .u8 1,V.int .u8 0,V.bool false,V.bool false,V.bool false,V.bool false,V.bool false,V.bool false,V.int .u8 1,V.int .u8 1,V.int .u8 0,V.bool false,V.bool false,V.bool false,V.bool false,V.bool false,V.bool true,V.int .u8 1,V.int .u8 1,V.int .u8 0,V.bool false,V.bool false,V.bool false,V.bool false,V.bool false,V.bool true,V.int .u8 0,V.int .u8 0,V.int .u8 0,V.bool false,V.bool false,V.bool false,V.bool false,V.bool false,V.bool true,V.int .u8 1,V.int .u8 4,V.int .u8 0,V.bool false,V.bool false,V.bool false,V.bool false,V.bool false,V.bool false,V.int .u8 5,V.int .u8 1,V.int .u8 0,V.bool false,V.bool false,V.bool false,V.bool false,V.bool false,V.bool false,V.int .u8 6,V.int .u8 0,V.int .u8 0,V.bool false,V.bool false,V.bool false,V.bool false,V.bool false,V.bool false,V.int .u8 1,V.int .u8 0,V.int .u8 0,V.bool false,V.bool true,V.bool false,V.bool false,V.bool false,V.bool false,V.int .u8 3,V.int .u8 0,V.int .u8 0,V.bool false,V.bool false,V.bool false,V.bool false,V.bool false,V.bool false,V.int .u8 1,V.int .u8 3,V.int .u8 3,V.bool false,V.bool false,V.bool false,V.bool false,V.bool false,V.bool false,V.int .u8 1,V.int .u8 0,V.int .u8 0,V.bool false,V.bool false,V.bool false,V.bool false,V.bool false,V.bool false,V.int .u8 0,V.int .u8 0,V.int .u8 0,V.bool false,V.bool false,V.bool false,V.bool true,V.bool false,V.bool false]) (by kernel_rfl) (by kernel_rfl) h5843) ?_;refine Ro.t 1 ?_;refine RunO.alloc hp (by kernel_rfl) ?_;intro b5844 H hp;refine RunO.st hp (by kernel_rfl) 0 (off := 0) (v := (E_form.e y5842)) (cs' := [(V.int .u8 y5842.fa),(V.int .u8 y5842.fb),(V.int .u8 y5842.fc),(V.bool y5842.fop),(V.bool y5842.ft),(V.bool y5842.fto),(V.bool y5842.ftrap),(V.bool y5842.fbits),(V.bool y5842.frow)]) rfl (by kernel_rfl) (by kernel_rfl) (by kernel_rfl) ?_;intro H hp;refine Ro.d (mkE [(1,(V.fp (E_Unit.e x1))),(0,(vI x2)),(0,(V.fp (E_Code.e x0))),(3,(V.ptr b5844 0 0))] 169) ?_;refine Run.seq ?_;refine Run.block ?_;refine Run.seq ?_;refine Rn.g ?_;refine Ro.t 1 ?_;rcases tf y5842.fop with h5991 | h5991
    · rw [ite_t h5991] at h; refine Ro.p (Eq.trans (hp.ld 0 (off := 3) (n := none) (v := (V.bool y5842.fop)) rfl (by kernel_rfl)) (bool_of h5991)) ?_;refine Ro.t 7 ?_;refine Ro.d (mkE [(1,(V.fp (E_Unit.e x1))),(0,(vI x2)),(0,(V.fp (E_Code.e x0))),(3,(V.ptr b5844 0 0)),(10,(V.bool false))] 158) ?_;exact w69_j7 h hp
    · rw [ite_f h5991] at h; refine Ro.p (Eq.trans (hp.ld 0 (off := 3) (n := none) (v := (V.bool y5842.fop)) rfl (by kernel_rfl)) (bool_of h5991)) ?_;refine Ro.t 7 ?_;refine Ro.d (mkE [(1,(V.fp (E_Unit.e x1))),(0,(vI x2)),(0,(V.fp (E_Code.e x0))),(3,(V.ptr b5844 0 0)),(10,(V.bool (x0.fOp != (0 : Int))))] 158) ?_;exact w69_j7 h hp
theorem c69 {x0 : T_Code} {x1 : T_Unit} {x2 : Int} {r : Bool} (h : F69 x0 x1 x2 = some r) (s : Bool) : Fn T 69 [(E_Code.e x0),(V.fp (E_Unit.e x1)),(vI x2)] [] (fun v hh => deep s hh deepN v = some (EB.e r)) := by
  refine (w69 h HP.nil).mono ?_;rintro v hh ⟨rfl,hp⟩;exact EB.hd s hh 38 _ (.inr rfl)
abbrev Q44 (L : List Ob) (r : Bool) : V → Heap → Prop := fun v h => v = EB.e r ∧ HP h (L)
abbrev RR44 (L : List Ob) (r : Bool) : List V → Heap → Prop := fun e h => endR none [4] (Q44 L r) e h
abbrev I44_1 (x0 : T_Unit) (x1 : Int) (L : List Ob) : (Int) → List V → Heap → Prop := fun s e h => e = (mkE [(0,(V.fp (E_Unit.e x0))),(0,(vI x1)),(3,(V.fn 68 [])),(44,(Zl (EI .u8) x0.fParams)),(0,(vI (ln x0.fParams))),(0,(vI s))] 37) ∧ HP h (L)
abbrev J44_1 (x0 : T_Unit) (x1 : Int) (L : List Ob) : Unit → Nat → List V → Heap → Prop := fun a i e h => i = 0 ∧ clrEnv [4,5,7,47,48,49,50,51,52,53,54,55,56,57,58,59,60] e = (mkE [(0,(V.fp (E_Unit.e x0))),(0,(vI x1))] 88) ∧ HP h (L)
def F44_1_b (x0 : T_Unit) (x1 : Int) (y6044 : Int) : Option (Stp (Int) Bool Unit) :=
  if (decide (y6044 < ((List.length x0.fParams : Nat) : Int))) then
    (idx x0.fParams y6044).bind fun y6064 =>
    (F68 y6064).bind fun y6066 =>
    if (!y6066) then
      some (.ret false)
    else
      some (.next ((IntKind.i64.wrap (y6044 + (1 : Int)))))
  else
    some (.go ())
theorem w44_1_b {x0 : T_Unit} {x1 : Int} {y6044 : Int} {t : (Stp (Int) Bool Unit)} (h : F44_1_b x0 x1 y6044 = some t) {H : Heap} {L : List Ob} (hp : HP H (L)) :
    Run T i44n21 (mkE [(0,(V.fp (E_Unit.e x0))),(0,(vI x1)),(3,(V.fn 68 [])),(44,(Zl (EI .u8) x0.fParams)),(0,(vI (ln x0.fParams))),(0,(vI y6044))] 37) H (stp [4,7,53,54,55,56,57,58,59,60] (I44_1 x0 x1 L) (RR44 L) (J44_1 x0 x1 L) t) := by
  unfold F44_1_b at h;refine Rn.g ?_;refine Ro.t 1 ?_;refine Ro.d (mkE [(0,(V.fp (E_Unit.e x0))),(0,(vI x1)),(3,(V.fn 68 [])),(44,(Zl (EI .u8) x0.fParams)),(0,(vI (ln x0.fParams))),(0,(vI y6044)),(0,(V.bool (decide (y6044 < (ln x0.fParams)))))] 36) ?_;refine Run.seq ?_;rcases tf (decide (y6044 < (ln x0.fParams))) with h6058 | h6058
  · rw [ite_t h6058] at h; refine Rn.t h6058 ?_;refine Run.skip ?_;refine Rn.c (mkE [(0,(V.fp (E_Unit.e x0))),(0,(vI x1)),(3,(V.fn 68 [])),(44,(Zl (EI .u8) x0.fParams)),(0,(vI (ln x0.fParams))),(0,(vI y6044))] 37) ?_;refine Run.seq ?_;refine Run.block ?_;refine Rn.g ?_;obtain ⟨y6064,h6065,h⟩ := bind_some h;refine Ro.p (idx_fz (EI .u8) .i64 h6065) ?_;refine Ro.t 2 ?_;refine Ro.d (mkE [(0,(V.fp (E_Unit.e x0))),(0,(vI x1)),(3,(V.fn 68 [])),(1,(V.int .u8 y6064)),(42,(Zl (EI .u8) x0.fParams)),(0,(vI (ln x0.fParams))),(0,(vI y6044))] 37) ?_;refine Rn.g ?_;refine Ro.t 2 ?_;obtain ⟨y6066,h6067,h⟩ := bind_some h;refine RunO.h1 (n := 68) (caps := []) (us := [(V.int .u8 y6064)]) (by kernel_rfl) (by kernel_rfl) (by kernel_rfl) ((w68 h6067 hp).mono ?_);rintro _ H ⟨rfl,hp⟩;refine Ro.t 1 ?_;refine Ro.d (mkE [(0,(V.fp (E_Unit.e x0))),(0,(vI x1)),(3,(V.fn 68 [])),(44,(Zl (EI .u8) x0.fParams)),(0,(vI (ln x0.fParams))),(0,(vI y6044)),(6,(V.bool (!y6066)))] 30) ?_;rcases tf (!y6066) with h6068 | h6068
    · rw [ite_t h6068] at h; refine Rn.t h6068 ?_;refine Rn.g ?_;refine Ro.t 1 ?_;refine Ro.d (mkE [(4,(V.bool false))] 85) ?_;refine Run.ret ?_;obtain rfl := Option.some.inj h;show RR44 L _ _ _;exact ⟨(V.bool false),(by kernel_rfl),(by kernel_rfl),hp⟩
    · rw [ite_f h6068] at h; refine Rn.f h6068 ?_;refine Run.skip ?_;refine Run.clrE (ts := [4,7,54,55,56,57,58,59]) (b := (.rgn i44r18)) (Q := (stp [4,7,53,54,55,56,57,58,59,60] (I44_1 x0 x1 L) (RR44 L) (J44_1 x0 x1 L) t)) (e' := (mkE [(0,(V.fp (E_Unit.e x0))),(0,(vI x1)),(3,(V.fn 68 [])),(44,(Zl (EI .u8) x0.fParams)),(0,(vI (ln x0.fParams))),(0,(vI y6044))] 37)) (by kernel_rfl) ?_;refine Run.rgn ?_;refine Ro.t 2 ?_;refine RunO.nil ?_;obtain rfl := Option.some.inj h;show I44_1 x0 x1 L _ _ _;exact ⟨(by kernel_rfl),hp⟩
  · rw [ite_f h6058] at h; refine Rn.f h6058 ?_;refine Run.exit ?_;obtain rfl := Option.some.inj h;show J44_1 x0 x1 L () _ _ _;exact ⟨rfl,(by kernel_rfl),hp⟩
abbrev I44_2 (x0 : T_Unit) (x1 : Int) (L : List Ob) : (Int) → List V → Heap → Prop := fun s e h => e = (mkE [(0,(V.fp (E_Unit.e x0))),(0,(vI x1)),(62,(Zl E_Code x0.fCode)),(0,(vI (ln x0.fCode))),(0,(vI s))] 23) ∧ HP h (L)
abbrev J44_2 (x0 : T_Unit) (x1 : Int) (L : List Ob) : Unit → Nat → List V → Heap → Prop := fun a i e h => i = 2 ∧ clrEnv [1,4,9,61,62,63,64,65,66,67,68,69,70,71,72,73,74,75] e = (mkE [(0,(V.fp (E_Unit.e x0)))] 89) ∧ HP h (L)
def F44_2_b (x0 : T_Unit) (x1 : Int) (y6084 : Int) : Option (Stp (Int) Bool Unit) :=
  if (decide (y6084 < ((List.length x0.fCode : Nat) : Int))) then
    (idx x0.fCode y6084).bind fun y6107 =>
    (F69 y6107 x0 x1).bind fun y6110 =>
    if (!y6110) then
      some (.ret false)
    else
      some (.next ((IntKind.i64.wrap (y6084 + (1 : Int)))))
  else
    some (.go ())
theorem w44_2_b {x0 : T_Unit} {x1 : Int} {y6084 : Int} {t : (Stp (Int) Bool Unit)} (h : F44_2_b x0 x1 y6084 = some t) {H : Heap} {L : List Ob} (hp : HP H (L)) :
    Run T i44n39 (mkE [(0,(V.fp (E_Unit.e x0))),(0,(vI x1)),(62,(Zl E_Code x0.fCode)),(0,(vI (ln x0.fCode))),(0,(vI y6084))] 23) H (stp [4,9,67,68,69,70,71,72,73,74,75] (I44_2 x0 x1 L) (RR44 L) (J44_2 x0 x1 L) t) := by
  unfold F44_2_b at h;refine Rn.g ?_;refine Ro.t 1 ?_;refine Ro.d (mkE [(0,(V.fp (E_Unit.e x0))),(0,(vI x1)),(62,(Zl E_Code x0.fCode)),(0,(vI (ln x0.fCode))),(0,(vI y6084)),(0,(V.bool (decide (y6084 < (ln x0.fCode)))))] 22) ?_;refine Run.seq ?_;rcases tf (decide (y6084 < (ln x0.fCode))) with h6100 | h6100
  · rw [ite_t h6100] at h; refine Rn.t h6100 ?_;refine Run.skip ?_;refine Rn.c (mkE [(0,(V.fp (E_Unit.e x0))),(0,(vI x1)),(62,(Zl E_Code x0.fCode)),(0,(vI (ln x0.fCode))),(0,(vI y6084))] 23) ?_;refine Run.seq ?_;refine Run.block ?_;refine Rn.g ?_;obtain ⟨y6107,h6108,h⟩ := bind_some h;refine Ro.p (idx_fz E_Code .i64 h6108) ?_;refine Ro.t 1 ?_;refine RunO.alloc hp (by kernel_rfl) ?_;intro b6109 H hp;refine RunO.st hp (by kernel_rfl) 0 (off := 0) (v := (E_Code.e y6107)) (cs' := [(V.int .u8 y6107.fKind),(V.int .u8 y6107.fOp),(V.int .u8 y6107.fType),(V.int .u8 y6107.fTo),(V.int .u8 y6107.fTrap),(vI y6107.fA),(vI y6107.fB),(vI y6107.fC),(V.int .u64 y6107.fBits)]) rfl (by kernel_rfl) (by kernel_rfl) (by kernel_rfl) ?_;intro H hp;refine Ro.d (mkE [(0,(V.fp (E_Unit.e x0))),(0,(vI x1)),(7,(V.ptr b6109 0 0)),(54,(Zl E_Code x0.fCode)),(0,(vI (ln x0.fCode))),(0,(vI y6084))] 23) ?_;refine Rn.g ?_;refine Ro.p (hp.ld 0 (off := 0) (n := (some 9)) (v := (E_Code.e y6107)) rfl (by kernel_rfl)) ?_;refine Ro.t 2 ?_;obtain ⟨y6110,h6111,h⟩ := bind_some h;refine RunO.c1 (by kernel_rfl) (by kernel_rfl) (c69 h6111 _) ?_;refine Ro.t 1 ?_;refine Ro.d (mkE [(0,(V.fp (E_Unit.e x0))),(0,(vI x1)),(62,(Zl E_Code x0.fCode)),(0,(vI (ln x0.fCode))),(0,(vI y6084)),(7,(V.bool (!y6110)))] 15) ?_;rcases tf (!y6110) with h6112 | h6112
    · rw [ite_t h6112] at h; refine Rn.t h6112 ?_;refine Rn.g ?_;refine Ro.t 1 ?_;refine Ro.d (mkE [(4,(V.bool false))] 85) ?_;refine Run.ret ?_;obtain rfl := Option.some.inj h;show RR44 L _ _ _;have hp := hp.del 0;exact ⟨(V.bool false),(by kernel_rfl),(by kernel_rfl),hp⟩
    · rw [ite_f h6112] at h; refine Rn.f h6112 ?_;refine Run.skip ?_;refine Run.clrE (ts := [4,9,68,69,70,71,72,73,74]) (b := (.rgn i44r36)) (Q := (stp [4,9,67,68,69,70,71,72,73,74,75] (I44_2 x0 x1 L) (RR44 L) (J44_2 x0 x1 L) t)) (e' := (mkE [(0,(V.fp (E_Unit.e x0))),(0,(vI x1)),(62,(Zl E_Code x0.fCode)),(0,(vI (ln x0.fCode))),(0,(vI y6084))] 23)) (by kernel_rfl) ?_;refine Run.rgn ?_;refine Ro.t 2 ?_;refine RunO.nil ?_;obtain rfl := Option.some.inj h;have hp := hp.del 0;show I44_2 x0 x1 L _ _ _;exact ⟨(by kernel_rfl),hp⟩
  · rw [ite_f h6100] at h; refine Rn.f h6100 ?_;refine Run.exit ?_;obtain rfl := Option.some.inj h;show J44_2 x0 x1 L () _ _ _;exact ⟨rfl,(by kernel_rfl),hp⟩
def F44 (x0 : T_Unit) (x1 : Int) : Option Bool :=
  if (decide (((List.length x0.fParams : Nat) : Int) > (8 : Int))) then
    some false
  else
    (F68 x0.fResult).bind fun y6026 =>
    if y6026 then
      if (decide (x0.fFrame < (0 : Int))) then
        some false
      else
        if (decide (x0.fFrame > (1073741824 : Int))) then
          some false
        else
          if (((List.length x0.fCode : Nat) : Int) == (0 : Int)) then
            some false
          else
            (iter (fun s : (Int) => F44_1_b x0 x1 s) FUEL ((0 : Int))).bind fun o => match o with
            | .ret r => some r
            | .go () =>
              (iter (fun s : (Int) => F44_2_b x0 x1 s) FUEL ((0 : Int))).bind fun o => match o with
              | .ret r => some r
              | .go () =>
                (idx x0.fCode (IntKind.i64.wrap (((List.length x0.fCode : Nat) : Int) - (1 : Int)))).bind fun y6114 =>
                some (decide (y6114.fKind ≥ (14 : Int)))
    else
      some false
theorem w44 {x0 : T_Unit} {x1 : Int} {r : Bool} (h : F44 x0 x1 = some r) {H : Heap} {L : List Ob} (hp : HP H (L)) : Fn T 44 [(V.fp (E_Unit.e x0)),(vI x1)] H (Q44 L r) := by
  refine Fn.enterE t44 (e0 := (mkE [(0,(V.fp (E_Unit.e x0))),(0,(vI x1))] 88)) (by kernel_rfl) ?_;show Run T (.clr [] i44n49) _ _ (finE none [4] (Q44 L r));refine Rn.k (mkE [(0,(V.fp (E_Unit.e x0))),(0,(vI x1))] 88) ?_;unfold F44 at h;refine Rn.g ?_;refine Ro.t 1 ?_;refine Ro.d (mkE [(0,(V.fp (E_Unit.e x0))),(0,(vI x1))] 88) ?_;refine Rn.g ?_;refine Ro.t 1 ?_;refine Ro.d (mkE [(0,(V.fp (E_Unit.e x0))),(0,(vI x1)),(3,(V.fn 68 []))] 84) ?_;refine Run.seq ?_;refine Rn.g ?_;refine Ro.t 4 ?_;refine Ro.p (len_fz (EI .u8) x0.fParams) ?_;rcases tf (decide ((ln x0.fParams) > (8 : Int))) with h6025 | h6025
  · rw [ite_t h6025] at h; refine Ro.p (bool_of h6025) ?_;refine Ro.t 31 ?_;refine Ro.d (mkE [(0,(V.fp (E_Unit.e x0))),(0,(vI x1)),(3,(V.fn 68 [])),(40,(V.bool true))] 43) ?_;refine Run.condT (by kernel_rfl) ?_;refine Rn.g ?_;refine Ro.t 1 ?_;refine Ro.d (mkE [(4,(V.bool false))] 85) ?_;refine Run.ret ?_;obtain rfl := Option.some.inj h;exact ⟨(V.bool false),(by kernel_rfl),(by kernel_rfl),hp⟩
  · rw [ite_f h6025] at h; refine Ro.p (bool_of h6025) ?_;refine Ro.t 6 ?_;obtain ⟨y6026,h6027,h⟩ := bind_some h;rcases tf y6026 with h6028 | h6028
    · subst h6028; rw [if_pos rfl] at h;refine RunO.h1 (n := 68) (caps := []) (us := [(V.int .u8 x0.fResult)]) (by kernel_rfl) (by kernel_rfl) (by kernel_rfl) ((w68 h6027 hp).mono ?_);rintro _ H ⟨rfl,hp⟩;refine Ro.t 7 ?_;rcases tf (decide (x0.fFrame < (0 : Int))) with h6029 | h6029
      · rw [ite_t h6029] at h; refine Ro.p (bool_of h6029) ?_;refine Ro.t 16 ?_;refine Ro.d (mkE [(0,(V.fp (E_Unit.e x0))),(0,(vI x1)),(3,(V.fn 68 [])),(40,(V.bool true))] 43) ?_;refine Run.condT (by kernel_rfl) ?_;refine Rn.g ?_;refine Ro.t 1 ?_;refine Ro.d (mkE [(4,(V.bool false))] 85) ?_;refine Run.ret ?_;obtain rfl := Option.some.inj h;exact ⟨(V.bool false),(by kernel_rfl),(by kernel_rfl),hp⟩
      · rw [ite_f h6029] at h; refine Ro.p (bool_of h6029) ?_;refine Ro.t 6 ?_;rcases tf (decide (x0.fFrame > (1073741824 : Int))) with h6030 | h6030
        · rw [ite_t h6030] at h; refine Ro.p (bool_of h6030) ?_;refine Ro.t 9 ?_;refine Ro.d (mkE [(0,(V.fp (E_Unit.e x0))),(0,(vI x1)),(3,(V.fn 68 [])),(40,(V.bool true))] 43) ?_;refine Run.condT (by kernel_rfl) ?_;refine Rn.g ?_;refine Ro.t 1 ?_;refine Ro.d (mkE [(4,(V.bool false))] 85) ?_;refine Run.ret ?_;obtain rfl := Option.some.inj h;exact ⟨(V.bool false),(by kernel_rfl),(by kernel_rfl),hp⟩
        · rw [ite_f h6030] at h; refine Ro.p (bool_of h6030) ?_;refine Ro.t 6 ?_;refine Ro.p (len_fz E_Code x0.fCode) ?_;refine Ro.t 2 ?_;refine Ro.d (mkE [(0,(V.fp (E_Unit.e x0))),(0,(vI x1)),(3,(V.fn 68 [])),(40,(V.bool ((ln x0.fCode) == (0 : Int))))] 43) ?_;rcases tf ((ln x0.fCode) == (0 : Int)) with h6031 | h6031
          · rw [ite_t h6031] at h; refine Rn.t h6031 ?_;refine Rn.g ?_;refine Ro.t 1 ?_;refine Ro.d (mkE [(4,(V.bool false))] 85) ?_;refine Run.ret ?_;obtain rfl := Option.some.inj h;exact ⟨(V.bool false),(by kernel_rfl),(by kernel_rfl),hp⟩
          · rw [ite_f h6031] at h; refine Rn.f h6031 ?_;refine Run.skip ?_;refine Rn.c (mkE [(0,(V.fp (E_Unit.e x0))),(0,(vI x1)),(3,(V.fn 68 []))] 84) ?_;refine Run.seq ?_;refine Rn.g ?_;refine Ro.t 4 ?_;refine Ro.p (len_fz (EI .u8) x0.fParams) ?_;refine Ro.t 1 ?_;refine Ro.d (mkE [(0,(V.fp (E_Unit.e x0))),(0,(vI x1)),(3,(V.fn 68 [])),(44,(Zl (EI .u8) x0.fParams)),(0,(vI (ln x0.fParams))),(0,(vI (0 : Int)))] 37) ?_;refine Run.block ?_;obtain ⟨o,h6069,h⟩ := bind_some h;refine (Run.iter (I := I44_1 x0 x1 L) (RR := RR44 L) (J := J44_1 x0 x1 L) (fun s e h' t hI hf => ?_) FUEL h6069 (by exact ⟨(by kernel_rfl),hp⟩)).mono ?_
            · obtain ⟨rfl,hp⟩ := hI; exact w44_1_b hf hp
            · rintro X e' H hq;cases o with
              | ret r => cases X <;> first | exact hq.elim | (cases h; exact hq)
              | go a =>
                cases X with | nrm => exact hq.elim | ret => exact hq.elim | pan v => exact hq.elim | ext i => ?_;obtain ⟨rfl,he,hp⟩ := hq
                dsimp only at h
                refine Run.clrE (ts := [4,5,7,47,48,49,50,51,52,53,54,55,56,57,58,59,60]) (b := i44n45) (Q := (finE none [4] (Q44 L r))) he ?_;refine Run.seq ?_;refine Rn.g ?_;refine Ro.t 4 ?_;refine Ro.p (len_fz E_Code x0.fCode) ?_;refine Ro.t 1 ?_;refine Ro.d (mkE [(0,(V.fp (E_Unit.e x0))),(0,(vI x1)),(62,(Zl E_Code x0.fCode)),(0,(vI (ln x0.fCode))),(0,(vI (0 : Int)))] 23) ?_;refine Run.block ?_;obtain ⟨o,h6113,h⟩ := bind_some h;refine (Run.iter (I := I44_2 x0 x1 L) (RR := RR44 L) (J := J44_2 x0 x1 L) (fun s e h' t hI hf => ?_) FUEL h6113 (by exact ⟨(by kernel_rfl),hp⟩)).mono ?_
                · obtain ⟨rfl,hp⟩ := hI; exact w44_2_b hf hp
                · rintro X e' H hq;cases o with
                  | ret r => cases X <;> first | exact hq.elim | (cases h; exact hq)
                  | go a =>
                    cases X with | nrm => exact hq.elim | ret => exact hq.elim | pan v => exact hq.elim | ext i => ?_;obtain ⟨rfl,he,hp⟩ := hq
                    dsimp only at h
                    refine Run.clrE (ts := [1,4,9,61,62,63,64,65,66,67,68,69,70,71,72,73,74,75]) (b := i44n44) (Q := (finE none [4] (Q44 L r))) he ?_;refine Rn.g ?_;refine Ro.t 8 ?_;refine Ro.p (len_fz E_Code x0.fCode) ?_;refine Ro.t 1 ?_;obtain ⟨y6114,h6115,h⟩ := bind_some h;refine Ro.p (idx_fz E_Code .i64 h6115) ?_;refine Ro.t 4 ?_;refine Ro.d (mkE [(4,(V.bool (decide (y6114.fKind ≥ (14 : Int)))))] 85) ?_;refine Run.ret ?_;obtain rfl := Option.some.inj h;exact ⟨(V.bool (decide (y6114.fKind ≥ (14 : Int)))),(by kernel_rfl),(by kernel_rfl),hp⟩
    · subst h6028; rw [if_neg (by decide)] at h;refine RunO.h1 (n := 68) (caps := []) (us := [(V.int .u8 x0.fResult)]) (by kernel_rfl) (by kernel_rfl) (by kernel_rfl) ((w68 h6027 hp).mono ?_);rintro _ H ⟨rfl,hp⟩;refine Ro.t 24 ?_;refine Ro.d (mkE [(0,(V.fp (E_Unit.e x0))),(0,(vI x1)),(3,(V.fn 68 [])),(40,(V.bool true))] 43) ?_;refine Run.condT (by kernel_rfl) ?_;refine Rn.g ?_;refine Ro.t 1 ?_;refine Ro.d (mkE [(4,(V.bool false))] 85) ?_;refine Run.ret ?_;obtain rfl := Option.some.inj h;exact ⟨(V.bool false),(by kernel_rfl),(by kernel_rfl),hp⟩
theorem c44 {x0 : T_Unit} {x1 : Int} {r : Bool} (h : F44 x0 x1 = some r) (s : Bool) : Fn T 44 [(V.fp (E_Unit.e x0)),(vI x1)] [] (fun v hh => deep s hh deepN v = some (EB.e r)) := by
  refine (w44 h HP.nil).mono ?_;rintro v hh ⟨rfl,hp⟩;exact EB.hd s hh 38 _ (.inr rfl)
abbrev Q20 (L : List Ob) (r : (Int × Int)) : V → Heap → Prop := fun v h => v = .tup [(EI .i64).e r.1,(EI .i64).e r.2] ∧ HP h (L)
abbrev RR20 (L : List Ob) (r : (Int × Int)) : List V → Heap → Prop := fun e h => endR none [2,3] (Q20 L r) e h
abbrev I20_1 (x0 : (List T_Unit)) (L : List Ob) : (Int) → List V → Heap → Prop := fun s e h => e = (mkE [(0,(Zl E_Unit x0)),(8,(vI (ln x0))),(0,(vI s))] 11) ∧ HP h (L)
abbrev J20_1 (x0 : (List T_Unit)) (L : List Ob) : Unit → Nat → List V → Heap → Prop := fun a i e h => i = 0 ∧ clrEnv [0,2,3,4,8,9,10,11,12,13,14,15,16,17,18,19,20,21] e = (mkE [] 22) ∧ HP h (L)
def F20_1_b (x0 : (List T_Unit)) (y6151 : Int) : Option (Stp (Int) (Int × Int) Unit) :=
  if (decide (y6151 < ((List.length x0 : Nat) : Int))) then
    (idx x0 y6151).bind fun y6171 =>
    (F44 y6171 ((List.length x0 : Nat) : Int)).bind fun y6173 =>
    if (!y6173) then
      some (.ret ((4 : Int),y6151))
    else
      some (.next ((IntKind.i64.wrap (y6151 + (1 : Int)))))
  else
    some (.go ())
theorem w20_1_b {x0 : (List T_Unit)} {y6151 : Int} {t : (Stp (Int) (Int × Int) Unit)} (h : F20_1_b x0 y6151 = some t) {H : Heap} {L : List Ob} (hp : HP H (L)) :
    Run T i20n20 (mkE [(0,(Zl E_Unit x0)),(8,(vI (ln x0))),(0,(vI y6151))] 11) H (stp [2,3,4,11,12,13,14,15,16,17,18,19,20,21] (I20_1 x0 L) (RR20 L) (J20_1 x0 L) t) := by
  unfold F20_1_b at h;refine Rn.g ?_;refine Ro.t 1 ?_;refine Ro.d (mkE [(0,(Zl E_Unit x0)),(8,(vI (ln x0))),(0,(vI y6151)),(0,(V.bool (decide (y6151 < (ln x0)))))] 10) ?_;refine Run.seq ?_;rcases tf (decide (y6151 < (ln x0))) with h6165 | h6165
  · rw [ite_t h6165] at h; refine Rn.t h6165 ?_;refine Run.skip ?_;refine Rn.c (mkE [(0,(Zl E_Unit x0)),(8,(vI (ln x0))),(0,(vI y6151))] 11) ?_;refine Run.seq ?_;refine Run.block ?_;refine Rn.g ?_;refine Ro.t 2 ?_;refine Ro.d (mkE [(0,(Zl E_Unit x0)),(3,(vI y6151)),(4,(vI (ln x0))),(0,(vI y6151))] 11) ?_;refine Rn.g ?_;refine Ro.t 2 ?_;obtain ⟨y6171,h6172,h⟩ := bind_some h;refine Ro.p (idx_fz E_Unit .i64 h6172) ?_;refine Ro.t 1 ?_;refine Ro.p (len_fz E_Unit x0) ?_;obtain ⟨y6173,h6174,h⟩ := bind_some h;refine RunO.c1 (by kernel_rfl) (by kernel_rfl) (c44 h6174 _) ?_;refine Ro.t 1 ?_;refine Ro.d (mkE [(0,(Zl E_Unit x0)),(3,(vI y6151)),(4,(vI (ln x0))),(0,(vI y6151)),(8,(V.bool (!y6173)))] 2) ?_;rcases tf (!y6173) with h6175 | h6175
    · rw [ite_t h6175] at h; refine Rn.t h6175 ?_;refine Rn.g ?_;refine Ro.t 3 ?_;refine Ro.d (mkE [(2,(vI (4 : Int))),(0,(vI y6151))] 18) ?_;refine Run.ret ?_;obtain rfl := Option.some.inj h;show RR20 L _ _ _;exact ⟨(V.tup [(vI (4 : Int)),(vI y6151)]),(by kernel_rfl),(by kernel_rfl),hp⟩
    · rw [ite_f h6175] at h; refine Rn.f h6175 ?_;refine Run.skip ?_;refine Run.clrE (ts := [2,3,4,12,13,14,15,16,17,18,19,20]) (b := (.rgn i20r17)) (Q := (stp [2,3,4,11,12,13,14,15,16,17,18,19,20,21] (I20_1 x0 L) (RR20 L) (J20_1 x0 L) t)) (e' := (mkE [(0,(Zl E_Unit x0)),(8,(vI (ln x0))),(0,(vI y6151))] 11)) (by kernel_rfl) ?_;refine Run.rgn ?_;refine Ro.t 2 ?_;refine RunO.nil ?_;obtain rfl := Option.some.inj h;show I20_1 x0 L _ _ _;exact ⟨(by kernel_rfl),hp⟩
  · rw [ite_f h6165] at h; refine Rn.f h6165 ?_;refine Run.exit ?_;obtain rfl := Option.some.inj h;show J20_1 x0 L () _ _ _;exact ⟨rfl,(by kernel_rfl),hp⟩
def F20 (x0 : (List T_Unit)) : Option (Int × Int) :=
  if (decide (((List.length x0 : Nat) : Int) > (64 : Int))) then
    some ((3 : Int),(0 : Int))
  else
    (iter (fun s : (Int) => F20_1_b x0 s) FUEL ((0 : Int))).bind fun o => match o with
    | .ret r => some r
    | .go () =>
      some ((0 : Int),(0 : Int))
theorem w20 {x0 : (List T_Unit)} {r : (Int × Int)} (h : F20 x0 = some r) {H : Heap} {L : List Ob} (hp : HP H (L)) : Fn T 20 [(Zl E_Unit x0)] H (Q20 L r) := by
  refine Fn.enterE t20 (e0 := (mkE [(0,(Zl E_Unit x0))] 21)) (by kernel_rfl) ?_;show Run T (.clr [] i20n28) _ _ (finE none [2,3] (Q20 L r));refine Rn.k (mkE [(0,(Zl E_Unit x0))] 21) ?_;unfold F20 at h;refine Rn.g ?_;refine Ro.t 2 ?_;refine Ro.d (mkE [(0,(Zl E_Unit x0))] 21) ?_;refine Run.seq ?_;refine Rn.g ?_;refine Ro.t 1 ?_;refine Ro.p (len_fz E_Unit x0) ?_;refine Ro.t 1 ?_;refine Ro.d (mkE [(0,(Zl E_Unit x0)),(6,(V.bool (decide ((ln x0) > (64 : Int)))))] 14) ?_;rcases tf (decide ((ln x0) > (64 : Int))) with h6138 | h6138
  · rw [ite_t h6138] at h; refine Rn.t h6138 ?_;refine Rn.g ?_;refine Ro.t 2 ?_;refine Ro.d (mkE [(2,(vI (3 : Int))),(0,(vI (0 : Int)))] 18) ?_;refine Run.ret ?_;obtain rfl := Option.some.inj h;exact ⟨(V.tup [(vI (3 : Int)),(vI (0 : Int))]),(by kernel_rfl),(by kernel_rfl),hp⟩
  · rw [ite_f h6138] at h; refine Rn.f h6138 ?_;refine Run.skip ?_;refine Rn.c (mkE [(0,(Zl E_Unit x0))] 21) ?_;refine Run.seq ?_;refine Rn.g ?_;refine Ro.t 1 ?_;refine Ro.p (len_fz E_Unit x0) ?_;refine Ro.t 1 ?_;refine Ro.d (mkE [(0,(Zl E_Unit x0)),(8,(vI (ln x0))),(0,(vI (0 : Int)))] 11) ?_;refine Run.block ?_;obtain ⟨o,h6176,h⟩ := bind_some h;refine (Run.iter (I := I20_1 x0 L) (RR := RR20 L) (J := J20_1 x0 L) (fun s e h' t hI hf => ?_) FUEL h6176 (by exact ⟨(by kernel_rfl),hp⟩)).mono ?_
    · obtain ⟨rfl,hp⟩ := hI; exact w20_1_b hf hp
    · rintro X e' H hq;cases o with
      | ret r => cases X <;> first | exact hq.elim | (cases h; exact hq)
      | go a =>
        cases X with | nrm => exact hq.elim | ret => exact hq.elim | pan v => exact hq.elim | ext i => ?_;obtain ⟨rfl,he,hp⟩ := hq
        dsimp only at h
        refine Run.clrE (ts := [0,2,3,4,8,9,10,11,12,13,14,15,16,17,18,19,20,21]) (b := i20n25) (Q := (finE none [2,3] (Q20 L r))) he ?_;refine Rn.g ?_;refine Ro.t 2 ?_;refine Ro.d (mkE [(2,(vI (0 : Int))),(0,(vI (0 : Int)))] 18) ?_;refine Run.ret ?_;obtain rfl := Option.some.inj h;exact ⟨(V.tup [(vI (0 : Int)),(vI (0 : Int))]),(by kernel_rfl),(by kernel_rfl),hp⟩
theorem c20 {x0 : (List T_Unit)} {r : (Int × Int)} (h : F20 x0 = some r) (s : Bool) : Fn T 20 [(Zl E_Unit x0)] [] (fun v hh => deep s hh deepN v = some (.tup [(EI .i64).e r.1,(EI .i64).e r.2])) := by
  refine (w20 h HP.nil).mono ?_;rintro v hh ⟨rfl,hp⟩;exact congrArg (Option.map V.tup) (omapc ((EI .i64).hd s hh 37 _ (.inr rfl)) (omapc ((EI .i64).hd s hh 37 _ (.inr rfl)) omapn))
abbrev Q12 (L : List Ob) (r : ((List Int) × Int)) : V → Heap → Prop := fun v h => ∃ (o0 : Option (Nat × Nat)) (q0 : List V),v = .tup [slv (EI .u8).z (EI .u8).ag (List.length r.1) o0,(EI .i64).e r.2] ∧ HP h ((o0,List.flatMap (EI .u8).c r.1 ++ q0) :: L)
abbrev RR12 (L : List Ob) (r : ((List Int) × Int)) : List V → Heap → Prop := fun e h => endR none [2,3] (Q12 L r) e h
abbrev I12_1 (x0 : (List T_Unit)) (L : List Ob) : ((List Int) × Int) → List V → Heap → Prop := fun s e h => ∃ o6430 : Option (Nat × Nat),∃ q6431 : List V,e = (mkE [(6,(slv (EI .u8).z (EI .u8).ag (List.length s.1) o6430)),(17,(Zl E_Unit x0)),(0,(vI (ln x0))),(0,(vI s.2))] 53) ∧ HP h ((o6430,List.flatMap (EI .u8).c s.1 ++ q6431) :: L)
abbrev J12_1 (x0 : (List T_Unit)) (L : List Ob) : ((List Int)) → Nat → List V → Heap → Prop := fun a i e h => i = 0 ∧ ∃ o6509 : Option (Nat × Nat),∃ q6510 : List V,clrEnv [0,8,10,12,24,25,26,27,28,29,30,31,32,33,34,35,36,37,38,39,40,41,42,43,44,45,46,47,48,49,50,51,52,53,54,55,56,57,58,59,60,61,62,63,64,65,66,67,68,69,70,71,72,73,74,75,76,77,78] e = (mkE [(6,(slv (EI .u8).z (EI .u8).ag (List.length a) o6509))] 73) ∧ HP h ((o6509,List.flatMap (EI .u8).c a ++ q6510) :: L)
abbrev I12_2 (x0 : (List T_Unit)) (y6432 : Int) (y6513 : T_Unit) (b6515 : Nat) (L : List Ob) : ((List Int) × Int) → List V → Heap → Prop := fun s e h => ∃ o6536 : Option (Nat × Nat),∃ q6537 : List V,e = (mkE [(6,(slv (EI .u8).z (EI .u8).ag (List.length s.1) o6536)),(1,(V.ptr b6515 0 0)),(15,(Zl E_Unit x0)),(0,(vI (ln x0))),(0,(vI y6432)),(17,(Zl (EI .u8) y6513.fParams)),(0,(vI (ln y6513.fParams))),(0,(vI s.2))] 33) ∧ HP h ((o6536,List.flatMap (EI .u8).c s.1 ++ q6537) :: (some (b6515,0),[(ES.e y6513.fName),(Zl (EI .u8) y6513.fParams),(V.int .u8 y6513.fResult),(vI y6513.fFrame),(Zl E_Code y6513.fCode)]) :: L)
abbrev J12_2 (x0 : (List T_Unit)) (y6432 : Int) (y6513 : T_Unit) (b6515 : Nat) (L : List Ob) : ((List Int)) → Nat → List V → Heap → Prop := fun a i e h => i = 2 ∧ ∃ o6547 : Option (Nat × Nat),∃ q6548 : List V,clrEnv [10,43,44,45,46,47,48,49,50,51,52,53,54] e = (mkE [(6,(slv (EI .u8).z (EI .u8).ag (List.length a) o6547)),(1,(V.ptr b6515 0 0)),(15,(Zl E_Unit x0)),(0,(vI (ln x0))),(0,(vI y6432))] 53) ∧ HP h ((o6547,List.flatMap (EI .u8).c a ++ q6548) :: (some (b6515,0),[(ES.e y6513.fName),(Zl (EI .u8) y6513.fParams),(V.int .u8 y6513.fResult),(vI y6513.fFrame),(Zl E_Code y6513.fCode)]) :: L)
def F12_2_b (x0 : (List T_Unit)) (y6432 : Int) (y6513 : T_Unit) (l6535 : (List Int)) (y6538 : Int) : Option (Stp ((List Int) × Int) ((List Int) × Int) ((List Int))) :=
  if (decide (y6538 < ((List.length y6513.fParams : Nat) : Int))) then
    (idx y6513.fParams y6538).bind fun y6551 =>
    (more 1 l6535 ([y6551] : List Int)).bind fun y6553 =>
    some (.next (y6553,(IntKind.i64.wrap (y6538 + (1 : Int)))))
  else
    some (.go (l6535))
theorem w12_2_b {x0 : (List T_Unit)} {y6432 : Int} {y6513 : T_Unit} {l6535 : (List Int)} {y6538 : Int} {t : (Stp ((List Int) × Int) ((List Int) × Int) ((List Int)))} (h : F12_2_b x0 y6432 y6513 l6535 y6538 = some t) {b6515 : Nat} {o6536 : Option (Nat × Nat)} {q6537 : List V} {H : Heap} {L : List Ob} (hp : HP H ((o6536,List.flatMap (EI .u8).c l6535 ++ q6537) :: (some (b6515,0),[(ES.e y6513.fName),(Zl (EI .u8) y6513.fParams),(V.int .u8 y6513.fResult),(vI y6513.fFrame),(Zl E_Code y6513.fCode)]) :: L)) :
    Run T i12n25 (mkE [(6,(slv (EI .u8).z (EI .u8).ag (List.length l6535) o6536)),(1,(V.ptr b6515 0 0)),(15,(Zl E_Unit x0)),(0,(vI (ln x0))),(0,(vI y6432)),(17,(Zl (EI .u8) y6513.fParams)),(0,(vI (ln y6513.fParams))),(0,(vI y6538))] 33) H (stp [10,47,48,49,50,51,52,53,54] (I12_2 x0 y6432 y6513 b6515 L) (RR12 L) (J12_2 x0 y6432 y6513 b6515 L) t) := by
  unfold F12_2_b at h;refine Rn.g ?_;refine Ro.t 1 ?_;refine Ro.d (mkE [(6,(slv (EI .u8).z (EI .u8).ag (List.length l6535) o6536)),(1,(V.ptr b6515 0 0)),(15,(Zl E_Unit x0)),(0,(vI (ln x0))),(0,(vI y6432)),(17,(Zl (EI .u8) y6513.fParams)),(0,(vI (ln y6513.fParams))),(0,(vI y6538)),(0,(V.bool (decide (y6538 < (ln y6513.fParams)))))] 32) ?_;refine Run.seq ?_;rcases tf (decide (y6538 < (ln y6513.fParams))) with h6550 | h6550
  · rw [ite_t h6550] at h; refine Rn.t h6550 ?_;refine Run.skip ?_;refine Rn.c (mkE [(6,(slv (EI .u8).z (EI .u8).ag (List.length l6535) o6536)),(1,(V.ptr b6515 0 0)),(15,(Zl E_Unit x0)),(0,(vI (ln x0))),(0,(vI y6432)),(17,(Zl (EI .u8) y6513.fParams)),(0,(vI (ln y6513.fParams))),(0,(vI y6538))] 33) ?_;refine Run.seq ?_;refine Run.block ?_;refine Rn.g ?_;obtain ⟨y6551,h6552,h⟩ := bind_some h;refine Ro.p (idx_fz (EI .u8) .i64 h6552) ?_;refine Ro.t 2 ?_;refine Ro.d (mkE [(6,(slv (EI .u8).z (EI .u8).ag (List.length l6535) o6536)),(1,(V.ptr b6515 0 0)),(1,(V.int .u8 y6551)),(13,(Zl E_Unit x0)),(0,(vI (ln x0))),(0,(vI y6432)),(17,(Zl (EI .u8) y6513.fParams)),(0,(vI (ln y6513.fParams))),(0,(vI y6538))] 33) ?_;refine Run.rgn ?_;refine Ro.t 3 ?_;obtain ⟨y6553,h6554,h⟩ := bind_some h;refine RunO.app1 (EI .u8) hp (by kernel_rfl) 0 (o := o6536) (l := l6535) (rest := q6537) (m := ([y6551] : List Int)) rfl (by kernel_rfl) (by kernel_rfl) ((EI .u8).new_fz _ ([y6551] : List Int)) (by kernel_rfl) (by kernel_rfl) h6554 ?_;intro o6555 H hp;refine Ro.t 1 ?_;refine RunO.nil ?_;refine Run.clrE (ts := [10,48,49,50,51,52,53]) (b := (.rgn i12r22)) (Q := (stp [10,47,48,49,50,51,52,53,54] (I12_2 x0 y6432 y6513 b6515 L) (RR12 L) (J12_2 x0 y6432 y6513 b6515 L) t)) (e' := (mkE [(6,(slv (EI .u8).z (EI .u8).ag (List.length y6553) o6555)),(1,(V.ptr b6515 0 0)),(15,(Zl E_Unit x0)),(0,(vI (ln x0))),(0,(vI y6432)),(17,(Zl (EI .u8) y6513.fParams)),(0,(vI (ln y6513.fParams))),(0,(vI y6538))] 33)) (by kernel_rfl) ?_;refine Run.rgn ?_;refine Ro.t 2 ?_;refine RunO.nil ?_;obtain rfl := Option.some.inj h;show I12_2 x0 y6432 y6513 b6515 L _ _ _;exact ⟨o6555,[],(by kernel_rfl),hp⟩
  · rw [ite_f h6550] at h; refine Rn.f h6550 ?_;refine Run.exit ?_;obtain rfl := Option.some.inj h;show J12_2 x0 y6432 y6513 b6515 L _ _ _ _;exact ⟨rfl,o6536,q6537,(by kernel_rfl),hp⟩
abbrev I12_3 (x0 : (List T_Unit)) (y6432 : Int) (y6513 : T_Unit) (L : List Ob) : ((List Int) × Int) → List V → Heap → Prop := fun s e h => ∃ o6579 : Option (Nat × Nat),∃ q6580 : List V,e = (mkE [(6,(slv (EI .u8).z (EI .u8).ag (List.length s.1) o6579)),(17,(Zl E_Unit x0)),(0,(vI (ln x0))),(0,(vI y6432)),(41,(Zl E_Code y6513.fCode)),(0,(vI (ln y6513.fCode))),(0,(vI s.2))] 9) ∧ HP h ((o6579,List.flatMap (EI .u8).c s.1 ++ q6580) :: L)
abbrev J12_3 (x0 : (List T_Unit)) (y6432 : Int) (y6513 : T_Unit) (L : List Ob) : ((List Int)) → Nat → List V → Heap → Prop := fun a i e h => i = 4 ∧ ∃ o6592 : Option (Nat × Nat),∃ q6593 : List V,clrEnv [8,10,12,28,29,30,31,32,33,34,35,36,37,38,39,40,41,42,43,44,45,46,47,48,49,50,51,52,53,54,55,56,57,58,59,60,61,62,63,64,65,66,67,68,69,70,71,72,73,74,75,76,77] e = (mkE [(6,(slv (EI .u8).z (EI .u8).ag (List.length a) o6592)),(17,(Zl E_Unit x0)),(0,(vI (ln x0))),(0,(vI y6432))] 53) ∧ HP h ((o6592,List.flatMap (EI .u8).c a ++ q6593) :: L)
def F12_3_b (x0 : (List T_Unit)) (y6432 : Int) (y6513 : T_Unit) (l6578 : (List Int)) (y6581 : Int) : Option (Stp ((List Int) × Int) ((List Int) × Int) ((List Int))) :=
  if (decide (y6581 < ((List.length y6513.fCode : Nat) : Int))) then
    (idx y6513.fCode y6581).bind fun y6596 =>
    (F36 l6578 y6596).bind fun y6599 =>
    some (.next (y6599,(IntKind.i64.wrap (y6581 + (1 : Int)))))
  else
    some (.go (l6578))
theorem w12_3_b {x0 : (List T_Unit)} {y6432 : Int} {y6513 : T_Unit} {l6578 : (List Int)} {y6581 : Int} {t : (Stp ((List Int) × Int) ((List Int) × Int) ((List Int)))} (h : F12_3_b x0 y6432 y6513 l6578 y6581 = some t) {o6579 : Option (Nat × Nat)} {q6580 : List V} {H : Heap} {L : List Ob} (hp : HP H ((o6579,List.flatMap (EI .u8).c l6578 ++ q6580) :: L)) :
    Run T i12n40 (mkE [(6,(slv (EI .u8).z (EI .u8).ag (List.length l6578) o6579)),(17,(Zl E_Unit x0)),(0,(vI (ln x0))),(0,(vI y6432)),(41,(Zl E_Code y6513.fCode)),(0,(vI (ln y6513.fCode))),(0,(vI y6581))] 9) H (stp [12,71,72,73,74,75,76,77] (I12_3 x0 y6432 y6513 L) (RR12 L) (J12_3 x0 y6432 y6513 L) t) := by
  unfold F12_3_b at h;refine Rn.g ?_;refine Ro.t 1 ?_;refine Ro.d (mkE [(6,(slv (EI .u8).z (EI .u8).ag (List.length l6578) o6579)),(17,(Zl E_Unit x0)),(0,(vI (ln x0))),(0,(vI y6432)),(41,(Zl E_Code y6513.fCode)),(0,(vI (ln y6513.fCode))),(0,(vI y6581)),(0,(V.bool (decide (y6581 < (ln y6513.fCode)))))] 8) ?_;refine Run.seq ?_;rcases tf (decide (y6581 < (ln y6513.fCode))) with h6595 | h6595
  · rw [ite_t h6595] at h; refine Rn.t h6595 ?_;refine Run.skip ?_;refine Rn.c (mkE [(6,(slv (EI .u8).z (EI .u8).ag (List.length l6578) o6579)),(17,(Zl E_Unit x0)),(0,(vI (ln x0))),(0,(vI y6432)),(41,(Zl E_Code y6513.fCode)),(0,(vI (ln y6513.fCode))),(0,(vI y6581))] 9) ?_;refine Run.seq ?_;refine Run.block ?_;refine Rn.g ?_;obtain ⟨y6596,h6597,h⟩ := bind_some h;refine Ro.p (idx_fz E_Code .i64 h6597) ?_;refine Ro.t 1 ?_;refine RunO.alloc hp (by kernel_rfl) ?_;intro b6598 H hp;refine RunO.st hp (by kernel_rfl) 0 (off := 0) (v := (E_Code.e y6596)) (cs' := [(V.int .u8 y6596.fKind),(V.int .u8 y6596.fOp),(V.int .u8 y6596.fType),(V.int .u8 y6596.fTo),(V.int .u8 y6596.fTrap),(vI y6596.fA),(vI y6596.fB),(vI y6596.fC),(V.int .u64 y6596.fBits)]) rfl (by kernel_rfl) (by kernel_rfl) (by kernel_rfl) ?_;intro H hp;refine Ro.d (mkE [(6,(slv (EI .u8).z (EI .u8).ag (List.length l6578) o6579)),(5,(V.ptr b6598 0 0)),(11,(Zl E_Unit x0)),(0,(vI (ln x0))),(0,(vI y6432)),(41,(Zl E_Code y6513.fCode)),(0,(vI (ln y6513.fCode))),(0,(vI y6581))] 9) ?_;refine Run.rgn ?_;refine Ro.t 1 ?_;refine Ro.p (hp.ld 0 (off := 0) (n := (some 9)) (v := (E_Code.e y6596)) rfl (by kernel_rfl)) ?_;obtain ⟨y6599,h6600,h⟩ := bind_some h;have hp := hp.pick 0 rfl;have hp := hp.pick 1 rfl;refine RunO.h1 (n := 36) (caps := []) (us := [(slv (EI .u8).z (EI .u8).ag (List.length l6578) o6579),(E_Code.e y6596)]) (by kernel_rfl) (by kernel_rfl) (by kernel_rfl) ((w36 h6600 hp).mono ?_);rintro _ H ⟨o6601,q6602,rfl,hp⟩;refine Ro.t 1 ?_;refine RunO.nil ?_;refine Run.clrE (ts := [12,72,73,74,75,76]) (b := (.rgn i12r37)) (Q := (stp [12,71,72,73,74,75,76,77] (I12_3 x0 y6432 y6513 L) (RR12 L) (J12_3 x0 y6432 y6513 L) t)) (e' := (mkE [(6,(slv (EI .u8).z (EI .u8).ag (List.length y6599) o6601)),(17,(Zl E_Unit x0)),(0,(vI (ln x0))),(0,(vI y6432)),(41,(Zl E_Code y6513.fCode)),(0,(vI (ln y6513.fCode))),(0,(vI y6581))] 9)) (by kernel_rfl) ?_;refine Run.rgn ?_;refine Ro.t 2 ?_;refine RunO.nil ?_;obtain rfl := Option.some.inj h;have hp := hp.del 1;show I12_3 x0 y6432 y6513 L _ _ _;exact ⟨o6601,q6602,(by kernel_rfl),hp⟩
  · rw [ite_f h6595] at h; refine Rn.f h6595 ?_;refine Run.exit ?_;obtain rfl := Option.some.inj h;show J12_3 x0 y6432 y6513 L _ _ _ _;exact ⟨rfl,o6579,q6580,(by kernel_rfl),hp⟩
def F12_1_b (x0 : (List T_Unit)) (l6429 : (List Int)) (y6432 : Int) : Option (Stp ((List Int) × Int) ((List Int) × Int) ((List Int))) :=
  if (decide (y6432 < ((List.length x0 : Nat) : Int))) then
    (idx x0 y6432).bind fun y6513 =>
    (F35 l6429 ((List.length y6513.fName : Nat) : Int)).bind fun y6517 =>
    (more 1 y6517 (List.map (fun c : UInt8 => (c.toNat : Int)) y6513.fName)).bind fun y6521 =>
    (F35 y6521 ((List.length y6513.fParams : Nat) : Int)).bind fun y6524 =>
    (iter (fun s : ((List Int) × Int) => F12_2_b x0 y6432 y6513 s.1 s.2) FUEL (y6524,(0 : Int))).bind fun o => match o with
    | .ret r => some (.ret r)
    | .go (l6546) =>
      (more 1 l6546 ([y6513.fResult] : List Int)).bind fun y6558 =>
      (F35 y6558 y6513.fFrame).bind fun y6561 =>
      (F35 y6561 ((List.length y6513.fCode : Nat) : Int)).bind fun y6565 =>
      (iter (fun s : ((List Int) × Int) => F12_3_b x0 y6432 y6513 s.1 s.2) FUEL (y6565,(0 : Int))).bind fun o => match o with
      | .ret r => some (.ret r)
      | .go (l6591) =>
        some (.next (l6591,(IntKind.i64.wrap (y6432 + (1 : Int)))))
  else
    some (.go (l6429))
theorem w12_1_b {x0 : (List T_Unit)} {l6429 : (List Int)} {y6432 : Int} {t : (Stp ((List Int) × Int) ((List Int) × Int) ((List Int)))} (h : F12_1_b x0 l6429 y6432 = some t) {o6430 : Option (Nat × Nat)} {q6431 : List V} {H : Heap} {L : List Ob} (hp : HP H ((o6430,List.flatMap (EI .u8).c l6429 ++ q6431) :: L)) :
    Run T i12n53 (mkE [(6,(slv (EI .u8).z (EI .u8).ag (List.length l6429) o6430)),(17,(Zl E_Unit x0)),(0,(vI (ln x0))),(0,(vI y6432))] 53) H (stp [8,10,12,27,28,29,30,31,32,33,34,35,36,37,38,39,40,41,42,43,44,45,46,47,48,49,50,51,52,53,54,55,56,57,58,59,60,61,62,63,64,65,66,67,68,69,70,71,72,73,74,75,76,77,78] (I12_1 x0 L) (RR12 L) (J12_1 x0 L) t) := by
  unfold F12_1_b at h;refine Rn.g ?_;refine Ro.t 1 ?_;refine Ro.d (mkE [(6,(slv (EI .u8).z (EI .u8).ag (List.length l6429) o6430)),(17,(Zl E_Unit x0)),(0,(vI (ln x0))),(0,(vI y6432)),(0,(V.bool (decide (y6432 < (ln x0)))))] 52) ?_;refine Run.seq ?_;rcases tf (decide (y6432 < (ln x0))) with h6512 | h6512
  · rw [ite_t h6512] at h; refine Rn.t h6512 ?_;refine Run.skip ?_;refine Rn.c (mkE [(6,(slv (EI .u8).z (EI .u8).ag (List.length l6429) o6430)),(17,(Zl E_Unit x0)),(0,(vI (ln x0))),(0,(vI y6432))] 53) ?_;refine Run.seq ?_;refine Run.block ?_;refine Rn.g ?_;obtain ⟨y6513,h6514,h⟩ := bind_some h;refine Ro.p (idx_fz E_Unit .i64 h6514) ?_;refine Ro.t 1 ?_;refine RunO.alloc hp (by kernel_rfl) ?_;intro b6515 H hp;refine RunO.st hp (by kernel_rfl) 0 (off := 0) (v := (E_Unit.e y6513)) (cs' := [(ES.e y6513.fName),(Zl (EI .u8) y6513.fParams),(V.int .u8 y6513.fResult),(vI y6513.fFrame),(Zl E_Code y6513.fCode)]) rfl (by kernel_rfl) (by kernel_rfl) (by kernel_rfl) ?_;intro H hp;refine Ro.d (mkE [(6,(slv (EI .u8).z (EI .u8).ag (List.length l6429) o6430)),(1,(V.ptr b6515 0 0)),(15,(Zl E_Unit x0)),(0,(vI (ln x0))),(0,(vI y6432))] 53) ?_;refine Run.seq ?_;refine Run.rgdG (Ph := fun h => h[b6515]? = some (0,[(ES.e y6513.fName),(Zl (EI .u8) y6513.fParams),(V.int .u8 y6513.fResult),(vI y6513.fFrame),(Zl E_Code y6513.fCode)])) (by rfl) ?_;have h6516 := hp;refine RunD.tk 2 (hp.get (i := 0) rfl) (by kernel_rfl) (by kernel_rfl) ?_;refine RunD.of1 (hp.get (i := 0) rfl) rfl ?_;refine Ro.p (hp.ld 0 (off := 0) (n := none) (v := (ES.e y6513.fName)) rfl (by kernel_rfl)) ?_;refine RunO.nil ?_;refine RunD.tk 1 (hp.get (i := 0) rfl) (by kernel_rfl) (by kernel_rfl) ?_;refine RunD.of1 (hp.get (i := 0) rfl) rfl ?_;obtain ⟨y6517,h6518,h⟩ := bind_some h;have hp := hp.pick 0 rfl;have hp := hp.pick 1 rfl;refine RunO.h1 (n := 35) (caps := []) (us := [(slv (EI .u8).z (EI .u8).ag (List.length l6429) o6430),(vI (ln y6513.fName))]) (by kernel_rfl) (by kernel_rfl) (by kernel_rfl) ((w35 h6518 hp).mono ?_);rintro _ H ⟨o6519,q6520,rfl,hp⟩;refine RunO.nil ?_;refine RunD.tk 1 (hp.get (i := 1) rfl) (by kernel_rfl) (by kernel_rfl) ?_;refine RunD.ld (off := 0) (v := (ES.e y6513.fName)) (hp.get (i := 1) rfl) (h6516.get (i := 0) rfl) (by kernel_rfl) (fun h hh => hh) (by kernel_rfl) (eqb_es _ 39) ?_;refine RunD.of1 (hp.get (i := 1) rfl) rfl ?_;obtain ⟨y6521,h6522,h⟩ := bind_some h;refine RunO.app1 (EI .u8) hp (by kernel_rfl) 0 (o := o6519) (l := y6517) (rest := q6520) (m := (List.map (fun c : UInt8 => (c.toNat : Int)) y6513.fName)) rfl (by kernel_rfl) (by kernel_rfl) (new_str _ y6513.fName) (by kernel_rfl) (by kernel_rfl) h6522 ?_;intro o6523 H hp;refine RunO.nil ?_;refine RunD.tk 1 (hp.get (i := 1) rfl) (by kernel_rfl) (by kernel_rfl) ?_;refine RunD.stop (hp.get (i := 1) rfl) (e' := (mkE [(6,(slv (EI .u8).z (EI .u8).ag (List.length y6521) o6523)),(1,(V.ptr b6515 0 0)),(15,(Zl E_Unit x0)),(0,(vI (ln x0))),(0,(vI y6432))] 53)) (by kernel_rfl) ?_;refine Rn.g ?_;refine Ro.t 2 ?_;refine Ro.p (hp.ld 1 (off := 1) (n := none) (v := (Zl (EI .u8) y6513.fParams)) rfl (by kernel_rfl)) ?_;refine Ro.p (len_fz (EI .u8) y6513.fParams) ?_;obtain ⟨y6524,h6525,h⟩ := bind_some h;refine RunO.h1 (n := 35) (caps := []) (us := [(slv (EI .u8).z (EI .u8).ag (List.length y6521) o6523),(vI (ln y6513.fParams))]) (by kernel_rfl) (by kernel_rfl) (by kernel_rfl) ((w35 h6525 hp).mono ?_);rintro _ H ⟨o6526,q6527,rfl,hp⟩;refine Ro.t 1 ?_;refine Ro.d (mkE [(6,(slv (EI .u8).z (EI .u8).ag (List.length y6524) o6526)),(1,(V.ptr b6515 0 0)),(15,(Zl E_Unit x0)),(0,(vI (ln x0))),(0,(vI y6432))] 53) ?_;refine Run.seq ?_;refine Rn.g ?_;refine Ro.t 1 ?_;refine Ro.p (hp.ld 1 (off := 1) (n := none) (v := (Zl (EI .u8) y6513.fParams)) rfl (by kernel_rfl)) ?_;refine Ro.p (len_fz (EI .u8) y6513.fParams) ?_;refine Ro.t 1 ?_;refine Ro.d (mkE [(6,(slv (EI .u8).z (EI .u8).ag (List.length y6524) o6526)),(1,(V.ptr b6515 0 0)),(15,(Zl E_Unit x0)),(0,(vI (ln x0))),(0,(vI y6432)),(17,(Zl (EI .u8) y6513.fParams)),(0,(vI (ln y6513.fParams))),(0,(vI (0 : Int)))] 33) ?_;refine Run.block ?_;obtain ⟨o,h6556,h⟩ := bind_some h;refine (Run.iter (I := I12_2 x0 y6432 y6513 b6515 L) (RR := RR12 L) (J := J12_2 x0 y6432 y6513 b6515 L) (fun s e h' t hI hf => ?_) FUEL h6556 (by exact ⟨o6526,q6527,(by kernel_rfl),hp⟩)).mono ?_
    · obtain ⟨_,_,rfl,hp⟩ := hI; exact w12_2_b hf hp
    · rintro X e' H hq;cases o with
      | ret r => cases X <;> first | exact hq.elim | (cases h; exact hq)
      | go l6546 =>
        cases X with | nrm => exact hq.elim | ret => exact hq.elim | pan v => exact hq.elim | ext i => ?_;obtain ⟨rfl,o6547,q6548,he,hp⟩ := hq
        dsimp only at h
        refine Run.clrE (ts := [10,43,44,45,46,47,48,49,50,51,52,53,54]) (b := i12n44) (Q := (blk 1 (thn T (.clr [8,10,12,28,29,30,31,32,33,34,35,36,37,38,39,40,41,42,43,44,45,46,47,48,49,50,51,52,53,54,55,56,57,58,59,60,61,62,63,64,65,66,67,68,69,70,71,72,73,74,75,76,77] (.rgn i12r50)) (stp [8,10,12,27,28,29,30,31,32,33,34,35,36,37,38,39,40,41,42,43,44,45,46,47,48,49,50,51,52,53,54,55,56,57,58,59,60,61,62,63,64,65,66,67,68,69,70,71,72,73,74,75,76,77,78] (I12_1 x0 L) (RR12 L) (J12_1 x0 L) t)))) he ?_;refine Run.seq ?_;refine Run.rgdG (Ph := fun h => h[b6515]? = some (0,[(ES.e y6513.fName),(Zl (EI .u8) y6513.fParams),(V.int .u8 y6513.fResult),(vI y6513.fFrame),(Zl E_Code y6513.fCode)])) (by rfl) ?_;have h6557 := hp;refine RunD.tk 2 (hp.get (i := 1) rfl) (by kernel_rfl) (by kernel_rfl) ?_;refine RunD.of1 (hp.get (i := 1) rfl) rfl ?_;refine Ro.p (hp.ld 1 (off := 2) (n := none) (v := (V.int .u8 y6513.fResult)) rfl (by kernel_rfl)) ?_;refine RunO.nil ?_;refine RunD.tk 1 (hp.get (i := 1) rfl) (by kernel_rfl) (by kernel_rfl) ?_;refine RunD.of1 (hp.get (i := 1) rfl) rfl ?_;obtain ⟨y6558,h6559,h⟩ := bind_some h;refine RunO.app1 (EI .u8) hp (by kernel_rfl) 0 (o := o6547) (l := l6546) (rest := q6548) (m := ([y6513.fResult] : List Int)) rfl (by kernel_rfl) (by kernel_rfl) ((EI .u8).new_fz _ ([y6513.fResult] : List Int)) (by kernel_rfl) (by kernel_rfl) h6559 ?_;intro o6560 H hp;refine RunO.nil ?_;refine RunD.tk 1 (hp.get (i := 1) rfl) (by kernel_rfl) (by kernel_rfl) ?_;refine RunD.ld (off := 3) (v := (vI y6513.fFrame)) (hp.get (i := 1) rfl) (h6557.get (i := 1) rfl) (by kernel_rfl) (fun h hh => hh) (by kernel_rfl) (eqb_ei .i64 _ 39) ?_;refine RunD.of1 (hp.get (i := 1) rfl) rfl ?_;obtain ⟨y6561,h6562,h⟩ := bind_some h;refine RunO.h1 (n := 35) (caps := []) (us := [(slv (EI .u8).z (EI .u8).ag (List.length y6558) o6560),(vI y6513.fFrame)]) (by kernel_rfl) (by kernel_rfl) (by kernel_rfl) ((w35 h6562 hp).mono ?_);rintro _ H ⟨o6563,q6564,rfl,hp⟩;refine RunO.nil ?_;refine RunD.tk 1 (hp.get (i := 1) rfl) (by kernel_rfl) (by kernel_rfl) ?_;refine RunD.ld (off := 4) (v := (Zl E_Code y6513.fCode)) (hp.get (i := 1) rfl) (h6557.get (i := 1) rfl) (by kernel_rfl) (fun h hh => hh) (by kernel_rfl) (eqb_fz (n := 39) (fun a => (eqb_ag (n := 38) (eqb2c (eqb_ei .u8 _ 37) (eqb2c (eqb_ei .u8 _ 37) (eqb2c (eqb_ei .u8 _ 37) (eqb2c (eqb_ei .u8 _ 37) (eqb2c (eqb_ei .u8 _ 37) (eqb2c (eqb_ei .i64 _ 37) (eqb2c (eqb_ei .i64 _ 37) (eqb2c (eqb_ei .i64 _ 37) (eqb2c (eqb_ei .u64 _ 37) eqb2n))))))))))) _) ?_;refine RunD.of1 (hp.get (i := 1) rfl) rfl ?_;refine Ro.p (len_fz E_Code y6513.fCode) ?_;refine RunO.nil ?_;refine RunD.of1 (hp.get (i := 1) rfl) rfl ?_;obtain ⟨y6565,h6566,h⟩ := bind_some h;refine RunO.h1 (n := 35) (caps := []) (us := [(slv (EI .u8).z (EI .u8).ag (List.length y6561) o6563),(vI (ln y6513.fCode))]) (by kernel_rfl) (by kernel_rfl) (by kernel_rfl) ((w35 h6566 hp).mono ?_);rintro _ H ⟨o6567,q6568,rfl,hp⟩;refine RunO.nil ?_;refine RunD.tk 1 (hp.get (i := 1) rfl) (by kernel_rfl) (by kernel_rfl) ?_;refine RunD.stop (hp.get (i := 1) rfl) (e' := (mkE [(6,(slv (EI .u8).z (EI .u8).ag (List.length y6565) o6567)),(1,(V.ptr b6515 0 0)),(15,(Zl E_Unit x0)),(0,(vI (ln x0))),(0,(vI y6432))] 53)) (by kernel_rfl) ?_;refine Rn.g ?_;refine Ro.t 1 ?_;refine Ro.p (hp.ld 1 (off := 4) (n := none) (v := (Zl E_Code y6513.fCode)) rfl (by kernel_rfl)) ?_;refine Ro.p (len_fz E_Code y6513.fCode) ?_;refine Ro.t 1 ?_;refine Ro.d (mkE [(6,(slv (EI .u8).z (EI .u8).ag (List.length y6565) o6567)),(17,(Zl E_Unit x0)),(0,(vI (ln x0))),(0,(vI y6432)),(41,(Zl E_Code y6513.fCode)),(0,(vI (ln y6513.fCode))),(0,(vI (0 : Int)))] 9) ?_;refine Run.block ?_;obtain ⟨o,h6603,h⟩ := bind_some h;have hp := hp.del 1;refine (Run.iter (I := I12_3 x0 y6432 y6513 L) (RR := RR12 L) (J := J12_3 x0 y6432 y6513 L) (fun s e h' t hI hf => ?_) FUEL h6603 (by exact ⟨o6567,q6568,(by kernel_rfl),hp⟩)).mono ?_
        · obtain ⟨_,_,rfl,hp⟩ := hI; exact w12_3_b hf hp
        · rintro X e' H hq;cases o with
          | ret r => cases X <;> first | exact hq.elim | (cases h; exact hq)
          | go l6591 =>
            cases X with | nrm => exact hq.elim | ret => exact hq.elim | pan v => exact hq.elim | ext i => ?_;obtain ⟨rfl,o6592,q6593,he,hp⟩ := hq
            dsimp only at h
            refine Run.clrE (ts := [8,10,12,28,29,30,31,32,33,34,35,36,37,38,39,40,41,42,43,44,45,46,47,48,49,50,51,52,53,54,55,56,57,58,59,60,61,62,63,64,65,66,67,68,69,70,71,72,73,74,75,76,77]) (b := (.rgn i12r50)) (Q := (stp [8,10,12,27,28,29,30,31,32,33,34,35,36,37,38,39,40,41,42,43,44,45,46,47,48,49,50,51,52,53,54,55,56,57,58,59,60,61,62,63,64,65,66,67,68,69,70,71,72,73,74,75,76,77,78] (I12_1 x0 L) (RR12 L) (J12_1 x0 L) t)) he ?_;refine Run.rgn ?_;refine Ro.t 2 ?_;refine RunO.nil ?_;obtain rfl := Option.some.inj h;show I12_1 x0 L _ _ _;exact ⟨o6592,q6593,(by kernel_rfl),hp⟩
  · rw [ite_f h6512] at h; refine Rn.f h6512 ?_;refine Run.exit ?_;obtain rfl := Option.some.inj h;show J12_1 x0 L _ _ _ _;exact ⟨rfl,o6430,q6431,(by kernel_rfl),hp⟩
def F12 (x0 : (List T_Unit)) : Option ((List Int) × Int) :=
  (F20 x0).bind fun y6347 =>
  if (y6347.1 != (0 : Int)) then
    some ([],y6347.1)
  else
    (F35 ([] : List Int) ((List.length x0 : Nat) : Int)).bind fun y6350 =>
    (iter (fun s : ((List Int) × Int) => F12_1_b x0 s.1 s.2) FUEL (y6350,(0 : Int))).bind fun o => match o with
    | .ret r => some r
    | .go (l6508) =>
      some (l6508,(0 : Int))
theorem w12 {x0 : (List T_Unit)} {r : ((List Int) × Int)} (h : F12 x0 = some r) {H : Heap} {L : List Ob} (hp : HP H (L)) : Fn T 12 [(Zl E_Unit x0)] H (Q12 L r) := by
  refine Fn.enterE t12 (e0 := (mkE [(0,(Zl E_Unit x0))] 79)) (by kernel_rfl) ?_;show Run T (.clr [] i12n62) _ _ (finE none [2,3] (Q12 L r));refine Rn.k (mkE [(0,(Zl E_Unit x0))] 79) ?_;unfold F12 at h;refine Rn.g ?_;refine Ro.t 2 ?_;refine Ro.d (mkE [(0,(Zl E_Unit x0))] 79) ?_;refine Run.seq ?_;refine Rn.g ?_;refine Ro.t 1 ?_;obtain ⟨y6347,h6348,h⟩ := bind_some h;refine RunO.c1 (by kernel_rfl) (by kernel_rfl) (c20 h6348 _) ?_;refine Ro.t 5 ?_;refine Ro.d (mkE [(0,(Zl E_Unit x0)),(3,(vI y6347.1))] 75) ?_;refine Rn.g ?_;refine Ro.t 2 ?_;refine Ro.d (mkE [(0,(Zl E_Unit x0)),(3,(vI y6347.1)),(14,(V.bool (y6347.1 != (0 : Int))))] 60) ?_;rcases tf (y6347.1 != (0 : Int)) with h6349 | h6349
  · rw [ite_t h6349] at h; refine Rn.t h6349 ?_;refine Rn.g ?_;refine Ro.t 3 ?_;refine Ro.d (mkE [(2,V.nils),(0,(vI y6347.1))] 76) ?_;refine Run.ret ?_;obtain rfl := Option.some.inj h;have hp := hp.non;exact ⟨(V.tup [V.nils,(vI y6347.1)]),(by kernel_rfl),_,_,(by kernel_rfl),hp⟩
  · rw [ite_f h6349] at h; refine Rn.f h6349 ?_;refine Run.skip ?_;refine Rn.c (mkE [(0,(Zl E_Unit x0))] 79) ?_;refine Rn.g ?_;refine Ro.t 1 ?_;refine Ro.p (len_fz E_Unit x0) ?_;obtain ⟨y6350,h6351,h⟩ := bind_some h;have hp := hp.non;refine RunO.h1 (n := 35) (caps := []) (us := [(slv (EI .u8).z (EI .u8).ag (List.length ([] : List Int)) none),(vI (ln x0))]) (by kernel_rfl) (by kernel_rfl) (by kernel_rfl) ((w35 h6351 hp).mono ?_);rintro _ H ⟨o6352,q6353,rfl,hp⟩;refine Ro.t 1 ?_;refine Ro.d (mkE [(0,(Zl E_Unit x0)),(5,(slv (EI .u8).z (EI .u8).ag (List.length y6350) o6352))] 73) ?_;refine Run.seq ?_;refine Rn.g ?_;refine Ro.t 1 ?_;refine Ro.p (len_fz E_Unit x0) ?_;refine Ro.t 1 ?_;refine Ro.d (mkE [(6,(slv (EI .u8).z (EI .u8).ag (List.length y6350) o6352)),(17,(Zl E_Unit x0)),(0,(vI (ln x0))),(0,(vI (0 : Int)))] 53) ?_;refine Run.block ?_;obtain ⟨o,h6604,h⟩ := bind_some h;refine (Run.iter (I := I12_1 x0 L) (RR := RR12 L) (J := J12_1 x0 L) (fun s e h' t hI hf => ?_) FUEL h6604 (by exact ⟨o6352,q6353,(by kernel_rfl),hp⟩)).mono ?_
    · obtain ⟨_,_,rfl,hp⟩ := hI; exact w12_1_b hf hp
    · rintro X e' H hq;cases o with
      | ret r => cases X <;> first | exact hq.elim | (cases h; exact hq)
      | go l6508 =>
        cases X with | nrm => exact hq.elim | ret => exact hq.elim | pan v => exact hq.elim | ext i => ?_;obtain ⟨rfl,o6509,q6510,he,hp⟩ := hq
        dsimp only at h
        refine Run.clrE (ts := [0,8,10,12,24,25,26,27,28,29,30,31,32,33,34,35,36,37,38,39,40,41,42,43,44,45,46,47,48,49,50,51,52,53,54,55,56,57,58,59,60,61,62,63,64,65,66,67,68,69,70,71,72,73,74,75,76,77,78]) (b := i12n58) (Q := (finE none [2,3] (Q12 L r))) he ?_;refine Rn.g ?_;refine Ro.t 3 ?_;refine Ro.d (mkE [(2,(slv (EI .u8).z (EI .u8).ag (List.length l6508) o6509)),(0,(vI (0 : Int)))] 76) ?_;refine Run.ret ?_;obtain rfl := Option.some.inj h;exact ⟨(V.tup [(slv (EI .u8).z (EI .u8).ag (List.length l6508) o6509),(vI (0 : Int))]),(by kernel_rfl),_,_,(by kernel_rfl),hp⟩
theorem c12 {x0 : (List T_Unit)} {r : ((List Int) × Int)} (h : F12 x0 = some r) (s : Bool) : Fn T 12 [(Zl E_Unit x0)] [] (fun v hh => deep s hh deepN v = some (.tup [(EL (EI .u8)).e r.1,(EI .i64).e r.2])) := by
  refine (w12 h HP.nil).mono ?_;rintro v hh ⟨o0,q0,rfl,hp⟩;exact congrArg (Option.map V.tup) (omapc (own_deep (EI .u8) hp 0 rfl s (.inr rfl) 35) (omapc ((EI .i64).hd s hh 37 _ (.inr rfl)) omapn))
abbrev P39 (bR bL bO : Nat) (L : List Ob) (r : (Option ((List T_Unit) × Bool × T_reader))) : X → List V → Heap → Prop := fun x e h => match x,r with
  | .pan v,none => V.isI v = true ∧ e.getD 2 .un = .ptr bL 0 0 ∧ e.getD 3 .un = .ptr bO 0 0 ∧ ∃ (c0 : List V) (c1 : V),c0.all (V.free deepN) = true ∧ HP h ((some (bR,0),c0) :: (some (bL,0),[c1]) :: (some (bO,0),[V.bool false]) :: L)
  | _,_ => False
abbrev Q39r (bR : Nat) (L : List Ob) (r : (List T_Unit) × Bool) : V → Heap → Prop := fun v h => ∃ (o0 : Option (Nat × Nat)) (c0 : List V),c0.all (V.free deepN) = true ∧ v = .tup [slv E_Unit.z E_Unit.ag (List.length r.1) o0,EB.e r.2] ∧ HP h ((o0,List.flatMap E_Unit.c r.1 ++ []) :: (some (bR,0),c0) :: L)
abbrev Q39 (L : List Ob) (r : (List T_Unit) × Bool) : V → Heap → Prop := fun v h => v = .tup [(EL E_Unit).e r.1,EB.e r.2] ∧ HP h L
abbrev I39_1 (yN : (Int × T_reader)) (bR : Nat) (bL : Nat) (bO : Nat) (L : List Ob) : ((List Int) × (List T_Unit) × Int) → List V → Heap → Prop := fun s e h => ∃ o2485 : Option (Nat × Nat),e = (mkE [(0,(V.ptr bR 0 0)),(1,(V.ptr bL 0 0)),(0,(V.ptr bO 0 0)),(2,(vI yN.1)),(0,(vI s.2.2))] 8) ∧ HP h ((some (bR,0),[(Zl (EI .u8) s.1)]) :: (some (bL,0),[(slv E_Unit.z E_Unit.ag (List.length s.2.1) o2485)]) :: (o2485,List.flatMap E_Unit.c s.2.1 ++ []) :: (some (bO,0),[(V.bool false)]) :: L)
abbrev J39_1 (yN : (Int × T_reader)) (bR : Nat) (bL : Nat) (bO : Nat) (L : List Ob) : ((List Int) × (List T_Unit)) → Nat → List V → Heap → Prop := fun a i e h => i = 0 ∧ ∃ o2499 : Option (Nat × Nat),clrEnv [0,5,6,7,8,9,10,11,12,13,14] e = (mkE [(2,(V.ptr bL 0 0)),(0,(V.ptr bO 0 0))] 12) ∧ HP h ((some (bR,0),[(Zl (EI .u8) a.1)]) :: (some (bL,0),[(slv E_Unit.z E_Unit.ag (List.length a.2) o2499)]) :: (o2499,List.flatMap E_Unit.c a.2 ++ []) :: (some (bO,0),[(V.bool false)]) :: L)
def F39_1_b (yN : (Int × T_reader)) (y2483 : (List Int)) (l2484 : (List T_Unit)) (y2486 : Int) : Option (Stp ((List Int) × (List T_Unit) × Int) (Option ((List T_Unit) × Bool × T_reader)) ((List Int) × (List T_Unit))) :=
  if (decide (y2486 < yN.1)) then
    pndL (F62 (⟨y2483⟩ : T_reader)) fun y2502 =>
    (more 80 l2484 ([y2502.1] : List T_Unit)).bind fun y2507 =>
    some (.next (y2502.2.fb,y2507,(IntKind.i64.wrap (y2486 + (1 : Int)))))
  else
    some (.go (y2483,l2484))
theorem w39_1_b {yN : (Int × T_reader)} {y2483 : (List Int)} {l2484 : (List T_Unit)} {y2486 : Int} {t : (Stp ((List Int) × (List T_Unit) × Int) (Option ((List T_Unit) × Bool × T_reader)) ((List Int) × (List T_Unit)))} (h : F39_1_b yN y2483 l2484 y2486 = some t) {bR : Nat} {bL : Nat} {bO : Nat} {o2485 : Option (Nat × Nat)} {H : Heap} {L : List Ob} (hp : HP H ((some (bR,0),[(Zl (EI .u8) y2483)]) :: (some (bL,0),[(slv E_Unit.z E_Unit.ag (List.length l2484) o2485)]) :: (o2485,List.flatMap E_Unit.c l2484 ++ []) :: (some (bO,0),[(V.bool false)]) :: L)) :
    Run T i39n9 (mkE [(0,(V.ptr bR 0 0)),(1,(V.ptr bL 0 0)),(0,(V.ptr bO 0 0)),(2,(vI yN.1)),(0,(vI y2486))] 8) H (stpP [8,9,10,11,12,13,14] (I39_1 yN bR bL bO L) (P39 bR bL bO L) (J39_1 yN bR bL bO L) t) := by
  unfold F39_1_b at h;refine Rn.g ?_;refine Ro.t 1 ?_;refine Ro.d (mkE [(0,(V.ptr bR 0 0)),(1,(V.ptr bL 0 0)),(0,(V.ptr bO 0 0)),(2,(vI yN.1)),(0,(vI y2486)),(0,(V.bool (decide (y2486 < yN.1))))] 7) ?_;refine Run.seq ?_;rcases tf (decide (y2486 < yN.1)) with h2501 | h2501
  · rw [ite_t h2501] at h; refine Rn.t h2501 ?_;refine Run.skip ?_;refine Rn.c (mkE [(0,(V.ptr bR 0 0)),(1,(V.ptr bL 0 0)),(0,(V.ptr bO 0 0)),(2,(vI yN.1)),(0,(vI y2486))] 8) ?_;refine Run.seq ?_;refine Run.block ?_;refine Run.rdp1 (by kernel_rfl) ?_;refine Ro.p (hp.ld 1 (off := 0) (n := none) (v := (slv E_Unit.z E_Unit.ag (List.length l2484) o2485)) rfl (by kernel_rfl)) ?_;refine Ro.t 1 ?_;rcases pndL_some h with ⟨h2503,rfl⟩ | ⟨y2502,h2503,h⟩
    · have hp := hp;refine RunO.nil ?_;refine ⟨los1 (k := .ld (.t 2) none) (by kernel_rfl) (stay_ldK (x := (.t 2)) (p := (V.ptr bL 0 0)) (v := (slv E_Unit.z E_Unit.ag (List.length l2484) o2485)) (by kernel_rfl) (hp.ld 1 (off := 0) (n := none) (v := (slv E_Unit.z E_Unit.ag (List.length l2484) o2485)) rfl (by kernel_rfl)) (hp.ld 1 (off := 0) (n := none) (v := (slv E_Unit.z E_Unit.ag (List.length l2484) o2485)) rfl (by kernel_rfl)) (eqb_slv _ _ _ _)),some 11,(.c (.fn 62 [])),[(.t 10)],62,_,[],[(V.ptr bR 0 0)],by kernel_rfl,t62,by kernel_rfl,by kernel_rfl,(w62 h2503 hp).mono ?_⟩;rintro p v H hz;cases p with
      | false => exact hz.elim
      | true => ?_
      obtain ⟨h2506,q2504,h2505,hp⟩ := hz;have hp := hp.del 2;exact ⟨h2506,by kernel_rfl,by kernel_rfl,_,_,h2505,hp⟩
    have hp0 := hp;refine RunO.nil ?_;refine ⟨los1 (k := .ld (.t 2) none) (by kernel_rfl) (stay_ldK (x := (.t 2)) (p := (V.ptr bL 0 0)) (v := (slv E_Unit.z E_Unit.ag (List.length l2484) o2485)) (by kernel_rfl) (hp.ld 1 (off := 0) (n := none) (v := (slv E_Unit.z E_Unit.ag (List.length l2484) o2485)) rfl (by kernel_rfl)) (hp.ld 1 (off := 0) (n := none) (v := (slv E_Unit.z E_Unit.ag (List.length l2484) o2485)) rfl (by kernel_rfl)) (eqb_slv _ _ _ _)),some 11,(.c (.fn 62 [])),[(.t 10)],62,_,[],[(V.ptr bR 0 0)],by kernel_rfl,t62,by kernel_rfl,by kernel_rfl,(w62 h2503 hp).mono ?_⟩;rintro p _ H hz;cases p with
    | true => exact hz.elim
    | false => ?_
    obtain ⟨rfl,hp⟩ := hz;rw [if_neg Bool.false_ne_true];refine ⟨los1 (k := .ld (.t 2) none) (by kernel_rfl) (stay_ldK (x := (.t 2)) (p := (V.ptr bL 0 0)) (v := (slv E_Unit.z E_Unit.ag (List.length l2484) o2485)) (by kernel_rfl) (hp0.ld 1 (off := 0) (n := none) (v := (slv E_Unit.z E_Unit.ag (List.length l2484) o2485)) rfl (by kernel_rfl)) (hp.ld 1 (off := 0) (n := none) (v := (slv E_Unit.z E_Unit.ag (List.length l2484) o2485)) rfl (by kernel_rfl)) (eqb_slv _ _ _ _)),?_⟩;refine Ro.t 1 ?_;obtain ⟨y2507,h2508,h⟩ := bind_some h;refine RunO.app1 E_Unit hp (by kernel_rfl) 2 (o := o2485) (l := l2484) (rest := []) (m := ([y2502.1] : List T_Unit)) rfl (by kernel_rfl) (by kernel_rfl) (E_Unit.new_fz _ ([y2502.1] : List T_Unit)) (by kernel_rfl) (by kernel_rfl) h2508 ?_;intro o2509 H hp;refine RunO.st hp (by kernel_rfl) 1 (off := 0) (v := (slv E_Unit.z E_Unit.ag (List.length y2507) o2509)) (cs' := [(slv E_Unit.z E_Unit.ag (List.length y2507) o2509)]) rfl (by kernel_rfl) (by kernel_rfl) (by cases o2509 <;> rfl) ?_;intro H hp;refine RunO.nil ?_;refine Run.clrE (ts := [9,10,11,12,13]) (b := (.rgn i39r6)) (Q := (stpP [8,9,10,11,12,13,14] (I39_1 yN bR bL bO L) (P39 bR bL bO L) (J39_1 yN bR bL bO L) t)) (e' := (mkE [(0,(V.ptr bR 0 0)),(1,(V.ptr bL 0 0)),(0,(V.ptr bO 0 0)),(2,(vI yN.1)),(0,(vI y2486))] 8)) (by kernel_rfl) ?_;refine Run.rgn ?_;refine Ro.t 2 ?_;refine RunO.nil ?_;obtain rfl := Option.some.inj h;show I39_1 yN bR bL bO L _ _ _;exact ⟨o2509,(by kernel_rfl),hp⟩
  · rw [ite_f h2501] at h; refine Rn.f h2501 ?_;refine Run.exit ?_;obtain rfl := Option.some.inj h;show J39_1 yN bR bL bO L _ _ _ _;exact ⟨rfl,o2485,(by kernel_rfl),hp⟩
def F39 (x0 : T_reader) : Option ((List T_Unit) × Bool) :=
  (F61 x0).bind fun q => match q with
  | none => some ([],false)
  | some yN => (iter (fun s : ((List Int) × (List T_Unit) × Int) => F39_1_b yN s.1 s.2.1 s.2.2) FUEL (yN.2.fb,[],(0 : Int))).bind fun o => match o with
    | .ret _ => some ([],false)
    | .go (_,l) => some (l,true)
theorem r39 {bR bL bO : Nat} {L : List Ob} {v : V} {c0 : List V} {c1 : V} {H : Heap} {e : List V} (hi : V.isI v = true) (hc : c0.all (V.free deepN) = true) (hp : HP H ((some (bR,0),c0) :: (some (bL,0),[c1]) :: (some (bO,0),[V.bool false]) :: L)) (he2 : e.getD 2 .un = .ptr bL 0 0) (he3 : e.getD 3 .un = .ptr bO 0 0) {env : List V} (hv2 : env.getD 2 .un = .ptr bL 0 0) (hv3 : env.getD 3 .un = .ptr bO 0 0) :
    ∃ H3,Xtn.rcv 60 ([Opd.t 2,Opd.t 3].map (·.ev env)) v H = some H3 ∧ finE (some [some none,some none]) [2,3] (Q39r bR L ([],false)) .ret e H3 := by
  cases v <;> simp only [V.isI,Bool.false_eq_true] at hi;have h1 := hp.st 1 (off := 0) (n := none) (v := .nils) rfl (by rfl : stC [c1] 0 .nils none = some [.nils]);have hp1 := hp.set (i := 1) rfl 0 [.nils];have h2 := hp1.st 2 (off := 0) (n := none) (v := .bool false) rfl (by rfl : stC [.bool false] 0 (.bool false) none = some [.bool false]);have hp2 := hp1.set (i := 2) rfl 0 [.bool false];refine ⟨(H.set bL (0,[.nils])).set bO (0,[.bool false]),?_,?_⟩
  rotate_left
  · show endR _ _ _ _ _;have hw := resW_cells (env := e) (H := (H.set bL (0,[.nils])).set bO (0,[.bool false])) (ds := [some none,some none]) (res := [2,3]) (vs := [.nils,.bool false]) (omapc (Eq.trans (b := ldV _ (V.ptr bL 0 0) none) (congrArg (fun z => ldV _ z none) he2) (hp2.ld 1 rfl (by kernel_rfl))) (omapc (Eq.trans (b := ldV _ (V.ptr bO 0 0) none) (congrArg (fun z => ldV _ z none) he3) (hp2.ld 2 rfl (by kernel_rfl))) omapn));have hp := hp2.non;have hp := hp.del 2;have hp := hp.del 2;exact ⟨_,hw,none,c0,hc,rfl,hp⟩
  · show rcv2 _ _ _ = _;simp only [List.map_cons,List.map_nil,Opd.ev,hv2,hv3,rcv2,h1,Option.bind_some,h2]
theorem wr39 {x0 : T_reader} {r : (List T_Unit) × Bool} (h : F39 x0 = some r) {bR : Nat} {H : Heap} {L : List Ob} (hp : HP H ((some (bR,0),[(Zl (EI .u8) x0.fb)]) :: L)) : Run T (.fin [some none,some none] i39n16) (mkE [(0,(V.ptr bR 0 0))] 15) H (finE (some [some none,some none]) [2,3] (Q39r bR L r)) := by
  refine Run.finb ?_;unfold F39 at h;refine Run.dfr ?_;refine RunO.alloc hp (by kernel_rfl) ?_;intro bL H hp;refine RunO.alloc hp (by kernel_rfl) ?_;intro bO H hp;refine RunO.nil ⟨of_decide_eq_true (by kernel_rfl),?_⟩;refine Rn.k (mkE [(0,(V.ptr bR 0 0)),(1,(V.ptr bL 0 0)),(0,(V.ptr bO 0 0))] 12) ?_;refine Run.seq ?_;refine Run.seq ?_;refine Run.rgp ?_;refine RunX.tk 1 (by kernel_rfl) ?_;obtain ⟨q0,hq0,h⟩ := bind_some h;cases q0 with
  | none =>
    obtain rfl := Option.some.inj h;have hp := hp.pick 1 rfl;have hp := hp.pick 1 rfl;have hp := hp.pick 2 rfl;refine RunX.h1 (n := 61) (caps := []) (us := [(V.ptr bR 0 0)]) (by kernel_rfl) (by kernel_rfl) (by kernel_rfl) ((w61 hq0 hp).mono ?_);rintro p v H hz;cases p with
    | false => exact hz.elim
    | true => ?_
    obtain ⟨h2472,q2470,h2471,hp⟩ := hz;have hp := hp.pick 2 rfl;have hp := hp.pick 1 rfl;exact r39 h2472 h2471 hp (by kernel_rfl) (by kernel_rfl) (by kernel_rfl) (by kernel_rfl)
  | some yN => ?_
  have hp := hp.pick 1 rfl;have hp := hp.pick 1 rfl;have hp := hp.pick 2 rfl;refine RunX.h1 (n := 61) (caps := []) (us := [(V.ptr bR 0 0)]) (by kernel_rfl) (by kernel_rfl) (by kernel_rfl) ((w61 hq0 hp).mono ?_);rintro p _ H hz;cases p with
  | true => exact hz.elim
  | false => ?_
  obtain ⟨rfl,hp⟩ := hz;show RunX T _ _ _ _;refine RunX.tk 1 (by kernel_rfl) ?_;refine RunX.done (e' := (mkE [(0,(V.ptr bR 0 0)),(1,(V.ptr bL 0 0)),(0,(V.ptr bO 0 0)),(2,(vI yN.1)),(0,(vI (0 : Int)))] 8)) (by kernel_rfl) ?_;refine Run.block ?_;obtain ⟨o,h2510,h⟩ := bind_some h;have hp := hp.non;have hp := hp.pick 2 rfl;have hp := hp.pick 1 rfl;have hp := hp.pick 3 rfl;have hp := hp.pick 3 rfl;refine (Run.iterP (I := I39_1 yN bR bL bO L) (RR := P39 bR bL bO L) (J := J39_1 yN bR bL bO L) (fun _ _ _ h => h) (fun s e h' t hI hf => ?_) FUEL h2510 (by exact ⟨none,(by kernel_rfl),hp⟩)).mono ?_
  · obtain ⟨_,rfl,hp⟩ := hI; exact w39_1_b hf hp
  · rintro X e' H hq;cases o with
    | ret r =>
      cases X with
      | nrm => exact hq.elim
      | ret => exact hq.elim
      | ext i => exact hq.elim
      | pan v =>
        cases r with
        | some r => exact hq.elim
        | none =>
          obtain ⟨hi,e2,e3,c0,c1,hc,hp⟩ := hq;obtain rfl := Option.some.inj h;exact r39 hi hc hp e2 e3 (by kernel_rfl) (by kernel_rfl)
    | go a =>
      cases X with | nrm => exact hq.elim | ret => exact hq.elim | pan v => exact hq.elim | ext i => ?_;obtain ⟨y2497,l2498⟩ := a;obtain ⟨rfl,o2499,he,hp⟩ := hq
      dsimp only at h
      refine Run.clrE (ts := [0,5,6,7,8,9,10,11,12,13,14]) (b := i39n14) he ?_;refine Rn.g ?_;refine Ro.p (hp.ld 1 (off := 0) (n := none) (v := (slv E_Unit.z E_Unit.ag (List.length l2498) o2499)) rfl (by kernel_rfl)) ?_;refine RunO.st hp (by kernel_rfl) 1 (off := 0) (v := (slv E_Unit.z E_Unit.ag (List.length l2498) o2499)) (cs' := [(slv E_Unit.z E_Unit.ag (List.length l2498) o2499)]) rfl (by kernel_rfl) (by kernel_rfl) (by cases o2499 <;> rfl) ?_;intro H hp;refine RunO.st hp (by kernel_rfl) 3 (off := 0) (v := (V.bool true)) (cs' := [(V.bool true)]) rfl (by kernel_rfl) (by kernel_rfl) (by kernel_rfl) ?_;intro H hp;refine Ro.d (mkE [(2,(V.ptr bL 0 0)),(0,(V.ptr bO 0 0))] 12) ?_;refine Run.ret ?_;obtain rfl := Option.some.inj h;show endR _ _ _ _ _;have hw := resW_cells (env := (mkE [(2,(V.ptr bL 0 0)),(0,(V.ptr bO 0 0))] 12)) (H := H) (ds := [some none,some none]) (res := [2,3]) (vs := [(slv E_Unit.z E_Unit.ag (List.length l2498) o2499),(V.bool true)]) (omapc (Eq.trans (b := ldV _ (V.ptr bL 0 0) none) (by kernel_rfl) (hp.ld 1 rfl (by kernel_rfl))) (omapc (Eq.trans (b := ldV _ (V.ptr bO 0 0) none) (by kernel_rfl) (hp.ld 3 rfl (by kernel_rfl))) omapn));have hp := hp.pick 2 rfl;have hp := hp.del 2;have hp := hp.del 2;exact ⟨_,hw,_,_,by kernel_rfl,rfl,hp⟩
theorem w39 {x0 : T_reader} {r : (List T_Unit) × Bool} (h : F39 x0 = some r) {bR : Nat} {H : Heap} {L : List Ob} (hp : HP H ((some (bR,0),[(Zl (EI .u8) x0.fb)]) :: L)) : Fn T 39 [(V.ptr bR 0 0)] H (Q39 L r) := by
  obtain ⟨R,hpR,hcov⟩ := HP.fillA (A := [(some (bR,0),[(Zl (EI .u8) x0.fb)])]) hp;refine Fn.enterZ t39 rfl (e0 := (mkE [(0,(V.ptr bR 0 0))] 15)) (by kernel_rfl) (wr39 h hpR) (fun v hh hq => ?_);obtain ⟨o0,c0,hc,rfl,hp2⟩ := hq;have hM : ∀ m ∈ [(o0,List.flatMap E_Unit.c r.1 ++ [])],m.2.all (V.free deepN) = true := (mem1 (flat_free E_Unit (fun a => by kernel_rfl) r.1 rfl) mem0);have z := frz_end (A := [(some (bR,0),[(Zl (EI .u8) x0.fb)])]) (K := [(some (bR,0),c0)]) (M := [(o0,List.flatMap E_Unit.c r.1 ++ [])]) (L := L ++ R) (u := V.tup [(EL E_Unit).e r.1,EB.e r.2]) hpR hcov (.chg hc .nil) hp2 hM (fun n0 hpm hn => newR_tup (k := 39) (allc (own_newR hpm hn hM 0 rfl 38) (allc (by kernel_rfl) alln))) (fun Hc hc => congrArg (Option.map V.tup) (omapc (own_deep E_Unit hc 0 rfl false (.inl rfl) 35) (omapc (EB.hd false _ 37 _ (.inl rfl)) omapn)));exact ⟨_,z.1,rfl,(z.2.leftA (K := [(some (bR,0),c0)])).del 0⟩
abbrev Q40 (L : List Ob) (r : Bool) : V → Heap → Prop := fun v h => v = EB.e r ∧ HP h (L)
def F40 (x0 : (List Int)) (x1 : (List Int)) : Option Bool :=
  (bstr x0).bind fun y6619 =>
  (bstr x1).bind fun y6621 =>
  some (y6619 == y6621)
theorem w40 {x0 : (List Int)} {x1 : (List Int)} {r : Bool} (h : F40 x0 x1 = some r) {H : Heap} {L : List Ob} (hp : HP H (L)) : Fn T 40 [(Zl (EI .u8) x0),(Zl (EI .u8) x1)] H (Q40 L r) := by
  refine Fn.enterE t40 (e0 := (mkE [(0,(Zl (EI .u8) x0)),(0,(Zl (EI .u8) x1))] 8)) (by kernel_rfl) ?_;show Run T (.clr [] i40n3) _ _ (finE none [4] (Q40 L r));refine Rn.k (mkE [(0,(Zl (EI .u8) x0)),(0,(Zl (EI .u8) x1))] 8) ?_;unfold F40 at h;refine Rn.g ?_;refine Ro.t 1 ?_;refine Ro.d (mkE [(0,(Zl (EI .u8) x0)),(0,(Zl (EI .u8) x1))] 8) ?_;refine Rn.g ?_;refine Ro.t 1 ?_;obtain ⟨y6619,h6620,h⟩ := bind_some h;refine Ro.p (b2s_fz (H := H) h6620) ?_;refine Ro.t 1 ?_;obtain ⟨y6621,h6622,h⟩ := bind_some h;refine Ro.p (b2s_fz (H := H) h6622) ?_;refine Ro.p (str_eql y6619 y6621) ?_;refine Ro.t 1 ?_;refine Ro.d (mkE [(4,(V.bool (y6619 == y6621)))] 5) ?_;refine Run.ret ?_;obtain rfl := Option.some.inj h;exact ⟨(V.bool (y6619 == y6621)),(by kernel_rfl),(by kernel_rfl),hp⟩
theorem c40 {x0 : (List Int)} {x1 : (List Int)} {r : Bool} (h : F40 x0 x1 = some r) (s : Bool) : Fn T 40 [(Zl (EI .u8) x0),(Zl (EI .u8) x1)] [] (fun v hh => deep s hh deepN v = some (EB.e r)) := by
  refine (w40 h HP.nil).mono ?_;rintro v hh ⟨rfl,hp⟩;exact EB.hd s hh 38 _ (.inr rfl)
abbrev Q14 (L : List Ob) (r : ((List T_Unit) × Int)) : V → Heap → Prop := fun v h => ∃ u0 : V,v = .tup [u0,(EI .i64).e r.2] ∧ (u0 = (EL E_Unit).e r.1 ∨ u0 = .nils ∧ r.1 = []) ∧ HP h (L)
def F14 (x0 : (List Int)) : Option ((List T_Unit) × Int) :=
  (F39 (⟨x0⟩ : T_reader)).bind fun y6633 =>
  if (!y6633.2) then
    some ([],(4 : Int))
  else
    (F12 y6633.1).bind fun y6643 =>
    if (y6643.2 != (0 : Int)) then
      some ([],(4 : Int))
    else
      (F40 y6643.1 x0).bind fun y6646 =>
      if (!y6646) then
        some ([],(4 : Int))
      else
        some (y6633.1,(0 : Int))
theorem w14 {x0 : (List Int)} {r : ((List T_Unit) × Int)} (h : F14 x0 = some r) {H : Heap} {L : List Ob} (hp : HP H (L)) : Fn T 14 [(Zl (EI .u8) x0)] H (Q14 L r) := by
  refine Fn.enterE t14 (e0 := (mkE [(0,(Zl (EI .u8) x0))] 30)) (by kernel_rfl) ?_;show Run T (.clr [] i14n19) _ _ (finE none [2,3] (Q14 L r));refine Rn.k (mkE [(0,(Zl (EI .u8) x0))] 30) ?_;unfold F14 at h;refine Rn.g ?_;refine Ro.t 2 ?_;refine Ro.d (mkE [(0,(Zl (EI .u8) x0))] 30) ?_;refine Rn.g ?_;refine Ro.t 2 ?_;refine RunO.boxh hp (by kernel_rfl) (v := (V.ag [(Zl (EI .u8) x0)])) (by kernel_rfl) (by kernel_rfl) ?_;intro b6632 H hp;obtain ⟨y6633,h6634,h⟩ := bind_some h;refine RunO.h1 (n := 39) (caps := []) (us := [(V.ptr b6632 0 0)]) (by kernel_rfl) (by kernel_rfl) (by kernel_rfl) ((w39 h6634 hp).mono ?_);rintro _ H ⟨rfl,hp⟩;refine Ro.t 5 ?_;refine Ro.d (mkE [(0,(Zl (EI .u8) x0)),(3,(Zl E_Unit y6633.1)),(0,(V.bool y6633.2))] 25) ?_;refine Run.seq ?_;refine Rn.g ?_;refine Ro.t 2 ?_;refine Ro.d (mkE [(0,(Zl (EI .u8) x0)),(3,(Zl E_Unit y6633.1)),(11,(V.bool (!y6633.2)))] 14) ?_;rcases tf (!y6633.2) with h6636 | h6636
  · rw [ite_t h6636] at h; refine Rn.t h6636 ?_;refine Rn.g ?_;refine Ro.t 2 ?_;refine Ro.d (mkE [(2,V.nils),(0,(vI (4 : Int)))] 27) ?_;refine Run.ret ?_;obtain rfl := Option.some.inj h;exact ⟨(V.tup [V.nils,(vI (4 : Int))]),(by kernel_rfl),V.nils,(by kernel_rfl),(.inr ⟨rfl,rfl⟩),hp⟩
  · rw [ite_f h6636] at h; refine Rn.f h6636 ?_;refine Run.skip ?_;refine Rn.c (mkE [(0,(Zl (EI .u8) x0)),(3,(Zl E_Unit y6633.1))] 26) ?_;refine Run.seq ?_;refine Rn.g ?_;refine Ro.t 1 ?_;obtain ⟨y6643,h6644,h⟩ := bind_some h;refine RunO.c1 (by kernel_rfl) (by kernel_rfl) (c12 h6644 _) ?_;refine Ro.t 5 ?_;refine Ro.d (mkE [(0,(Zl (EI .u8) x0)),(3,(Zl E_Unit y6633.1)),(1,(Zl (EI .u8) y6643.1)),(0,(vI y6643.2))] 23) ?_;refine Rn.g ?_;refine Ro.t 1 ?_;rcases tf (y6643.2 != (0 : Int)) with h6645 | h6645
    · rw [ite_t h6645] at h; refine Ro.p (bool_of h6645) ?_;refine Ro.t 6 ?_;refine Ro.d (mkE [(4,(Zl E_Unit y6633.1)),(24,(V.bool true))] 1) ?_;refine Run.condT (by kernel_rfl) ?_;refine Rn.g ?_;refine Ro.t 2 ?_;refine Ro.d (mkE [(2,V.nils),(0,(vI (4 : Int)))] 27) ?_;refine Run.ret ?_;obtain rfl := Option.some.inj h;exact ⟨(V.tup [V.nils,(vI (4 : Int))]),(by kernel_rfl),V.nils,(by kernel_rfl),(.inr ⟨rfl,rfl⟩),hp⟩
    · rw [ite_f h6645] at h; refine Ro.p (bool_of h6645) ?_;refine Ro.t 3 ?_;obtain ⟨y6646,h6647,h⟩ := bind_some h;refine RunO.c1 (by kernel_rfl) (by kernel_rfl) (c40 h6647 _) ?_;refine Ro.t 2 ?_;refine Ro.d (mkE [(4,(Zl E_Unit y6633.1)),(24,(V.bool (!y6646)))] 1) ?_;rcases tf (!y6646) with h6648 | h6648
      · rw [ite_t h6648] at h; refine Rn.t h6648 ?_;refine Rn.g ?_;refine Ro.t 2 ?_;refine Ro.d (mkE [(2,V.nils),(0,(vI (4 : Int)))] 27) ?_;refine Run.ret ?_;obtain rfl := Option.some.inj h;exact ⟨(V.tup [V.nils,(vI (4 : Int))]),(by kernel_rfl),V.nils,(by kernel_rfl),(.inr ⟨rfl,rfl⟩),hp⟩
      · rw [ite_f h6648] at h; refine Rn.f h6648 ?_;refine Run.skip ?_;refine Rn.c (mkE [(4,(Zl E_Unit y6633.1))] 26) ?_;refine Rn.g ?_;refine Ro.t 3 ?_;refine Ro.d (mkE [(2,(Zl E_Unit y6633.1)),(0,(vI (0 : Int)))] 27) ?_;refine Run.ret ?_;obtain rfl := Option.some.inj h;exact ⟨(V.tup [(Zl E_Unit y6633.1),(vI (0 : Int))]),(by kernel_rfl),(Zl E_Unit y6633.1),(by kernel_rfl),(.inl (by kernel_rfl)),hp⟩
theorem c14 {x0 : (List Int)} {r : ((List T_Unit) × Int)} (h : F14 x0 = some r)  : Fn T 14 [(Zl (EI .u8) x0)] [] (fun v hh => deep false hh deepN v = some (.tup [(EL E_Unit).e r.1,(EI .i64).e r.2])) := by
  refine (w14 h HP.nil).mono ?_;rintro v hh ⟨u0,rfl,hu0,hp⟩;exact congrArg (Option.map V.tup) (omapc (mix_deep E_Unit hu0 38) (omapc ((EI .i64).hd false hh 37 _ (.inl rfl)) omapn))
theorem cs14 {x0 : (List Int)} {r : ((List T_Unit) × Int)} (h : F14 x0 = some r) (s : Bool) : ∃ w,Fn T 14 [(Zl (EI .u8) x0)] [] (fun v hh => deep s hh deepN v = some (V.tup [w,(EI .i64).e r.2])) := by
  obtain ⟨k,v,H',he,u0,rfl,hu,hp⟩ := w14 h HP.nil;rcases hu with rfl | ⟨rfl,_⟩
  · exact ⟨if s then .un else (EL E_Unit).e r.1,k,_,_,he,by cases s <;> rfl⟩
  · exact ⟨.fz [],k,_,_,he,by cases s <;> rfl⟩
abbrev Q27 (L : List Ob) (r : T_Unit) : V → Heap → Prop := fun v h => v = E_Unit.e r ∧ HP h (L)
def F27 : Option T_Unit :=
  some (⟨([102] : List UInt8),([] : List Int),(4 : Int),(1 : Int),([(⟨(6 : Int),(0 : Int),(0 : Int),(0 : Int),(0 : Int),(0 : Int),(3 : Int),(0 : Int),(0 : Int)⟩ : T_Code),(⟨(1 : Int),(0 : Int),(0 : Int),(0 : Int),(0 : Int),(3 : Int),(0 : Int),(0 : Int),(5 : Int)⟩ : T_Code),(⟨(2 : Int),(0 : Int),(0 : Int),(0 : Int),(0 : Int),(1 : Int),(3 : Int),(0 : Int),(0 : Int)⟩ : T_Code),(⟨(5 : Int),(0 : Int),(0 : Int),(0 : Int),(0 : Int),(3 : Int),(0 : Int),(0 : Int),(0 : Int)⟩ : T_Code),(⟨(16 : Int),(0 : Int),(0 : Int),(0 : Int),(0 : Int),(1 : Int),(0 : Int),(0 : Int),(0 : Int)⟩ : T_Code)] : List T_Code)⟩ : T_Unit)
theorem w27 {r : T_Unit} (h : F27 = some r) {H : Heap} {L : List Ob} (hp : HP H (L)) : Fn T 27 [] H (Q27 L r) := by
  refine Fn.enterE t27 (e0 := (mkE [] 8)) (by kernel_rfl) ?_;show Run T (.fin [some (some 5)] (.clr [] i27n3)) _ _ (finE (some [some (some 5)]) [0] (Q27 L r));refine Run.finb ?_;refine Rn.k (mkE [] 8) ?_;unfold F27 at h;refine Rn.g ?_;refine RunO.alloc hp (by kernel_rfl) ?_;intro b6652 H hp;refine Ro.d (mkE [(0,(V.ptr b6652 0 0))] 7) ?_;refine Rn.g ?_;refine Ro.t 7 ?_;refine RunO.st hp (by kernel_rfl) 0 (off := 0) (v := (V.ag [(ES.e ([102] : List UInt8)),(V.fz (List.map (EI .u8).e ([] : List Int))),(V.int .u8 (4 : Int)),(vI (1 : Int)),(V.fz (List.map E_Code.e ([(⟨(6 : Int),(0 : Int),(0 : Int),(0 : Int),(0 : Int),(0 : Int),(3 : Int),(0 : Int),(0 : Int)⟩ : T_Code),(⟨(1 : Int),(0 : Int),(0 : Int),(0 : Int),(0 : Int),(3 : Int),(0 : Int),(0 : Int),(5 : Int)⟩ : T_Code),(⟨(2 : Int),(0 : Int),(0 : Int),(0 : Int),(0 : Int),(1 : Int),(3 : Int),(0 : Int),(0 : Int)⟩ : T_Code),(⟨(5 : Int),(0 : Int),(0 : Int),(0 : Int),(0 : Int),(3 : Int),(0 : Int),(0 : Int),(0 : Int)⟩ : T_Code),(⟨(16 : Int),(0 : Int),(0 : Int),(0 : Int),(0 : Int),(1 : Int),(0 : Int),(0 : Int),(0 : Int)⟩ : T_Code)] : List T_Code)))])) (cs' := [(ES.e ([102] : List UInt8)),(V.fz (List.map (EI .u8).e ([] : List Int))),(V.int .u8 (4 : Int)),(vI (1 : Int)),(V.fz (List.map E_Code.e ([(⟨(6 : Int),(0 : Int),(0 : Int),(0 : Int),(0 : Int),(0 : Int),(3 : Int),(0 : Int),(0 : Int)⟩ : T_Code),(⟨(1 : Int),(0 : Int),(0 : Int),(0 : Int),(0 : Int),(3 : Int),(0 : Int),(0 : Int),(5 : Int)⟩ : T_Code),(⟨(2 : Int),(0 : Int),(0 : Int),(0 : Int),(0 : Int),(1 : Int),(3 : Int),(0 : Int),(0 : Int)⟩ : T_Code),(⟨(5 : Int),(0 : Int),(0 : Int),(0 : Int),(0 : Int),(3 : Int),(0 : Int),(0 : Int),(0 : Int)⟩ : T_Code),(⟨(16 : Int),(0 : Int),(0 : Int),(0 : Int),(0 : Int),(1 : Int),(0 : Int),(0 : Int),(0 : Int)⟩ : T_Code)] : List T_Code)))]) rfl (by kernel_rfl) (by kernel_rfl) (by kernel_rfl) ?_;intro H hp;refine Ro.d (mkE [(0,(V.ptr b6652 0 0))] 7) ?_;refine Run.ret ?_;obtain rfl := Option.some.inj h;have hw := resW_cells (env := (mkE [(0,(V.ptr b6652 0 0))] 7)) (H := H) (ds := [some (some 5)]) (res := [0]) (vs := [(V.ag [(ES.e ([102] : List UInt8)),(V.fz (List.map (EI .u8).e ([] : List Int))),(V.int .u8 (4 : Int)),(vI (1 : Int)),(V.fz (List.map E_Code.e ([(⟨(6 : Int),(0 : Int),(0 : Int),(0 : Int),(0 : Int),(0 : Int),(3 : Int),(0 : Int),(0 : Int)⟩ : T_Code),(⟨(1 : Int),(0 : Int),(0 : Int),(0 : Int),(0 : Int),(3 : Int),(0 : Int),(0 : Int),(5 : Int)⟩ : T_Code),(⟨(2 : Int),(0 : Int),(0 : Int),(0 : Int),(0 : Int),(1 : Int),(3 : Int),(0 : Int),(0 : Int)⟩ : T_Code),(⟨(5 : Int),(0 : Int),(0 : Int),(0 : Int),(0 : Int),(3 : Int),(0 : Int),(0 : Int),(0 : Int)⟩ : T_Code),(⟨(16 : Int),(0 : Int),(0 : Int),(0 : Int),(0 : Int),(1 : Int),(0 : Int),(0 : Int),(0 : Int)⟩ : T_Code)] : List T_Code)))])]) (omapc (Eq.trans (b := ldV _ (V.ptr b6652 0 0) (some 5)) (by kernel_rfl) (hp.ld 0 rfl (by kernel_rfl))) omapn);have hp := hp.del 0;exact ⟨(V.ag [(ES.e ([102] : List UInt8)),(V.fz (List.map (EI .u8).e ([] : List Int))),(V.int .u8 (4 : Int)),(vI (1 : Int)),(V.fz (List.map E_Code.e ([(⟨(6 : Int),(0 : Int),(0 : Int),(0 : Int),(0 : Int),(0 : Int),(3 : Int),(0 : Int),(0 : Int)⟩ : T_Code),(⟨(1 : Int),(0 : Int),(0 : Int),(0 : Int),(0 : Int),(3 : Int),(0 : Int),(0 : Int),(5 : Int)⟩ : T_Code),(⟨(2 : Int),(0 : Int),(0 : Int),(0 : Int),(0 : Int),(1 : Int),(3 : Int),(0 : Int),(0 : Int)⟩ : T_Code),(⟨(5 : Int),(0 : Int),(0 : Int),(0 : Int),(0 : Int),(3 : Int),(0 : Int),(0 : Int),(0 : Int)⟩ : T_Code),(⟨(16 : Int),(0 : Int),(0 : Int),(0 : Int),(0 : Int),(1 : Int),(0 : Int),(0 : Int),(0 : Int)⟩ : T_Code)] : List T_Code)))]),(hw),(by kernel_rfl),hp⟩
theorem c27 {r : T_Unit} (h : F27 = some r)  : Fn T 27 [] [] (fun v hh => deep false hh deepN v = some (E_Unit.e r)) := by
  refine (w27 h HP.nil).mono ?_;rintro v hh ⟨rfl,hp⟩;exact E_Unit.hd false hh 38 _ (.inl rfl)
abbrev Q16 (L : List Ob) (r : Bool) : V → Heap → Prop := fun v h => v = EB.e r ∧ HP h (L)
abbrev RR16 (L : List Ob) (r : Bool) : List V → Heap → Prop := fun e h => endR none [4] (Q16 L r) e h
abbrev I16_1 (x0 : (List Int)) (x1 : (List Int)) (L : List Ob) : (Int) → List V → Heap → Prop := fun s e h => e = (mkE [(0,(Zl (EI .u8) x0)),(0,(Zl (EI .u8) x1)),(3,(vI s))] 20) ∧ HP h (L)
abbrev J16_1 (x0 : (List Int)) (x1 : (List Int)) (L : List Ob) : Unit → Nat → List V → Heap → Prop := fun a i e h => i = 0 ∧ clrEnv [0,1,4,5,11,12,13,14,15,16,17,18,19,20,21,22,23,24,25] e = (mkE [] 26) ∧ HP h (L)
def F16_1_b (x0 : (List Int)) (x1 : (List Int)) (y6699 : Int) : Option (Stp (Int) Bool Unit) :=
  if (decide (y6699 < ((List.length x0 : Nat) : Int))) then
    (idx x0 y6699).bind fun y6719 =>
    (idx x1 y6699).bind fun y6721 =>
    if (y6719 != y6721) then
      some (.ret false)
    else
      some (.next ((IntKind.i64.wrap (y6699 + (1 : Int)))))
  else
    some (.go ())
theorem w16_1_b {x0 : (List Int)} {x1 : (List Int)} {y6699 : Int} {t : (Stp (Int) Bool Unit)} (h : F16_1_b x0 x1 y6699 = some t) {H : Heap} {L : List Ob} (hp : HP H (L)) :
    Run T i16n18 (mkE [(0,(Zl (EI .u8) x0)),(0,(Zl (EI .u8) x1)),(3,(vI y6699))] 20) H (stp [4,11,12,13,14,15,16,17,18,19,20,21,22,23,24,25] (I16_1 x0 x1 L) (RR16 L) (J16_1 x0 x1 L) t) := by
  unfold F16_1_b at h;refine Run.seq ?_;refine Rn.g ?_;refine Ro.t 2 ?_;refine Ro.p (len_fz (EI .u8) x0) ?_;refine Ro.t 1 ?_;refine Ro.d (mkE [(0,(Zl (EI .u8) x0)),(0,(Zl (EI .u8) x1)),(3,(vI y6699)),(8,(V.bool (decide (y6699 < (ln x0)))))] 11) ?_;rcases tf (decide (y6699 < (ln x0))) with h6713 | h6713
  · rw [ite_t h6713] at h; refine Rn.t h6713 ?_;refine Run.skip ?_;refine Rn.c (mkE [(0,(Zl (EI .u8) x0)),(0,(Zl (EI .u8) x1)),(3,(vI y6699))] 20) ?_;refine Run.seq ?_;refine Run.block ?_;refine Rn.g ?_;refine Ro.t 2 ?_;obtain ⟨y6719,h6720,h⟩ := bind_some h;refine Ro.p (idx_fz (EI .u8) .i64 h6720) ?_;refine Ro.t 3 ?_;obtain ⟨y6721,h6722,h⟩ := bind_some h;refine Ro.p (idx_fz (EI .u8) .i64 h6722) ?_;refine Ro.t 2 ?_;refine Ro.d (mkE [(0,(Zl (EI .u8) x0)),(0,(Zl (EI .u8) x1)),(3,(vI y6699)),(19,(V.bool (y6719 != y6721)))] 0) ?_;rcases tf (y6719 != y6721) with h6723 | h6723
    · rw [ite_t h6723] at h; refine Rn.t h6723 ?_;refine Rn.g ?_;refine Ro.t 1 ?_;refine Ro.d (mkE [(4,(V.bool false))] 21) ?_;refine Run.ret ?_;obtain rfl := Option.some.inj h;show RR16 L _ _ _;exact ⟨(V.bool false),(by kernel_rfl),(by kernel_rfl),hp⟩
    · rw [ite_f h6723] at h; refine Rn.f h6723 ?_;refine Run.skip ?_;refine Run.clrE (ts := [4,17,18,19,20,21,22,23,24,25]) (b := (.rgn i16r16)) (Q := (stp [4,11,12,13,14,15,16,17,18,19,20,21,22,23,24,25] (I16_1 x0 x1 L) (RR16 L) (J16_1 x0 x1 L) t)) (e' := (mkE [(0,(Zl (EI .u8) x0)),(0,(Zl (EI .u8) x1)),(3,(vI y6699))] 20)) (by kernel_rfl) ?_;refine Run.rgn ?_;refine Ro.t 3 ?_;refine RunO.nil ?_;obtain rfl := Option.some.inj h;show I16_1 x0 x1 L _ _ _;exact ⟨(by kernel_rfl),hp⟩
  · rw [ite_f h6713] at h; refine Rn.f h6713 ?_;refine Run.exit ?_;obtain rfl := Option.some.inj h;show J16_1 x0 x1 L () _ _ _;exact ⟨rfl,(by kernel_rfl),hp⟩
def F16 (x0 : (List Int)) (x1 : (List Int)) : Option Bool :=
  if (((List.length x0 : Nat) : Int) != ((List.length x1 : Nat) : Int)) then
    some false
  else
    (iter (fun s : (Int) => F16_1_b x0 x1 s) FUEL ((0 : Int))).bind fun o => match o with
    | .ret r => some r
    | .go () =>
      some true
theorem w16 {x0 : (List Int)} {x1 : (List Int)} {r : Bool} (h : F16 x0 x1 = some r) {H : Heap} {L : List Ob} (hp : HP H (L)) : Fn T 16 [(Zl (EI .u8) x0),(Zl (EI .u8) x1)] H (Q16 L r) := by
  refine Fn.enterE t16 (e0 := (mkE [(0,(Zl (EI .u8) x0)),(0,(Zl (EI .u8) x1))] 24)) (by kernel_rfl) ?_;show Run T (.clr [] i16n26) _ _ (finE none [4] (Q16 L r));refine Rn.k (mkE [(0,(Zl (EI .u8) x0)),(0,(Zl (EI .u8) x1))] 24) ?_;unfold F16 at h;refine Rn.g ?_;refine Ro.t 1 ?_;refine Ro.d (mkE [(0,(Zl (EI .u8) x0)),(0,(Zl (EI .u8) x1))] 24) ?_;refine Run.seq ?_;refine Rn.g ?_;refine Ro.t 1 ?_;refine Ro.p (len_fz (EI .u8) x0) ?_;refine Ro.t 1 ?_;refine Ro.p (len_fz (EI .u8) x1) ?_;refine Ro.t 1 ?_;refine Ro.d (mkE [(0,(Zl (EI .u8) x0)),(0,(Zl (EI .u8) x1)),(8,(V.bool ((ln x0) != (ln x1))))] 15) ?_;rcases tf ((ln x0) != (ln x1)) with h6686 | h6686
  · rw [ite_t h6686] at h; refine Rn.t h6686 ?_;refine Rn.g ?_;refine Ro.t 1 ?_;refine Ro.d (mkE [(4,(V.bool false))] 21) ?_;refine Run.ret ?_;obtain rfl := Option.some.inj h;exact ⟨(V.bool false),(by kernel_rfl),(by kernel_rfl),hp⟩
  · rw [ite_f h6686] at h; refine Rn.f h6686 ?_;refine Run.skip ?_;refine Rn.c (mkE [(0,(Zl (EI .u8) x0)),(0,(Zl (EI .u8) x1))] 24) ?_;refine Run.seq ?_;refine Rn.g ?_;refine Ro.t 1 ?_;refine Ro.d (mkE [(0,(Zl (EI .u8) x0)),(0,(Zl (EI .u8) x1)),(3,(vI (0 : Int)))] 20) ?_;refine Run.block ?_;obtain ⟨o,h6724,h⟩ := bind_some h;refine (Run.iter (I := I16_1 x0 x1 L) (RR := RR16 L) (J := J16_1 x0 x1 L) (fun s e h' t hI hf => ?_) FUEL h6724 (by exact ⟨(by kernel_rfl),hp⟩)).mono ?_
    · obtain ⟨rfl,hp⟩ := hI; exact w16_1_b hf hp
    · rintro X e' H hq;cases o with
      | ret r => cases X <;> first | exact hq.elim | (cases h; exact hq)
      | go a =>
        cases X with | nrm => exact hq.elim | ret => exact hq.elim | pan v => exact hq.elim | ext i => ?_;obtain ⟨rfl,he,hp⟩ := hq
        dsimp only at h
        refine Run.clrE (ts := [0,1,4,5,11,12,13,14,15,16,17,18,19,20,21,22,23,24,25]) (b := i16n23) (Q := (finE none [4] (Q16 L r))) he ?_;refine Rn.g ?_;refine Ro.t 1 ?_;refine Ro.d (mkE [(4,(V.bool true))] 21) ?_;refine Run.ret ?_;obtain rfl := Option.some.inj h;exact ⟨(V.bool true),(by kernel_rfl),(by kernel_rfl),hp⟩
theorem c16 {x0 : (List Int)} {x1 : (List Int)} {r : Bool} (h : F16 x0 x1 = some r) (s : Bool) : Fn T 16 [(Zl (EI .u8) x0),(Zl (EI .u8) x1)] [] (fun v hh => deep s hh deepN v = some (EB.e r)) := by
  refine (w16 h HP.nil).mono ?_;rintro v hh ⟨rfl,hp⟩;exact EB.hd s hh 38 _ (.inr rfl)
abbrev Q66 (L : List Ob) (r : Bool) : V → Heap → Prop := fun v h => v = EB.e r ∧ HP h (L)
abbrev RR66 (L : List Ob) (r : Bool) : List V → Heap → Prop := fun e h => endR none [4] (Q66 L r) e h
abbrev I66_1 (x0 : (List Int)) (x1 : (List Int)) (L : List Ob) : (Int) → List V → Heap → Prop := fun s e h => e = (mkE [(0,(Zl (EI .u8) x0)),(0,(Zl (EI .u8) x1)),(3,(vI s))] 20) ∧ HP h (L)
abbrev J66_1 (x0 : (List Int)) (x1 : (List Int)) (L : List Ob) : Unit → Nat → List V → Heap → Prop := fun a i e h => i = 0 ∧ clrEnv [0,1,4,5,11,12,13,14,15,16,17,18,19,20,21,22,23,24,25] e = (mkE [] 26) ∧ HP h (L)
def F66_1_b (x0 : (List Int)) (x1 : (List Int)) (y6779 : Int) : Option (Stp (Int) Bool Unit) :=
  if (decide (y6779 < ((List.length x0 : Nat) : Int))) then
    (idx x0 y6779).bind fun y6799 =>
    (idx x1 y6779).bind fun y6801 =>
    if (y6799 != y6801) then
      some (.ret false)
    else
      some (.next ((IntKind.i64.wrap (y6779 + (1 : Int)))))
  else
    some (.go ())
theorem w66_1_b {x0 : (List Int)} {x1 : (List Int)} {y6779 : Int} {t : (Stp (Int) Bool Unit)} (h : F66_1_b x0 x1 y6779 = some t) {H : Heap} {L : List Ob} (hp : HP H (L)) :
    Run T i66n18 (mkE [(0,(Zl (EI .u8) x0)),(0,(Zl (EI .u8) x1)),(3,(vI y6779))] 20) H (stp [4,11,12,13,14,15,16,17,18,19,20,21,22,23,24,25] (I66_1 x0 x1 L) (RR66 L) (J66_1 x0 x1 L) t) := by
  unfold F66_1_b at h;refine Run.seq ?_;refine Rn.g ?_;refine Ro.t 2 ?_;refine Ro.p (len_fz (EI .u8) x0) ?_;refine Ro.t 1 ?_;refine Ro.d (mkE [(0,(Zl (EI .u8) x0)),(0,(Zl (EI .u8) x1)),(3,(vI y6779)),(8,(V.bool (decide (y6779 < (ln x0)))))] 11) ?_;rcases tf (decide (y6779 < (ln x0))) with h6793 | h6793
  · rw [ite_t h6793] at h; refine Rn.t h6793 ?_;refine Run.skip ?_;refine Rn.c (mkE [(0,(Zl (EI .u8) x0)),(0,(Zl (EI .u8) x1)),(3,(vI y6779))] 20) ?_;refine Run.seq ?_;refine Run.block ?_;refine Rn.g ?_;refine Ro.t 2 ?_;obtain ⟨y6799,h6800,h⟩ := bind_some h;refine Ro.p (idx_fz (EI .u8) .i64 h6800) ?_;refine Ro.t 3 ?_;obtain ⟨y6801,h6802,h⟩ := bind_some h;refine Ro.p (idx_fz (EI .u8) .i64 h6802) ?_;refine Ro.t 2 ?_;refine Ro.d (mkE [(0,(Zl (EI .u8) x0)),(0,(Zl (EI .u8) x1)),(3,(vI y6779)),(19,(V.bool (y6799 != y6801)))] 0) ?_;rcases tf (y6799 != y6801) with h6803 | h6803
    · rw [ite_t h6803] at h; refine Rn.t h6803 ?_;refine Rn.g ?_;refine Ro.t 1 ?_;refine Ro.d (mkE [(4,(V.bool false))] 21) ?_;refine Run.ret ?_;obtain rfl := Option.some.inj h;show RR66 L _ _ _;exact ⟨(V.bool false),(by kernel_rfl),(by kernel_rfl),hp⟩
    · rw [ite_f h6803] at h; refine Rn.f h6803 ?_;refine Run.skip ?_;refine Run.clrE (ts := [4,17,18,19,20,21,22,23,24,25]) (b := (.rgn i66r16)) (Q := (stp [4,11,12,13,14,15,16,17,18,19,20,21,22,23,24,25] (I66_1 x0 x1 L) (RR66 L) (J66_1 x0 x1 L) t)) (e' := (mkE [(0,(Zl (EI .u8) x0)),(0,(Zl (EI .u8) x1)),(3,(vI y6779))] 20)) (by kernel_rfl) ?_;refine Run.rgn ?_;refine Ro.t 3 ?_;refine RunO.nil ?_;obtain rfl := Option.some.inj h;show I66_1 x0 x1 L _ _ _;exact ⟨(by kernel_rfl),hp⟩
  · rw [ite_f h6793] at h; refine Rn.f h6793 ?_;refine Run.exit ?_;obtain rfl := Option.some.inj h;show J66_1 x0 x1 L () _ _ _;exact ⟨rfl,(by kernel_rfl),hp⟩
def F66 (x0 : (List Int)) (x1 : (List Int)) : Option Bool :=
  if (((List.length x0 : Nat) : Int) != ((List.length x1 : Nat) : Int)) then
    some false
  else
    (iter (fun s : (Int) => F66_1_b x0 x1 s) FUEL ((0 : Int))).bind fun o => match o with
    | .ret r => some r
    | .go () =>
      some true
theorem w66 {x0 : (List Int)} {x1 : (List Int)} {r : Bool} (h : F66 x0 x1 = some r) {H : Heap} {L : List Ob} (hp : HP H (L)) : Fn T 66 [(Zl (EI .u8) x0),(Zl (EI .u8) x1)] H (Q66 L r) := by
  refine Fn.enterE t66 (e0 := (mkE [(0,(Zl (EI .u8) x0)),(0,(Zl (EI .u8) x1))] 24)) (by kernel_rfl) ?_;show Run T (.clr [] i66n26) _ _ (finE none [4] (Q66 L r));refine Rn.k (mkE [(0,(Zl (EI .u8) x0)),(0,(Zl (EI .u8) x1))] 24) ?_;unfold F66 at h;refine Rn.g ?_;refine Ro.t 1 ?_;refine Ro.d (mkE [(0,(Zl (EI .u8) x0)),(0,(Zl (EI .u8) x1))] 24) ?_;refine Run.seq ?_;refine Rn.g ?_;refine Ro.t 1 ?_;refine Ro.p (len_fz (EI .u8) x0) ?_;refine Ro.t 1 ?_;refine Ro.p (len_fz (EI .u8) x1) ?_;refine Ro.t 1 ?_;refine Ro.d (mkE [(0,(Zl (EI .u8) x0)),(0,(Zl (EI .u8) x1)),(8,(V.bool ((ln x0) != (ln x1))))] 15) ?_;rcases tf ((ln x0) != (ln x1)) with h6766 | h6766
  · rw [ite_t h6766] at h; refine Rn.t h6766 ?_;refine Rn.g ?_;refine Ro.t 1 ?_;refine Ro.d (mkE [(4,(V.bool false))] 21) ?_;refine Run.ret ?_;obtain rfl := Option.some.inj h;exact ⟨(V.bool false),(by kernel_rfl),(by kernel_rfl),hp⟩
  · rw [ite_f h6766] at h; refine Rn.f h6766 ?_;refine Run.skip ?_;refine Rn.c (mkE [(0,(Zl (EI .u8) x0)),(0,(Zl (EI .u8) x1))] 24) ?_;refine Run.seq ?_;refine Rn.g ?_;refine Ro.t 1 ?_;refine Ro.d (mkE [(0,(Zl (EI .u8) x0)),(0,(Zl (EI .u8) x1)),(3,(vI (0 : Int)))] 20) ?_;refine Run.block ?_;obtain ⟨o,h6804,h⟩ := bind_some h;refine (Run.iter (I := I66_1 x0 x1 L) (RR := RR66 L) (J := J66_1 x0 x1 L) (fun s e h' t hI hf => ?_) FUEL h6804 (by exact ⟨(by kernel_rfl),hp⟩)).mono ?_
    · obtain ⟨rfl,hp⟩ := hI; exact w66_1_b hf hp
    · rintro X e' H hq;cases o with
      | ret r => cases X <;> first | exact hq.elim | (cases h; exact hq)
      | go a =>
        cases X with | nrm => exact hq.elim | ret => exact hq.elim | pan v => exact hq.elim | ext i => ?_;obtain ⟨rfl,he,hp⟩ := hq
        dsimp only at h
        refine Run.clrE (ts := [0,1,4,5,11,12,13,14,15,16,17,18,19,20,21,22,23,24,25]) (b := i66n23) (Q := (finE none [4] (Q66 L r))) he ?_;refine Rn.g ?_;refine Ro.t 1 ?_;refine Ro.d (mkE [(4,(V.bool true))] 21) ?_;refine Run.ret ?_;obtain rfl := Option.some.inj h;exact ⟨(V.bool true),(by kernel_rfl),(by kernel_rfl),hp⟩
theorem c66 {x0 : (List Int)} {x1 : (List Int)} {r : Bool} (h : F66 x0 x1 = some r) (s : Bool) : Fn T 66 [(Zl (EI .u8) x0),(Zl (EI .u8) x1)] [] (fun v hh => deep s hh deepN v = some (EB.e r)) := by
  refine (w66 h HP.nil).mono ?_;rintro v hh ⟨rfl,hp⟩;exact EB.hd s hh 38 _ (.inr rfl)
abbrev Q67 (L : List Ob) (r : Bool) : V → Heap → Prop := fun v h => v = EB.e r ∧ HP h (L)
abbrev RR67 (L : List Ob) (r : Bool) : List V → Heap → Prop := fun e h => endR none [4] (Q67 L r) e h
abbrev I67_1 (x0 : (List T_Code)) (x1 : (List T_Code)) (L : List Ob) : (Int) → List V → Heap → Prop := fun s e h => e = (mkE [(0,(Zl E_Code x0)),(0,(Zl E_Code x1)),(3,(vI s))] 20) ∧ HP h (L)
abbrev J67_1 (x0 : (List T_Code)) (x1 : (List T_Code)) (L : List Ob) : Unit → Nat → List V → Heap → Prop := fun a i e h => i = 0 ∧ clrEnv [0,1,4,5,11,12,13,14,15,16,17,18,19,20,21,22,23,24,25] e = (mkE [] 26) ∧ HP h (L)
def F67_1_b (x0 : (List T_Code)) (x1 : (List T_Code)) (y6851 : Int) : Option (Stp (Int) Bool Unit) :=
  if (decide (y6851 < ((List.length x0 : Nat) : Int))) then
    (idx x0 y6851).bind fun y6871 =>
    (idx x1 y6851).bind fun y6873 =>
    if (!(decide (y6871 = y6873))) then
      some (.ret false)
    else
      some (.next ((IntKind.i64.wrap (y6851 + (1 : Int)))))
  else
    some (.go ())
theorem w67_1_b {x0 : (List T_Code)} {x1 : (List T_Code)} {y6851 : Int} {t : (Stp (Int) Bool Unit)} (h : F67_1_b x0 x1 y6851 = some t) {H : Heap} {L : List Ob} (hp : HP H (L)) :
    Run T i67n18 (mkE [(0,(Zl E_Code x0)),(0,(Zl E_Code x1)),(3,(vI y6851))] 20) H (stp [4,11,12,13,14,15,16,17,18,19,20,21,22,23,24,25] (I67_1 x0 x1 L) (RR67 L) (J67_1 x0 x1 L) t) := by
  unfold F67_1_b at h;refine Run.seq ?_;refine Rn.g ?_;refine Ro.t 2 ?_;refine Ro.p (len_fz E_Code x0) ?_;refine Ro.t 1 ?_;refine Ro.d (mkE [(0,(Zl E_Code x0)),(0,(Zl E_Code x1)),(3,(vI y6851)),(8,(V.bool (decide (y6851 < (ln x0)))))] 11) ?_;rcases tf (decide (y6851 < (ln x0))) with h6865 | h6865
  · rw [ite_t h6865] at h; refine Rn.t h6865 ?_;refine Run.skip ?_;refine Rn.c (mkE [(0,(Zl E_Code x0)),(0,(Zl E_Code x1)),(3,(vI y6851))] 20) ?_;refine Run.seq ?_;refine Run.block ?_;refine Rn.g ?_;refine Ro.t 2 ?_;obtain ⟨y6871,h6872,h⟩ := bind_some h;refine Ro.p (idx_fz E_Code .i64 h6872) ?_;refine Ro.t 3 ?_;obtain ⟨y6873,h6874,h⟩ := bind_some h;refine Ro.p (idx_fz E_Code .i64 h6874) ?_;refine Ro.t 1 ?_;refine Ro.p (eqs_Code true y6871 y6873) ?_;refine Ro.d (mkE [(0,(Zl E_Code x0)),(0,(Zl E_Code x1)),(3,(vI y6851)),(19,(V.bool (!(decide (y6871 = y6873)))))] 0) ?_;rcases tf (!(decide (y6871 = y6873))) with h6875 | h6875
    · rw [ite_t h6875] at h; refine Rn.t h6875 ?_;refine Rn.g ?_;refine Ro.t 1 ?_;refine Ro.d (mkE [(4,(V.bool false))] 21) ?_;refine Run.ret ?_;obtain rfl := Option.some.inj h;show RR67 L _ _ _;exact ⟨(V.bool false),(by kernel_rfl),(by kernel_rfl),hp⟩
    · rw [ite_f h6875] at h; refine Rn.f h6875 ?_;refine Run.skip ?_;refine Run.clrE (ts := [4,17,18,19,20,21,22,23,24,25]) (b := (.rgn i67r16)) (Q := (stp [4,11,12,13,14,15,16,17,18,19,20,21,22,23,24,25] (I67_1 x0 x1 L) (RR67 L) (J67_1 x0 x1 L) t)) (e' := (mkE [(0,(Zl E_Code x0)),(0,(Zl E_Code x1)),(3,(vI y6851))] 20)) (by kernel_rfl) ?_;refine Run.rgn ?_;refine Ro.t 3 ?_;refine RunO.nil ?_;obtain rfl := Option.some.inj h;show I67_1 x0 x1 L _ _ _;exact ⟨(by kernel_rfl),hp⟩
  · rw [ite_f h6865] at h; refine Rn.f h6865 ?_;refine Run.exit ?_;obtain rfl := Option.some.inj h;show J67_1 x0 x1 L () _ _ _;exact ⟨rfl,(by kernel_rfl),hp⟩
def F67 (x0 : (List T_Code)) (x1 : (List T_Code)) : Option Bool :=
  if (((List.length x0 : Nat) : Int) != ((List.length x1 : Nat) : Int)) then
    some false
  else
    (iter (fun s : (Int) => F67_1_b x0 x1 s) FUEL ((0 : Int))).bind fun o => match o with
    | .ret r => some r
    | .go () =>
      some true
theorem w67 {x0 : (List T_Code)} {x1 : (List T_Code)} {r : Bool} (h : F67 x0 x1 = some r) {H : Heap} {L : List Ob} (hp : HP H (L)) : Fn T 67 [(Zl E_Code x0),(Zl E_Code x1)] H (Q67 L r) := by
  refine Fn.enterE t67 (e0 := (mkE [(0,(Zl E_Code x0)),(0,(Zl E_Code x1))] 24)) (by kernel_rfl) ?_;show Run T (.clr [] i67n26) _ _ (finE none [4] (Q67 L r));refine Rn.k (mkE [(0,(Zl E_Code x0)),(0,(Zl E_Code x1))] 24) ?_;unfold F67 at h;refine Rn.g ?_;refine Ro.t 1 ?_;refine Ro.d (mkE [(0,(Zl E_Code x0)),(0,(Zl E_Code x1))] 24) ?_;refine Run.seq ?_;refine Rn.g ?_;refine Ro.t 1 ?_;refine Ro.p (len_fz E_Code x0) ?_;refine Ro.t 1 ?_;refine Ro.p (len_fz E_Code x1) ?_;refine Ro.t 1 ?_;refine Ro.d (mkE [(0,(Zl E_Code x0)),(0,(Zl E_Code x1)),(8,(V.bool ((ln x0) != (ln x1))))] 15) ?_;rcases tf ((ln x0) != (ln x1)) with h6838 | h6838
  · rw [ite_t h6838] at h; refine Rn.t h6838 ?_;refine Rn.g ?_;refine Ro.t 1 ?_;refine Ro.d (mkE [(4,(V.bool false))] 21) ?_;refine Run.ret ?_;obtain rfl := Option.some.inj h;exact ⟨(V.bool false),(by kernel_rfl),(by kernel_rfl),hp⟩
  · rw [ite_f h6838] at h; refine Rn.f h6838 ?_;refine Run.skip ?_;refine Rn.c (mkE [(0,(Zl E_Code x0)),(0,(Zl E_Code x1))] 24) ?_;refine Run.seq ?_;refine Rn.g ?_;refine Ro.t 1 ?_;refine Ro.d (mkE [(0,(Zl E_Code x0)),(0,(Zl E_Code x1)),(3,(vI (0 : Int)))] 20) ?_;refine Run.block ?_;obtain ⟨o,h6876,h⟩ := bind_some h;refine (Run.iter (I := I67_1 x0 x1 L) (RR := RR67 L) (J := J67_1 x0 x1 L) (fun s e h' t hI hf => ?_) FUEL h6876 (by exact ⟨(by kernel_rfl),hp⟩)).mono ?_
    · obtain ⟨rfl,hp⟩ := hI; exact w67_1_b hf hp
    · rintro X e' H hq;cases o with
      | ret r => cases X <;> first | exact hq.elim | (cases h; exact hq)
      | go a =>
        cases X with | nrm => exact hq.elim | ret => exact hq.elim | pan v => exact hq.elim | ext i => ?_;obtain ⟨rfl,he,hp⟩ := hq
        dsimp only at h
        refine Run.clrE (ts := [0,1,4,5,11,12,13,14,15,16,17,18,19,20,21,22,23,24,25]) (b := i67n23) (Q := (finE none [4] (Q67 L r))) he ?_;refine Rn.g ?_;refine Ro.t 1 ?_;refine Ro.d (mkE [(4,(V.bool true))] 21) ?_;refine Run.ret ?_;obtain rfl := Option.some.inj h;exact ⟨(V.bool true),(by kernel_rfl),(by kernel_rfl),hp⟩
theorem c67 {x0 : (List T_Code)} {x1 : (List T_Code)} {r : Bool} (h : F67 x0 x1 = some r) (s : Bool) : Fn T 67 [(Zl E_Code x0),(Zl E_Code x1)] [] (fun v hh => deep s hh deepN v = some (EB.e r)) := by
  refine (w67 h HP.nil).mono ?_;rintro v hh ⟨rfl,hp⟩;exact EB.hd s hh 38 _ (.inr rfl)
abbrev Q43 (L : List Ob) (r : Bool) : V → Heap → Prop := fun v h => v = EB.e r ∧ HP h (L)
def F43 (x0 : T_Unit) (x1 : T_Unit) : Option Bool :=
  if (x0.fName == x1.fName) then
    (F66 x0.fParams x1.fParams).bind fun y6880 =>
    if y6880 then
      if (x0.fResult == x1.fResult) then
        if (x0.fFrame == x1.fFrame) then
          (F67 x0.fCode x1.fCode).bind fun y6885 =>
          some y6885
        else
          some false
      else
        some false
    else
      some false
  else
    some false
theorem w43 {x0 : T_Unit} {x1 : T_Unit} {r : Bool} (h : F43 x0 x1 = some r) {H : Heap} {L : List Ob} (hp : HP H (L)) : Fn T 43 [(E_Unit.e x0),(E_Unit.e x1)] H (Q43 L r) := by
  refine Fn.enterE t43 (e0 := (mkE [(0,(E_Unit.e x0)),(0,(E_Unit.e x1))] 36)) (by kernel_rfl) ?_;show Run T (.clr [] i43n3) _ _ (finE none [4] (Q43 L r));refine Rn.k (mkE [(0,(E_Unit.e x0)),(0,(E_Unit.e x1))] 36) ?_;unfold F43 at h;refine Rn.g ?_;refine Ro.t 3 ?_;refine Ro.d (mkE [(2,(V.fp (E_Unit.e x0))),(0,(V.fp (E_Unit.e x1)))] 34) ?_;refine Rn.g ?_;refine Ro.t 4 ?_;rcases tf (x0.fName == x1.fName) with h6879 | h6879
  · rw [ite_t h6879] at h; refine Ro.p (Eq.trans (str_eql x0.fName x1.fName) (bool_of h6879)) ?_;refine Ro.t 5 ?_;obtain ⟨y6880,h6881,h⟩ := bind_some h;rcases tf y6880 with h6882 | h6882
    · subst h6882; rw [if_pos rfl] at h;refine RunO.c1 (by kernel_rfl) (by kernel_rfl) (c66 h6881 _) ?_;refine Ro.t 6 ?_;rcases tf (x0.fResult == x1.fResult) with h6883 | h6883
      · rw [ite_t h6883] at h; refine Ro.p (bool_of h6883) ?_;refine Ro.t 6 ?_;rcases tf (x0.fFrame == x1.fFrame) with h6884 | h6884
        · rw [ite_t h6884] at h; refine Ro.p (bool_of h6884) ?_;refine Ro.t 6 ?_;obtain ⟨y6885,h6886,h⟩ := bind_some h;refine RunO.c1 (by kernel_rfl) (by kernel_rfl) (c67 h6886 _) ?_;refine Ro.t 2 ?_;refine Ro.d (mkE [(4,(V.bool y6885))] 33) ?_;refine Run.ret ?_;obtain rfl := Option.some.inj h;exact ⟨(V.bool y6885),(by kernel_rfl),(by kernel_rfl),hp⟩
        · rw [ite_f h6884] at h; refine Ro.p (bool_of h6884) ?_;refine Ro.t 9 ?_;refine Ro.d (mkE [(4,(V.bool false))] 33) ?_;refine Run.ret ?_;obtain rfl := Option.some.inj h;exact ⟨(V.bool false),(by kernel_rfl),(by kernel_rfl),hp⟩
      · rw [ite_f h6883] at h; refine Ro.p (bool_of h6883) ?_;refine Ro.t 16 ?_;refine Ro.d (mkE [(4,(V.bool false))] 33) ?_;refine Run.ret ?_;obtain rfl := Option.some.inj h;exact ⟨(V.bool false),(by kernel_rfl),(by kernel_rfl),hp⟩
    · subst h6882; rw [if_neg (by decide)] at h;refine RunO.c1 (by kernel_rfl) (by kernel_rfl) (c66 h6881 _) ?_;refine Ro.t 23 ?_;refine Ro.d (mkE [(4,(V.bool false))] 33) ?_;refine Run.ret ?_;obtain rfl := Option.some.inj h;exact ⟨(V.bool false),(by kernel_rfl),(by kernel_rfl),hp⟩
  · rw [ite_f h6879] at h; refine Ro.p (Eq.trans (str_eql x0.fName x1.fName) (bool_of h6879)) ?_;refine Ro.t 29 ?_;refine Ro.d (mkE [(4,(V.bool false))] 33) ?_;refine Run.ret ?_;obtain rfl := Option.some.inj h;exact ⟨(V.bool false),(by kernel_rfl),(by kernel_rfl),hp⟩
theorem c43 {x0 : T_Unit} {x1 : T_Unit} {r : Bool} (h : F43 x0 x1 = some r) (s : Bool) : Fn T 43 [(E_Unit.e x0),(E_Unit.e x1)] [] (fun v hh => deep s hh deepN v = some (EB.e r)) := by
  refine (w43 h HP.nil).mono ?_;rintro v hh ⟨rfl,hp⟩;exact EB.hd s hh 38 _ (.inr rfl)
abbrev Q17 (L : List Ob) (r : Bool) : V → Heap → Prop := fun v h => v = EB.e r ∧ HP h (L)
abbrev RR17 (L : List Ob) (r : Bool) : List V → Heap → Prop := fun e h => endR none [4] (Q17 L r) e h
abbrev I17_1 (x0 : (List T_Unit)) (x1 : (List T_Unit)) (L : List Ob) : (Int) → List V → Heap → Prop := fun s e h => e = (mkE [(0,(Zl E_Unit x0)),(0,(Zl E_Unit x1)),(3,(vI s))] 21) ∧ HP h (L)
abbrev J17_1 (x0 : (List T_Unit)) (x1 : (List T_Unit)) (L : List Ob) : Unit → Nat → List V → Heap → Prop := fun a i e h => i = 0 ∧ clrEnv [0,1,4,5,11,12,13,14,15,16,17,18,19,20,21,22,23,24,25,26] e = (mkE [] 27) ∧ HP h (L)
def F17_1_b (x0 : (List T_Unit)) (x1 : (List T_Unit)) (y6932 : Int) : Option (Stp (Int) Bool Unit) :=
  if (decide (y6932 < ((List.length x0 : Nat) : Int))) then
    (idx x0 y6932).bind fun y6958 =>
    (idx x1 y6932).bind fun y6960 =>
    (F43 y6958 y6960).bind fun y6962 =>
    if (!y6962) then
      some (.ret false)
    else
      some (.next ((IntKind.i64.wrap (y6932 + (1 : Int)))))
  else
    some (.go ())
theorem w17_1_b {x0 : (List T_Unit)} {x1 : (List T_Unit)} {y6932 : Int} {t : (Stp (Int) Bool Unit)} (h : F17_1_b x0 x1 y6932 = some t) {H : Heap} {L : List Ob} (hp : HP H (L)) :
    Run T i17n18 (mkE [(0,(Zl E_Unit x0)),(0,(Zl E_Unit x1)),(3,(vI y6932))] 21) H (stp [4,11,12,13,14,15,16,17,18,19,20,21,22,23,24,25,26] (I17_1 x0 x1 L) (RR17 L) (J17_1 x0 x1 L) t) := by
  unfold F17_1_b at h;refine Run.seq ?_;refine Rn.g ?_;refine Ro.t 2 ?_;refine Ro.p (len_fz E_Unit x0) ?_;refine Ro.t 1 ?_;refine Ro.d (mkE [(0,(Zl E_Unit x0)),(0,(Zl E_Unit x1)),(3,(vI y6932)),(8,(V.bool (decide (y6932 < (ln x0)))))] 12) ?_;rcases tf (decide (y6932 < (ln x0))) with h6950 | h6950
  · rw [ite_t h6950] at h; refine Rn.t h6950 ?_;refine Run.skip ?_;refine Rn.c (mkE [(0,(Zl E_Unit x0)),(0,(Zl E_Unit x1)),(3,(vI y6932))] 21) ?_;refine Run.seq ?_;refine Run.block ?_;refine Rn.g ?_;refine Ro.t 2 ?_;obtain ⟨y6958,h6959,h⟩ := bind_some h;refine Ro.p (idx_fz E_Unit .i64 h6959) ?_;refine Ro.t 3 ?_;obtain ⟨y6960,h6961,h⟩ := bind_some h;refine Ro.p (idx_fz E_Unit .i64 h6961) ?_;refine Ro.t 1 ?_;obtain ⟨y6962,h6963,h⟩ := bind_some h;refine RunO.c1 (by kernel_rfl) (by kernel_rfl) (c43 h6963 _) ?_;refine Ro.t 1 ?_;refine Ro.d (mkE [(0,(Zl E_Unit x0)),(0,(Zl E_Unit x1)),(3,(vI y6932)),(20,(V.bool (!y6962)))] 0) ?_;rcases tf (!y6962) with h6964 | h6964
    · rw [ite_t h6964] at h; refine Rn.t h6964 ?_;refine Rn.g ?_;refine Ro.t 1 ?_;refine Ro.d (mkE [(4,(V.bool false))] 22) ?_;refine Run.ret ?_;obtain rfl := Option.some.inj h;show RR17 L _ _ _;exact ⟨(V.bool false),(by kernel_rfl),(by kernel_rfl),hp⟩
    · rw [ite_f h6964] at h; refine Rn.f h6964 ?_;refine Run.skip ?_;refine Run.clrE (ts := [4,17,18,19,20,21,22,23,24,25,26]) (b := (.rgn i17r16)) (Q := (stp [4,11,12,13,14,15,16,17,18,19,20,21,22,23,24,25,26] (I17_1 x0 x1 L) (RR17 L) (J17_1 x0 x1 L) t)) (e' := (mkE [(0,(Zl E_Unit x0)),(0,(Zl E_Unit x1)),(3,(vI y6932))] 21)) (by kernel_rfl) ?_;refine Run.rgn ?_;refine Ro.t 3 ?_;refine RunO.nil ?_;obtain rfl := Option.some.inj h;show I17_1 x0 x1 L _ _ _;exact ⟨(by kernel_rfl),hp⟩
  · rw [ite_f h6950] at h; refine Rn.f h6950 ?_;refine Run.exit ?_;obtain rfl := Option.some.inj h;show J17_1 x0 x1 L () _ _ _;exact ⟨rfl,(by kernel_rfl),hp⟩
def F17 (x0 : (List T_Unit)) (x1 : (List T_Unit)) : Option Bool :=
  if (((List.length x0 : Nat) : Int) != ((List.length x1 : Nat) : Int)) then
    some false
  else
    (iter (fun s : (Int) => F17_1_b x0 x1 s) FUEL ((0 : Int))).bind fun o => match o with
    | .ret r => some r
    | .go () =>
      some true
theorem w17 {x0 : (List T_Unit)} {x1 : (List T_Unit)} {r : Bool} (h : F17 x0 x1 = some r) {H : Heap} {L : List Ob} (hp : HP H (L)) : Fn T 17 [(Zl E_Unit x0),(Zl E_Unit x1)] H (Q17 L r) := by
  refine Fn.enterE t17 (e0 := (mkE [(0,(Zl E_Unit x0)),(0,(Zl E_Unit x1))] 25)) (by kernel_rfl) ?_;show Run T (.clr [] i17n26) _ _ (finE none [4] (Q17 L r));refine Rn.k (mkE [(0,(Zl E_Unit x0)),(0,(Zl E_Unit x1))] 25) ?_;unfold F17 at h;refine Rn.g ?_;refine Ro.t 1 ?_;refine Ro.d (mkE [(0,(Zl E_Unit x0)),(0,(Zl E_Unit x1))] 25) ?_;refine Run.seq ?_;refine Rn.g ?_;refine Ro.t 1 ?_;refine Ro.p (len_fz E_Unit x0) ?_;refine Ro.t 1 ?_;refine Ro.p (len_fz E_Unit x1) ?_;refine Ro.t 1 ?_;refine Ro.d (mkE [(0,(Zl E_Unit x0)),(0,(Zl E_Unit x1)),(8,(V.bool ((ln x0) != (ln x1))))] 16) ?_;rcases tf ((ln x0) != (ln x1)) with h6915 | h6915
  · rw [ite_t h6915] at h; refine Rn.t h6915 ?_;refine Rn.g ?_;refine Ro.t 1 ?_;refine Ro.d (mkE [(4,(V.bool false))] 22) ?_;refine Run.ret ?_;obtain rfl := Option.some.inj h;exact ⟨(V.bool false),(by kernel_rfl),(by kernel_rfl),hp⟩
  · rw [ite_f h6915] at h; refine Rn.f h6915 ?_;refine Run.skip ?_;refine Rn.c (mkE [(0,(Zl E_Unit x0)),(0,(Zl E_Unit x1))] 25) ?_;refine Run.seq ?_;refine Rn.g ?_;refine Ro.t 1 ?_;refine Ro.d (mkE [(0,(Zl E_Unit x0)),(0,(Zl E_Unit x1)),(3,(vI (0 : Int)))] 21) ?_;refine Run.block ?_;obtain ⟨o,h6965,h⟩ := bind_some h;refine (Run.iter (I := I17_1 x0 x1 L) (RR := RR17 L) (J := J17_1 x0 x1 L) (fun s e h' t hI hf => ?_) FUEL h6965 (by exact ⟨(by kernel_rfl),hp⟩)).mono ?_
    · obtain ⟨rfl,hp⟩ := hI; exact w17_1_b hf hp
    · rintro X e' H hq;cases o with
      | ret r => cases X <;> first | exact hq.elim | (cases h; exact hq)
      | go a =>
        cases X with | nrm => exact hq.elim | ret => exact hq.elim | pan v => exact hq.elim | ext i => ?_;obtain ⟨rfl,he,hp⟩ := hq
        dsimp only at h
        refine Run.clrE (ts := [0,1,4,5,11,12,13,14,15,16,17,18,19,20,21,22,23,24,25,26]) (b := i17n23) (Q := (finE none [4] (Q17 L r))) he ?_;refine Rn.g ?_;refine Ro.t 1 ?_;refine Ro.d (mkE [(4,(V.bool true))] 22) ?_;refine Run.ret ?_;obtain rfl := Option.some.inj h;exact ⟨(V.bool true),(by kernel_rfl),(by kernel_rfl),hp⟩
theorem c17 {x0 : (List T_Unit)} {x1 : (List T_Unit)} {r : Bool} (h : F17 x0 x1 = some r) (s : Bool) : Fn T 17 [(Zl E_Unit x0),(Zl E_Unit x1)] [] (fun v hh => deep s hh deepN v = some (EB.e r)) := by
  refine (w17 h HP.nil).mono ?_;rintro v hh ⟨rfl,hp⟩;exact EB.hd s hh 38 _ (.inr rfl)
abbrev Q9 (L : List Ob) (r : Bool) : V → Heap → Prop := fun v h => v = EB.e r ∧ HP h (L)
def F9 : Option Bool :=
  (F26).bind fun y6980 =>
  (F12 y6980.1).bind fun y6982 =>
  (F14 y6980.2).bind fun y6984 =>
  (F27).bind fun y6986 =>
  (F20 ([y6986,(⟨([] : List UInt8),([] : List Int),(0 : Int),(0 : Int),([] : List T_Code)⟩ : T_Unit)] : List T_Unit)).bind fun y6988 =>
  if (y6982.2 == (0 : Int)) then
    (F16 y6982.1 y6980.2).bind fun y6991 =>
    if y6991 then
      if (y6984.2 == (0 : Int)) then
        (F17 y6984.1 y6980.1).bind fun y6995 =>
        if y6995 then
          if (y6988.1 == (4 : Int)) then
            if (y6988.2 == (1 : Int)) then
              (F27).bind fun y7000 =>
              (F10 ([y7000] : List T_Unit) (0 : Int)).bind fun y7002 =>
              if y7002 then
                (F27).bind fun y7005 =>
                (F10 ([y7005] : List T_Unit) (1 : Int)).bind fun y7007 =>
                some (!y7007)
              else
                some false
            else
              some false
          else
            some false
        else
          some false
      else
        some false
    else
      some false
  else
    some false
theorem w9 {r : Bool} (h : F9 = some r) {H : Heap} {L : List Ob} (hp : HP H (L)) : Fn T 9 [] H (Q9 L r) := by
  refine Fn.enterE t9 (e0 := (mkE [] 65)) (by kernel_rfl) ?_;show Run T (.clr [] i9n11) _ _ (finE none [0] (Q9 L r));refine Rn.k (mkE [] 65) ?_;unfold F9 at h;refine Rn.g ?_;refine Ro.t 1 ?_;refine Ro.d (mkE [] 65) ?_;refine Rn.g ?_;obtain ⟨y6980,h6981,h⟩ := bind_some h;refine RunO.c2 (by kernel_rfl) (by kernel_rfl) (by kernel_rfl) (c26 h6981) ?_;refine Ro.t 5 ?_;refine Ro.d (mkE [(1,(Zl E_Unit y6980.1)),(0,(Zl (EI .u8) y6980.2))] 62) ?_;refine Rn.g ?_;refine Ro.t 1 ?_;obtain ⟨y6982,h6983,h⟩ := bind_some h;refine RunO.c1 (by kernel_rfl) (by kernel_rfl) (c12 h6983 _) ?_;refine Ro.t 5 ?_;refine Ro.d (mkE [(1,(Zl E_Unit y6980.1)),(0,(Zl (EI .u8) y6980.2)),(0,(Zl (EI .u8) y6982.1)),(0,(vI y6982.2))] 60) ?_;refine Rn.g ?_;refine Ro.t 1 ?_;obtain ⟨y6984,h6985,h⟩ := bind_some h;refine RunO.c2 (by kernel_rfl) (by kernel_rfl) (by kernel_rfl) (c14 h6985) ?_;refine Ro.t 5 ?_;refine Ro.d (mkE [(1,(Zl E_Unit y6980.1)),(0,(Zl (EI .u8) y6980.2)),(0,(Zl (EI .u8) y6982.1)),(0,(vI y6982.2)),(0,(Zl E_Unit y6984.1)),(0,(vI y6984.2))] 58) ?_;refine Rn.g ?_;obtain ⟨y6986,h6987,h⟩ := bind_some h;refine RunO.c2 (by kernel_rfl) (by kernel_rfl) (by kernel_rfl) (c27 h6987) ?_;refine Ro.t 2 ?_;obtain ⟨y6988,h6989,h⟩ := bind_some h;refine RunO.c1 (by kernel_rfl) (by kernel_rfl) (c20 h6989 _) ?_;refine Ro.t 5 ?_;refine Ro.d (mkE [(1,(Zl E_Unit y6980.1)),(0,(Zl (EI .u8) y6980.2)),(0,(Zl (EI .u8) y6982.1)),(0,(vI y6982.2)),(0,(Zl E_Unit y6984.1)),(0,(vI y6984.2)),(0,(vI y6988.1)),(0,(vI y6988.2))] 56) ?_;refine Rn.g ?_;refine Ro.t 1 ?_;rcases tf (y6982.2 == (0 : Int)) with h6990 | h6990
  · rw [ite_t h6990] at h; refine Ro.p (bool_of h6990) ?_;refine Ro.t 3 ?_;obtain ⟨y6991,h6992,h⟩ := bind_some h;rcases tf y6991 with h6993 | h6993
    · subst h6993; rw [if_pos rfl] at h;refine RunO.c1 (by kernel_rfl) (by kernel_rfl) (c16 h6992 _) ?_;refine Ro.t 3 ?_;rcases tf (y6984.2 == (0 : Int)) with h6994 | h6994
      · rw [ite_t h6994] at h; refine Ro.p (bool_of h6994) ?_;refine Ro.t 4 ?_;obtain ⟨y6995,h6996,h⟩ := bind_some h;rcases tf y6995 with h6997 | h6997
        · subst h6997; rw [if_pos rfl] at h;refine RunO.c1 (by kernel_rfl) (by kernel_rfl) (c17 h6996 _) ?_;refine Ro.t 3 ?_;rcases tf (y6988.1 == (4 : Int)) with h6998 | h6998
          · rw [ite_t h6998] at h; refine Ro.p (bool_of h6998) ?_;refine Ro.t 3 ?_;rcases tf (y6988.2 == (1 : Int)) with h6999 | h6999
            · rw [ite_t h6999] at h; refine Ro.p (bool_of h6999) ?_;refine Ro.t 2 ?_;obtain ⟨y7000,h7001,h⟩ := bind_some h;refine RunO.c2 (by kernel_rfl) (by kernel_rfl) (by kernel_rfl) (c27 h7001) ?_;refine Ro.t 1 ?_;obtain ⟨y7002,h7003,h⟩ := bind_some h;rcases tf y7002 with h7004 | h7004
              · subst h7004; rw [if_pos rfl] at h;refine RunO.c1 (by kernel_rfl) (by kernel_rfl) (c10 h7003 _) ?_;refine Ro.t 2 ?_;obtain ⟨y7005,h7006,h⟩ := bind_some h;refine RunO.c2 (by kernel_rfl) (by kernel_rfl) (by kernel_rfl) (c27 h7006) ?_;refine Ro.t 1 ?_;obtain ⟨y7007,h7008,h⟩ := bind_some h;refine RunO.c1 (by kernel_rfl) (by kernel_rfl) (c10 h7008 _) ?_;refine Ro.t 3 ?_;refine Ro.d (mkE [(0,(V.bool (!y7007)))] 64) ?_;refine Run.ret ?_;obtain rfl := Option.some.inj h;exact ⟨(V.bool (!y7007)),(by kernel_rfl),(by kernel_rfl),hp⟩
              · subst h7004; rw [if_neg (by decide)] at h;refine RunO.c1 (by kernel_rfl) (by kernel_rfl) (c10 h7003 _) ?_;refine Ro.t 8 ?_;refine Ro.d (mkE [(0,(V.bool false))] 64) ?_;refine Run.ret ?_;obtain rfl := Option.some.inj h;exact ⟨(V.bool false),(by kernel_rfl),(by kernel_rfl),hp⟩
            · rw [ite_f h6999] at h; refine Ro.p (bool_of h6999) ?_;refine Ro.t 13 ?_;refine Ro.d (mkE [(0,(V.bool false))] 64) ?_;refine Run.ret ?_;obtain rfl := Option.some.inj h;exact ⟨(V.bool false),(by kernel_rfl),(by kernel_rfl),hp⟩
          · rw [ite_f h6998] at h; refine Ro.p (bool_of h6998) ?_;refine Ro.t 17 ?_;refine Ro.d (mkE [(0,(V.bool false))] 64) ?_;refine Run.ret ?_;obtain rfl := Option.some.inj h;exact ⟨(V.bool false),(by kernel_rfl),(by kernel_rfl),hp⟩
        · subst h6997; rw [if_neg (by decide)] at h;refine RunO.c1 (by kernel_rfl) (by kernel_rfl) (c17 h6996 _) ?_;refine Ro.t 21 ?_;refine Ro.d (mkE [(0,(V.bool false))] 64) ?_;refine Run.ret ?_;obtain rfl := Option.some.inj h;exact ⟨(V.bool false),(by kernel_rfl),(by kernel_rfl),hp⟩
      · rw [ite_f h6994] at h; refine Ro.p (bool_of h6994) ?_;refine Ro.t 26 ?_;refine Ro.d (mkE [(0,(V.bool false))] 64) ?_;refine Run.ret ?_;obtain rfl := Option.some.inj h;exact ⟨(V.bool false),(by kernel_rfl),(by kernel_rfl),hp⟩
    · subst h6993; rw [if_neg (by decide)] at h;refine RunO.c1 (by kernel_rfl) (by kernel_rfl) (c16 h6992 _) ?_;refine Ro.t 30 ?_;refine Ro.d (mkE [(0,(V.bool false))] 64) ?_;refine Run.ret ?_;obtain rfl := Option.some.inj h;exact ⟨(V.bool false),(by kernel_rfl),(by kernel_rfl),hp⟩
  · rw [ite_f h6990] at h; refine Ro.p (bool_of h6990) ?_;refine Ro.t 34 ?_;refine Ro.d (mkE [(0,(V.bool false))] 64) ?_;refine Run.ret ?_;obtain rfl := Option.some.inj h;exact ⟨(V.bool false),(by kernel_rfl),(by kernel_rfl),hp⟩
theorem c9 {r : Bool} (h : F9 = some r) (s : Bool) : Fn T 9 [] [] (fun v hh => deep s hh deepN v = some (EB.e r)) := by
  refine (w9 h HP.nil).mono ?_;rintro v hh ⟨rfl,hp⟩;exact EB.hd s hh 38 _ (.inr rfl)
abbrev Q8 (L : List Ob) (r : Bool) : V → Heap → Prop := fun v h => v = EB.e r ∧ HP h (L)
abbrev RR8 (L : List Ob) (r : Bool) : List V → Heap → Prop := fun e h => endR none [2] (Q8 L r) e h
abbrev I8_1 (x0 : (List T_Unit)) (L : List Ob) : (Int × Int) → List V → Heap → Prop := fun s e h => e = (mkE [(0,(Zl E_Unit x0)),(2,(vI s.1)),(0,(vI s.2))] 46) ∧ HP h (L)
abbrev J8_1 (x0 : (List T_Unit)) (L : List Ob) : (Int) → Nat → List V → Heap → Prop := fun a i e h => i = 0 ∧ clrEnv [2,4,5,6,7,8,9,10,11,12,13,14,15,16,17,18,19,20,21,22,23,24,25,26,27,28,29,30,31,32,33,34,35,36,37,38,39,40,41,42,43] e = (mkE [(0,(Zl E_Unit x0)),(2,(vI a))] 47) ∧ HP h (L)
def F8_1_b (x0 : (List T_Unit)) (y7081 : Int) (y7082 : Int) : Option (Stp (Int × Int) Bool (Int)) :=
  if (decide (y7082 < ((List.length x0 : Nat) : Int))) then
    if (decide (y7081 ≤ (2000 : Int))) then
      (idx x0 y7082).bind fun y7119 =>
      (idx x0 y7082).bind fun y7121 =>
      (idx x0 y7082).bind fun y7123 =>
      (idx x0 y7082).bind fun y7125 =>
      if (decide (((List.length y7125.fCode : Nat) : Int) > (600 : Int))) then
        some (.ret true)
      else
        some (.next ((IntKind.i64.wrap ((IntKind.i64.wrap ((IntKind.i64.wrap (y7081 + ((List.length y7119.fCode : Nat) : Int))) + ((List.length y7121.fParams : Nat) : Int))) + ((List.length y7123.fName : Nat) : Int))),(IntKind.i64.wrap (y7082 + (1 : Int)))))
    else
      some (.go (y7081))
  else
    some (.go (y7081))
theorem w8_1_b {x0 : (List T_Unit)} {y7081 : Int} {y7082 : Int} {t : (Stp (Int × Int) Bool (Int))} (h : F8_1_b x0 y7081 y7082 = some t) {H : Heap} {L : List Ob} (hp : HP H (L)) :
    Run T i8n16 (mkE [(0,(Zl E_Unit x0)),(2,(vI y7081)),(0,(vI y7082))] 46) H (stp [2,5,6,7,8,9,10,11,12,13,14,15,16,17,18,19,20,21,22,23,24,25,26,27,28,29,30,31,32,33,34,35,36,37,38,39,40,41,42,43] (I8_1 x0 L) (RR8 L) (J8_1 x0 L) t) := by
  unfold F8_1_b at h;refine Run.seq ?_;refine Rn.g ?_;refine Ro.t 2 ?_;refine Ro.p (len_fz E_Unit x0) ?_;rcases tf (decide (y7082 < (ln x0))) with h7108 | h7108
  · rw [ite_t h7108] at h; refine Ro.p (bool_of h7108) ?_;refine Ro.t 4 ?_;refine Ro.d (mkE [(0,(Zl E_Unit x0)),(2,(vI y7081)),(0,(vI y7082)),(7,(V.bool (decide (y7081 ≤ (2000 : Int)))))] 38) ?_;rcases tf (decide (y7081 ≤ (2000 : Int))) with h7109 | h7109
    · rw [ite_t h7109] at h; refine Rn.t h7109 ?_;refine Run.skip ?_;refine Rn.c (mkE [(0,(Zl E_Unit x0)),(2,(vI y7081)),(0,(vI y7082))] 46) ?_;refine Run.seq ?_;refine Run.block ?_;refine Rn.g ?_;refine Ro.t 3 ?_;obtain ⟨y7119,h7120,h⟩ := bind_some h;refine Ro.p (idx_fz E_Unit .i64 h7120) ?_;refine Ro.t 2 ?_;refine Ro.p (len_fz E_Code y7119.fCode) ?_;refine Ro.t 3 ?_;obtain ⟨y7121,h7122,h⟩ := bind_some h;refine Ro.p (idx_fz E_Unit .i64 h7122) ?_;refine Ro.t 2 ?_;refine Ro.p (len_fz (EI .u8) y7121.fParams) ?_;refine Ro.t 3 ?_;obtain ⟨y7123,h7124,h⟩ := bind_some h;refine Ro.p (idx_fz E_Unit .i64 h7124) ?_;refine Ro.t 5 ?_;refine Ro.d (mkE [(0,(Zl E_Unit x0)),(2,(vI (IntKind.i64.wrap ((IntKind.i64.wrap ((IntKind.i64.wrap (y7081 + (ln y7119.fCode))) + (ln y7121.fParams))) + (ln y7123.fName))))),(0,(vI y7082))] 46) ?_;refine Rn.g ?_;refine Ro.t 2 ?_;obtain ⟨y7125,h7126,h⟩ := bind_some h;refine Ro.p (idx_fz E_Unit .i64 h7126) ?_;refine Ro.t 2 ?_;refine Ro.p (len_fz E_Code y7125.fCode) ?_;refine Ro.t 1 ?_;refine Ro.d (mkE [(0,(Zl E_Unit x0)),(2,(vI (IntKind.i64.wrap ((IntKind.i64.wrap ((IntKind.i64.wrap (y7081 + (ln y7119.fCode))) + (ln y7121.fParams))) + (ln y7123.fName))))),(0,(vI y7082)),(38,(V.bool (decide ((ln y7125.fCode) > (600 : Int)))))] 7) ?_;rcases tf (decide ((ln y7125.fCode) > (600 : Int))) with h7127 | h7127
      · rw [ite_t h7127] at h; refine Rn.t h7127 ?_;refine Rn.g ?_;refine Ro.t 1 ?_;refine Ro.d (mkE [(2,(V.bool true))] 48) ?_;refine Run.ret ?_;obtain rfl := Option.some.inj h;show RR8 L _ _ _;exact ⟨(V.bool true),(by kernel_rfl),(by kernel_rfl),hp⟩
      · rw [ite_f h7127] at h; refine Rn.f h7127 ?_;refine Run.skip ?_;refine Run.clrE (ts := [2,15,16,17,18,19,20,21,22,23,24,25,26,27,28,29,30,31,32,33,34,35,36,37,38,39,40,41,42,43]) (b := (.rgn i8r14)) (Q := (stp [2,5,6,7,8,9,10,11,12,13,14,15,16,17,18,19,20,21,22,23,24,25,26,27,28,29,30,31,32,33,34,35,36,37,38,39,40,41,42,43] (I8_1 x0 L) (RR8 L) (J8_1 x0 L) t)) (e' := (mkE [(0,(Zl E_Unit x0)),(2,(vI (IntKind.i64.wrap ((IntKind.i64.wrap ((IntKind.i64.wrap (y7081 + (ln y7119.fCode))) + (ln y7121.fParams))) + (ln y7123.fName))))),(0,(vI y7082))] 46)) (by kernel_rfl) ?_;refine Run.rgn ?_;refine Ro.t 3 ?_;refine RunO.nil ?_;obtain rfl := Option.some.inj h;show I8_1 x0 L _ _ _;exact ⟨(by kernel_rfl),hp⟩
    · rw [ite_f h7109] at h; refine Rn.f h7109 ?_;refine Run.exit ?_;obtain rfl := Option.some.inj h;show J8_1 x0 L _ _ _ _;exact ⟨rfl,(by kernel_rfl),hp⟩
  · rw [ite_f h7108] at h; refine Ro.p (bool_of h7108) ?_;refine Ro.t 4 ?_;refine Ro.d (mkE [(0,(Zl E_Unit x0)),(2,(vI y7081)),(0,(vI y7082)),(7,(V.bool false))] 38) ?_;refine Run.condF (by kernel_rfl) ?_;refine Run.exit ?_;obtain rfl := Option.some.inj h;show J8_1 x0 L _ _ _ _;exact ⟨rfl,(by kernel_rfl),hp⟩
def F8 (x0 : (List T_Unit)) : Option Bool :=
  (iter (fun s : (Int × Int) => F8_1_b x0 s.1 s.2) FUEL ((0 : Int),(0 : Int))).bind fun o => match o with
  | .ret r => some r
  | .go (y7105) =>
    if (decide (y7105 > (2000 : Int))) then
      some true
    else
      some (decide (((List.length x0 : Nat) : Int) > (100 : Int)))
theorem w8 {x0 : (List T_Unit)} {r : Bool} (h : F8 x0 = some r) {H : Heap} {L : List Ob} (hp : HP H (L)) : Fn T 8 [(Zl E_Unit x0)] H (Q8 L r) := by
  refine Fn.enterE t8 (e0 := (mkE [(0,(Zl E_Unit x0))] 50)) (by kernel_rfl) ?_;show Run T (.clr [] i8n24) _ _ (finE none [2] (Q8 L r));refine Rn.k (mkE [(0,(Zl E_Unit x0))] 50) ?_;unfold F8 at h;refine Rn.g ?_;refine Ro.t 1 ?_;refine Ro.d (mkE [(0,(Zl E_Unit x0))] 50) ?_;refine Rn.g ?_;refine Ro.t 1 ?_;refine Ro.d (mkE [(0,(Zl E_Unit x0)),(2,(vI (0 : Int)))] 47) ?_;refine Run.seq ?_;refine Rn.g ?_;refine Ro.t 1 ?_;refine Ro.d (mkE [(0,(Zl E_Unit x0)),(2,(vI (0 : Int))),(0,(vI (0 : Int)))] 46) ?_;refine Run.block ?_;obtain ⟨o,h7128,h⟩ := bind_some h;refine (Run.iter (I := I8_1 x0 L) (RR := RR8 L) (J := J8_1 x0 L) (fun s e h' t hI hf => ?_) FUEL h7128 (by exact ⟨(by kernel_rfl),hp⟩)).mono ?_
  · obtain ⟨rfl,hp⟩ := hI; exact w8_1_b hf hp
  · rintro X e' H hq;cases o with
    | ret r => cases X <;> first | exact hq.elim | (cases h; exact hq)
    | go y7105 =>
      cases X with | nrm => exact hq.elim | ret => exact hq.elim | pan v => exact hq.elim | ext i => ?_;obtain ⟨rfl,he,hp⟩ := hq
      dsimp only at h
      refine Run.clrE (ts := [2,4,5,6,7,8,9,10,11,12,13,14,15,16,17,18,19,20,21,22,23,24,25,26,27,28,29,30,31,32,33,34,35,36,37,38,39,40,41,42,43]) (b := i8n21) (Q := (finE none [2] (Q8 L r))) he ?_;refine Rn.g ?_;refine Ro.t 1 ?_;rcases tf (decide (y7105 > (2000 : Int))) with h7129 | h7129
      · rw [ite_t h7129] at h; refine Ro.p (bool_of h7129) ?_;refine Ro.t 6 ?_;refine Ro.d (mkE [(2,(V.bool true))] 48) ?_;refine Run.ret ?_;obtain rfl := Option.some.inj h;exact ⟨(V.bool true),(by kernel_rfl),(by kernel_rfl),hp⟩
      · rw [ite_f h7129] at h; refine Ro.p (bool_of h7129) ?_;refine Ro.t 2 ?_;refine Ro.p (len_fz E_Unit x0) ?_;refine Ro.t 3 ?_;refine Ro.d (mkE [(2,(V.bool (decide ((ln x0) > (100 : Int)))))] 48) ?_;refine Run.ret ?_;obtain rfl := Option.some.inj h;exact ⟨(V.bool (decide ((ln x0) > (100 : Int)))),(by kernel_rfl),(by kernel_rfl),hp⟩
theorem c8 {x0 : (List T_Unit)} {r : Bool} (h : F8 x0 = some r) (s : Bool) : Fn T 8 [(Zl E_Unit x0)] [] (fun v hh => deep s hh deepN v = some (EB.e r)) := by
  refine (w8 h HP.nil).mono ?_;rintro v hh ⟨rfl,hp⟩;exact EB.hd s hh 38 _ (.inr rfl)
abbrev Q23 (L : List Ob) (r : Int) : V → Heap → Prop := fun v h => v = (EI .i64).e r ∧ HP h (L)
def F23_j1 (y7163 : Int) : Option Int :=
  some y7163
theorem w23_j1 {y7163 : Int} {r : Int} (h : F23_j1 y7163 = some r) {H : Heap} {L : List Ob} (hp : HP H (L)) :
    Run T i23n12 (mkE [(0,(vI y7163))] 15) H (finE none [4] (Q23 L r)) := by
  unfold F23_j1 at h;refine Rn.g ?_;refine Ro.t 2 ?_;refine Ro.d (mkE [(4,(vI y7163))] 11) ?_;refine Run.ret ?_;obtain rfl := Option.some.inj h;exact ⟨(vI y7163),(by kernel_rfl),(by kernel_rfl),hp⟩
def F23 (x0 : Int) (x1 : Int) : Option Int :=
  if (decide (x1 < (1 : Int))) then
    some (0 : Int)
  else
    (when (x1 != 0)).bind fun y7160 =>
    if (decide ((Int.tmod x0 x1) < (0 : Int))) then
      F23_j1 ((IntKind.i64.wrap ((Int.tmod x0 x1) + x1)))
    else
      F23_j1 ((Int.tmod x0 x1))
theorem w23 {x0 : Int} {x1 : Int} {r : Int} (h : F23 x0 x1 = some r) {H : Heap} {L : List Ob} (hp : HP H (L)) : Fn T 23 [(vI x0),(vI x1)] H (Q23 L r) := by
  refine Fn.enterE t23 (e0 := (mkE [(0,(vI x0)),(0,(vI x1))] 14)) (by kernel_rfl) ?_;show Run T (.clr [] i23n16) _ _ (finE none [4] (Q23 L r));refine Rn.k (mkE [(0,(vI x0)),(0,(vI x1))] 14) ?_;unfold F23 at h;refine Rn.g ?_;refine Ro.t 1 ?_;refine Ro.d (mkE [(0,(vI x0)),(0,(vI x1))] 14) ?_;refine Run.seq ?_;refine Rn.g ?_;refine Ro.t 2 ?_;refine Ro.d (mkE [(0,(vI x0)),(0,(vI x1)),(4,(V.bool (decide (x1 < (1 : Int)))))] 9) ?_;rcases tf (decide (x1 < (1 : Int))) with h7158 | h7158
  · rw [ite_t h7158] at h; refine Rn.t h7158 ?_;refine Rn.g ?_;refine Ro.t 1 ?_;refine Ro.d (mkE [(4,(vI (0 : Int)))] 11) ?_;refine Run.ret ?_;obtain rfl := Option.some.inj h;exact ⟨(vI (0 : Int)),(by kernel_rfl),(by kernel_rfl),hp⟩
  · rw [ite_f h7158] at h; refine Rn.f h7158 ?_;refine Run.skip ?_;refine Rn.c (mkE [(0,(vI x0)),(0,(vI x1))] 14) ?_;refine Rn.g ?_;refine Ro.t 2 ?_;obtain ⟨y7160,h7161,h⟩ := bind_some h;refine Ro.p (rem_of (k := .i64) (a := x0) h7161) ?_;refine Ro.t 1 ?_;refine Ro.d (mkE [(0,(vI (Int.tmod x0 x1))),(0,(vI x1))] 14) ?_;refine Run.seq ?_;refine Rn.g ?_;refine Ro.t 2 ?_;refine Ro.d (mkE [(0,(vI (Int.tmod x0 x1))),(0,(vI x1)),(9,(V.bool (decide ((Int.tmod x0 x1) < (0 : Int)))))] 4) ?_;rcases tf (decide ((Int.tmod x0 x1) < (0 : Int))) with h7164 | h7164
    · rw [ite_t h7164] at h; refine Rn.t h7164 ?_;refine Run.rgn ?_;refine Ro.t 4 ?_;refine Ro.d (mkE [(0,(vI (IntKind.i64.wrap ((Int.tmod x0 x1) + x1))))] 15) ?_;exact w23_j1 h hp
    · rw [ite_f h7164] at h; refine Rn.f h7164 ?_;refine Run.skip ?_;refine Rn.c (mkE [(0,(vI (Int.tmod x0 x1)))] 15) ?_;exact w23_j1 h hp
theorem c23 {x0 : Int} {x1 : Int} {r : Int} (h : F23 x0 x1 = some r) (s : Bool) : Fn T 23 [(vI x0),(vI x1)] [] (fun v hh => deep s hh deepN v = some ((EI .i64).e r)) := by
  refine (w23 h HP.nil).mono ?_;rintro v hh ⟨rfl,hp⟩;exact (EI .i64).hd s hh 38 _ (.inr rfl)
abbrev Q24 (L : List Ob) (r : (List Int)) : V → Heap → Prop := fun v h => ∃ (o0 : Option (Nat × Nat)) (q0 : List V),v = slv (EI .u8).z (EI .u8).ag (List.length r) o0 ∧ HP h ((o0,List.flatMap (EI .u8).c r ++ q0) :: L)
def F24 (x0 : (List Int)) : Option (List Int) :=
  (more 1 ([] : List Int) x0).bind fun y7174 =>
  some y7174
theorem w24 {x0 : (List Int)} {r : (List Int)} (h : F24 x0 = some r) {H : Heap} {L : List Ob} (hp : HP H (L)) : Fn T 24 [(Zl (EI .u8) x0)] H (Q24 L r) := by
  refine Fn.enterE t24 (e0 := (mkE [(0,(Zl (EI .u8) x0))] 6)) (by kernel_rfl) ?_;show Run T (.clr [] i24n5) _ _ (finE none [2] (Q24 L r));refine Rn.k (mkE [(0,(Zl (EI .u8) x0))] 6) ?_;unfold F24 at h;refine Rn.g ?_;refine Ro.t 1 ?_;refine Ro.d (mkE [(0,(Zl (EI .u8) x0))] 6) ?_;refine Rn.g ?_;refine Ro.t 1 ?_;refine Ro.d (mkE [(0,(Zl (EI .u8) x0)),(2,V.nils)] 3) ?_;refine Rn.g ?_;refine Ro.t 2 ?_;obtain ⟨y7174,h7175,h⟩ := bind_some h;have hp := hp.non;refine RunO.app1 (EI .u8) hp (by kernel_rfl) 0 (o := none) (l := ([] : List Int)) (rest := []) (m := x0) rfl (by kernel_rfl) (by kernel_rfl) ((EI .u8).new_fz _ x0) (by kernel_rfl) (by kernel_rfl) h7175 ?_;intro o7176 H hp;refine Ro.t 1 ?_;refine Ro.d (mkE [(2,(slv (EI .u8).z (EI .u8).ag (List.length y7174) o7176))] 4) ?_;refine Run.ret ?_;obtain rfl := Option.some.inj h;exact ⟨(slv (EI .u8).z (EI .u8).ag (List.length y7174) o7176),(by kernel_rfl),_,_,(by kernel_rfl),hp⟩
abbrev Q6 (L : List Ob) (r : Bool) : V → Heap → Prop := fun v h => v = EB.e r ∧ HP h (L)
def F6_j1 (x1 : (List Int)) : Option Bool :=
  (F14 x1).bind fun y7276 =>
  if (y7276.2 != (0 : Int)) then
    if (y7276.2 == (4 : Int)) then
      some (((List.length y7276.1 : Nat) : Int) == (0 : Int))
    else
      some false
  else
    (F12 y7276.1).bind fun y7282 =>
    if (y7282.2 == (0 : Int)) then
      (F16 y7282.1 x1).bind fun y7285 =>
      some y7285
    else
      some false
theorem w6_j1 {x1 : (List Int)} {r : Bool} (h : F6_j1 x1 = some r) {H : Heap} {L : List Ob} (hp : HP H (L)) :
    Run T i6n43 (mkE [(1,(Zl (EI .u8) x1))] 119) H (finE none [8] (Q6 L r)) := by
  unfold F6_j1 at h;refine Rn.g ?_;refine Ro.t 1 ?_;obtain ⟨y7276,h7277,h⟩ := bind_some h;refine RunO.c2 (by kernel_rfl) (by kernel_rfl) (by kernel_rfl) (c14 h7277) ?_;refine Ro.t 5 ?_;refine Ro.d (mkE [(1,(Zl (EI .u8) x1)),(17,(Zl E_Unit y7276.1)),(0,(vI y7276.2))] 100) ?_;refine Run.seq ?_;refine Rn.g ?_;refine Ro.t 2 ?_;refine Ro.d (mkE [(1,(Zl (EI .u8) x1)),(17,(Zl E_Unit y7276.1)),(0,(vI y7276.2)),(80,(V.bool (y7276.2 != (0 : Int))))] 19) ?_;rcases tf (y7276.2 != (0 : Int)) with h7280 | h7280
  · rw [ite_t h7280] at h; refine Rn.t h7280 ?_;refine Rn.g ?_;refine Ro.t 1 ?_;rcases tf (y7276.2 == (4 : Int)) with h7281 | h7281
    · rw [ite_t h7281] at h; refine Ro.p (bool_of h7281) ?_;refine Ro.t 2 ?_;refine Ro.p (len_fz E_Unit y7276.1) ?_;refine Ro.t 3 ?_;refine Ro.d (mkE [(8,(V.bool ((ln y7276.1) == (0 : Int))))] 112) ?_;refine Run.ret ?_;obtain rfl := Option.some.inj h;exact ⟨(V.bool ((ln y7276.1) == (0 : Int))),(by kernel_rfl),(by kernel_rfl),hp⟩
    · rw [ite_f h7281] at h; refine Ro.p (bool_of h7281) ?_;refine Ro.t 6 ?_;refine Ro.d (mkE [(8,(V.bool false))] 112) ?_;refine Run.ret ?_;obtain rfl := Option.some.inj h;exact ⟨(V.bool false),(by kernel_rfl),(by kernel_rfl),hp⟩
  · rw [ite_f h7280] at h; refine Rn.f h7280 ?_;refine Run.skip ?_;refine Rn.c (mkE [(1,(Zl (EI .u8) x1)),(17,(Zl E_Unit y7276.1))] 101) ?_;refine Rn.g ?_;refine Ro.t 1 ?_;obtain ⟨y7282,h7283,h⟩ := bind_some h;refine RunO.c1 (by kernel_rfl) (by kernel_rfl) (c12 h7283 _) ?_;refine Ro.t 5 ?_;refine Ro.d (mkE [(1,(Zl (EI .u8) x1)),(19,(Zl (EI .u8) y7282.1)),(0,(vI y7282.2))] 98) ?_;refine Rn.g ?_;refine Ro.t 1 ?_;rcases tf (y7282.2 == (0 : Int)) with h7284 | h7284
    · rw [ite_t h7284] at h; refine Ro.p (bool_of h7284) ?_;refine Ro.t 3 ?_;obtain ⟨y7285,h7286,h⟩ := bind_some h;refine RunO.c1 (by kernel_rfl) (by kernel_rfl) (c16 h7286 _) ?_;refine Ro.t 2 ?_;refine Ro.d (mkE [(8,(V.bool y7285))] 112) ?_;refine Run.ret ?_;obtain rfl := Option.some.inj h;exact ⟨(V.bool y7285),(by kernel_rfl),(by kernel_rfl),hp⟩
    · rw [ite_f h7284] at h; refine Ro.p (bool_of h7284) ?_;refine Ro.t 6 ?_;refine Ro.d (mkE [(8,(V.bool false))] 112) ?_;refine Run.ret ?_;obtain rfl := Option.some.inj h;exact ⟨(V.bool false),(by kernel_rfl),(by kernel_rfl),hp⟩
def F6 (x0 : (List T_Unit)) (x1 : (List Int)) (x2 : Int) (x3 : (List Int)) : Option Bool :=
  (F9).bind fun y7232 =>
  if (!y7232) then
    some false
  else
    (F8 x0).bind fun y7240 =>
    if y7240 then
      some true
    else
      if (decide (((List.length x1 : Nat) : Int) > (3000 : Int))) then
        some true
      else
        if (decide (((List.length x3 : Nat) : Int) > (1000 : Int))) then
          some true
        else
          (F12 x0).bind fun y7245 =>
          (F20 x0).bind fun y7247 =>
          if (y7245.2 != y7247.1) then
            some false
          else
            if (y7245.2 == (0 : Int)) then
              (F14 y7245.1).bind fun y7288 =>
              (F23 x2 ((List.length y7245.1 : Nat) : Int)).bind fun y7290 =>
              (part y7245.1 0 y7290).bind fun y7292 =>
              (F14 y7292).bind fun y7294 =>
              (F24 y7245.1).bind fun y7296 =>
              (more 1 y7296 x3).bind fun y7300 =>
              (F14 y7300).bind fun y7303 =>
              if (y7288.2 != (0 : Int)) then
                some false
              else
                (F17 y7288.1 x0).bind fun y7307 =>
                if y7307 then
                  if (y7294.2 != (4 : Int)) then
                    some false
                  else
                    if (!((y7303.2 == (0 : Int)) == (((List.length x3 : Nat) : Int) == (0 : Int)))) then
                      some false
                    else
                      F6_j1 x1
                else
                  some false
            else
              F6_j1 x1
theorem w6 {x0 : (List T_Unit)} {x1 : (List Int)} {x2 : Int} {x3 : (List Int)} {r : Bool} (h : F6 x0 x1 x2 x3 = some r) {H : Heap} {L : List Ob} (hp : HP H (L)) : Fn T 6 [(Zl E_Unit x0),(Zl (EI .u8) x1),(vI x2),(Zl (EI .u8) x3)] H (Q6 L r) := by
  refine Fn.enterE t6 (e0 := (mkE [(0,(Zl E_Unit x0)),(0,(Zl (EI .u8) x1)),(0,(vI x2)),(0,(Zl (EI .u8) x3))] 117)) (by kernel_rfl) ?_;show Run T (.clr [] i6n50) _ _ (finE none [8] (Q6 L r));refine Rn.k (mkE [(0,(Zl E_Unit x0)),(0,(Zl (EI .u8) x1)),(0,(vI x2)),(0,(Zl (EI .u8) x3))] 117) ?_;unfold F6 at h;refine Rn.g ?_;refine Ro.t 1 ?_;refine Ro.d (mkE [(0,(Zl E_Unit x0)),(0,(Zl (EI .u8) x1)),(0,(vI x2)),(0,(Zl (EI .u8) x3))] 117) ?_;refine Run.seq ?_;refine Rn.g ?_;obtain ⟨y7232,h7233,h⟩ := bind_some h;refine RunO.c1 (by kernel_rfl) (by kernel_rfl) (c9 h7233 _) ?_;refine Ro.t 1 ?_;refine Ro.d (mkE [(0,(Zl E_Unit x0)),(0,(Zl (EI .u8) x1)),(0,(vI x2)),(0,(Zl (EI .u8) x3)),(20,(V.bool (!y7232)))] 96) ?_;rcases tf (!y7232) with h7234 | h7234
  · rw [ite_t h7234] at h; refine Rn.t h7234 ?_;refine Rn.g ?_;refine Ro.t 1 ?_;refine Ro.d (mkE [(8,(V.bool false))] 112) ?_;refine Run.ret ?_;obtain rfl := Option.some.inj h;exact ⟨(V.bool false),(by kernel_rfl),(by kernel_rfl),hp⟩
  · rw [ite_f h7234] at h; refine Rn.f h7234 ?_;refine Run.skip ?_;refine Rn.c (mkE [(0,(Zl E_Unit x0)),(0,(Zl (EI .u8) x1)),(0,(vI x2)),(0,(Zl (EI .u8) x3))] 117) ?_;refine Run.seq ?_;refine Rn.g ?_;refine Ro.t 1 ?_;obtain ⟨y7240,h7241,h⟩ := bind_some h;rcases tf y7240 with h7242 | h7242
    · subst h7242; rw [if_pos rfl] at h;refine RunO.c1 (by kernel_rfl) (by kernel_rfl) (c8 h7241 _) ?_;refine Ro.t 10 ?_;refine Ro.d (mkE [(0,(Zl E_Unit x0)),(0,(Zl (EI .u8) x1)),(0,(vI x2)),(0,(Zl (EI .u8) x3)),(32,(V.bool true))] 84) ?_;refine Run.condT (by kernel_rfl) ?_;refine Rn.g ?_;refine Ro.t 1 ?_;refine Ro.d (mkE [(8,(V.bool true))] 112) ?_;refine Run.ret ?_;obtain rfl := Option.some.inj h;exact ⟨(V.bool true),(by kernel_rfl),(by kernel_rfl),hp⟩
    · subst h7242; rw [if_neg (by decide)] at h;refine RunO.c1 (by kernel_rfl) (by kernel_rfl) (c8 h7241 _) ?_;refine Ro.t 2 ?_;refine Ro.p (len_fz (EI .u8) x1) ?_;rcases tf (decide ((ln x1) > (3000 : Int))) with h7243 | h7243
      · rw [ite_t h7243] at h; refine Ro.p (bool_of h7243) ?_;refine Ro.t 6 ?_;refine Ro.d (mkE [(0,(Zl E_Unit x0)),(0,(Zl (EI .u8) x1)),(0,(vI x2)),(0,(Zl (EI .u8) x3)),(32,(V.bool true))] 84) ?_;refine Run.condT (by kernel_rfl) ?_;refine Rn.g ?_;refine Ro.t 1 ?_;refine Ro.d (mkE [(8,(V.bool true))] 112) ?_;refine Run.ret ?_;obtain rfl := Option.some.inj h;exact ⟨(V.bool true),(by kernel_rfl),(by kernel_rfl),hp⟩
      · rw [ite_f h7243] at h; refine Ro.p (bool_of h7243) ?_;refine Ro.t 3 ?_;refine Ro.p (len_fz (EI .u8) x3) ?_;refine Ro.t 2 ?_;refine Ro.d (mkE [(0,(Zl E_Unit x0)),(0,(Zl (EI .u8) x1)),(0,(vI x2)),(0,(Zl (EI .u8) x3)),(32,(V.bool (decide ((ln x3) > (1000 : Int)))))] 84) ?_;rcases tf (decide ((ln x3) > (1000 : Int))) with h7244 | h7244
        · rw [ite_t h7244] at h; refine Rn.t h7244 ?_;refine Rn.g ?_;refine Ro.t 1 ?_;refine Ro.d (mkE [(8,(V.bool true))] 112) ?_;refine Run.ret ?_;obtain rfl := Option.some.inj h;exact ⟨(V.bool true),(by kernel_rfl),(by kernel_rfl),hp⟩
        · rw [ite_f h7244] at h; refine Rn.f h7244 ?_;refine Run.skip ?_;refine Rn.c (mkE [(0,(Zl E_Unit x0)),(0,(Zl (EI .u8) x1)),(0,(vI x2)),(0,(Zl (EI .u8) x3))] 117) ?_;refine Rn.g ?_;refine Ro.t 1 ?_;obtain ⟨y7245,h7246,h⟩ := bind_some h;refine RunO.c1 (by kernel_rfl) (by kernel_rfl) (c12 h7246 _) ?_;refine Ro.t 5 ?_;refine Ro.d (mkE [(0,(Zl E_Unit x0)),(0,(Zl (EI .u8) x1)),(0,(vI x2)),(0,(Zl (EI .u8) x3)),(5,(Zl (EI .u8) y7245.1)),(0,(vI y7245.2))] 110) ?_;refine Rn.g ?_;refine Ro.t 1 ?_;obtain ⟨y7247,h7248,h⟩ := bind_some h;refine RunO.c1 (by kernel_rfl) (by kernel_rfl) (c20 h7248 _) ?_;refine Ro.t 5 ?_;refine Ro.d (mkE [(0,(Zl E_Unit x0)),(0,(Zl (EI .u8) x1)),(0,(vI x2)),(0,(Zl (EI .u8) x3)),(5,(Zl (EI .u8) y7245.1)),(0,(vI y7245.2)),(0,(vI y7247.1))] 109) ?_;refine Run.seq ?_;refine Rn.g ?_;refine Ro.t 3 ?_;refine Ro.d (mkE [(0,(Zl E_Unit x0)),(0,(Zl (EI .u8) x1)),(0,(vI x2)),(0,(Zl (EI .u8) x3)),(5,(Zl (EI .u8) y7245.1)),(0,(vI y7245.2)),(38,(V.bool (y7245.2 != y7247.1)))] 71) ?_;rcases tf (y7245.2 != y7247.1) with h7250 | h7250
          · rw [ite_t h7250] at h; refine Rn.t h7250 ?_;refine Rn.g ?_;refine Ro.t 1 ?_;refine Ro.d (mkE [(8,(V.bool false))] 112) ?_;refine Run.ret ?_;obtain rfl := Option.some.inj h;exact ⟨(V.bool false),(by kernel_rfl),(by kernel_rfl),hp⟩
          · rw [ite_f h7250] at h; refine Rn.f h7250 ?_;refine Run.skip ?_;refine Rn.c (mkE [(0,(Zl E_Unit x0)),(0,(Zl (EI .u8) x1)),(0,(vI x2)),(0,(Zl (EI .u8) x3)),(5,(Zl (EI .u8) y7245.1)),(0,(vI y7245.2))] 110) ?_;refine Run.seq ?_;refine Rn.g ?_;refine Ro.t 2 ?_;refine Ro.d (mkE [(0,(Zl E_Unit x0)),(0,(Zl (EI .u8) x1)),(0,(vI x2)),(0,(Zl (EI .u8) x3)),(5,(Zl (EI .u8) y7245.1)),(41,(V.bool (y7245.2 == (0 : Int))))] 69) ?_;rcases tf (y7245.2 == (0 : Int)) with h7287 | h7287
            · rw [ite_t h7287] at h; refine Rn.t h7287 ?_;refine Rn.g ?_;refine Ro.t 1 ?_;obtain ⟨y7288,h7289,h⟩ := bind_some h;refine RunO.c2 (by kernel_rfl) (by kernel_rfl) (by kernel_rfl) (c14 h7289) ?_;refine Ro.t 5 ?_;refine Ro.d (mkE [(0,(Zl E_Unit x0)),(0,(Zl (EI .u8) x1)),(0,(vI x2)),(0,(Zl (EI .u8) x3)),(5,(Zl (EI .u8) y7245.1)),(3,(Zl E_Unit y7288.1)),(0,(vI y7288.2))] 106) ?_;refine Rn.g ?_;refine Ro.t 3 ?_;refine Ro.p (len_fz (EI .u8) y7245.1) ?_;obtain ⟨y7290,h7291,h⟩ := bind_some h;refine RunO.c1 (by kernel_rfl) (by kernel_rfl) (c23 h7291 _) ?_;obtain ⟨y7292,h7293,h⟩ := bind_some h;refine Ro.p (slc_fz0 (EI .u8) .i64 (by decide) h7293) ?_;obtain ⟨y7294,h7295,h⟩ := bind_some h;refine RunO.c2 (by kernel_rfl) (by kernel_rfl) (by kernel_rfl) (c14 h7295) ?_;refine Ro.t 5 ?_;refine Ro.d (mkE [(0,(Zl E_Unit x0)),(0,(Zl (EI .u8) x1)),(1,(Zl (EI .u8) x3)),(5,(Zl (EI .u8) y7245.1)),(3,(Zl E_Unit y7288.1)),(0,(vI y7288.2)),(1,(vI y7294.2))] 104) ?_;refine Rn.g ?_;refine Ro.t 1 ?_;obtain ⟨y7296,h7297,h⟩ := bind_some h;refine RunO.h1 (n := 24) (caps := []) (us := [(Zl (EI .u8) y7245.1)]) (by kernel_rfl) (by kernel_rfl) (by kernel_rfl) ((w24 h7297 hp).mono ?_);rintro _ H ⟨o7298,q7299,rfl,hp⟩;refine Ro.t 1 ?_;obtain ⟨y7300,h7301,h⟩ := bind_some h;refine RunO.app1 (EI .u8) hp (by kernel_rfl) 0 (o := o7298) (l := y7296) (rest := q7299) (m := x3) rfl (by kernel_rfl) (by kernel_rfl) ((EI .u8).new_fz _ x3) (by kernel_rfl) (by kernel_rfl) h7301 ?_;intro o7302 H hp;obtain ⟨y7303,h7304,h⟩ := bind_some h;refine RunO.c1s (fun v7305 => (V.tup [v7305,(vI y7303.2)])) (by kernel_rfl) (omape (l' := [(slv (EI .u8).z (EI .u8).ag (List.length y7300) o7302)]) (by kernel_rfl) (omapc (own_deep (EI .u8) hp 0 rfl false (.inl rfl) 36) omapn)) (fun s => cs14 h7304 s) ?_;intro v7305;refine Ro.t 5 ?_;refine Ro.d (mkE [(0,(Zl E_Unit x0)),(0,(Zl (EI .u8) x1)),(1,(Zl (EI .u8) x3)),(9,(Zl E_Unit y7288.1)),(0,(vI y7288.2)),(1,(vI y7294.2)),(1,(vI y7303.2))] 102) ?_;refine Rn.g ?_;refine Ro.t 1 ?_;rcases tf (y7288.2 != (0 : Int)) with h7306 | h7306
              · rw [ite_t h7306] at h; refine Ro.p (bool_of h7306) ?_;refine Ro.t 18 ?_;refine Ro.d (mkE [(1,(Zl (EI .u8) x1)),(92,(V.bool true))] 26) ?_;refine Run.condT (by kernel_rfl) ?_;refine Rn.g ?_;refine Ro.t 1 ?_;refine Ro.d (mkE [(8,(V.bool false))] 112) ?_;refine Run.ret ?_;obtain rfl := Option.some.inj h;have hp := hp.del 0;exact ⟨(V.bool false),(by kernel_rfl),(by kernel_rfl),hp⟩
              · rw [ite_f h7306] at h; refine Ro.p (bool_of h7306) ?_;refine Ro.t 3 ?_;obtain ⟨y7307,h7308,h⟩ := bind_some h;rcases tf y7307 with h7309 | h7309
                · subst h7309; rw [if_pos rfl] at h;refine RunO.c1 (by kernel_rfl) (by kernel_rfl) (c17 h7308 _) ?_;refine Ro.t 4 ?_;rcases tf (y7294.2 != (4 : Int)) with h7310 | h7310
                  · rw [ite_t h7310] at h; refine Ro.p (bool_of h7310) ?_;refine Ro.t 9 ?_;refine Ro.d (mkE [(1,(Zl (EI .u8) x1)),(92,(V.bool true))] 26) ?_;refine Run.condT (by kernel_rfl) ?_;refine Rn.g ?_;refine Ro.t 1 ?_;refine Ro.d (mkE [(8,(V.bool false))] 112) ?_;refine Run.ret ?_;obtain rfl := Option.some.inj h;have hp := hp.del 0;exact ⟨(V.bool false),(by kernel_rfl),(by kernel_rfl),hp⟩
                  · rw [ite_f h7310] at h; refine Ro.p (bool_of h7310) ?_;refine Ro.t 5 ?_;refine Ro.p (len_fz (EI .u8) x3) ?_;refine Ro.t 3 ?_;refine Ro.d (mkE [(1,(Zl (EI .u8) x1)),(92,(V.bool (!((y7303.2 == (0 : Int)) == ((ln x3) == (0 : Int))))))] 26) ?_;rcases tf (!((y7303.2 == (0 : Int)) == ((ln x3) == (0 : Int)))) with h7311 | h7311
                    · rw [ite_t h7311] at h; refine Rn.t h7311 ?_;refine Rn.g ?_;refine Ro.t 1 ?_;refine Ro.d (mkE [(8,(V.bool false))] 112) ?_;refine Run.ret ?_;obtain rfl := Option.some.inj h;have hp := hp.del 0;exact ⟨(V.bool false),(by kernel_rfl),(by kernel_rfl),hp⟩
                    · rw [ite_f h7311] at h; refine Rn.f h7311 ?_;refine Run.skip ?_;refine Rn.c (mkE [(1,(Zl (EI .u8) x1))] 119) ?_;have hp := hp.del 0;exact w6_j1 h hp
                · subst h7309; rw [if_neg (by decide)] at h;refine RunO.c1 (by kernel_rfl) (by kernel_rfl) (c17 h7308 _) ?_;refine Ro.t 14 ?_;refine Ro.d (mkE [(1,(Zl (EI .u8) x1)),(92,(V.bool true))] 26) ?_;refine Run.condT (by kernel_rfl) ?_;refine Rn.g ?_;refine Ro.t 1 ?_;refine Ro.d (mkE [(8,(V.bool false))] 112) ?_;refine Run.ret ?_;obtain rfl := Option.some.inj h;have hp := hp.del 0;exact ⟨(V.bool false),(by kernel_rfl),(by kernel_rfl),hp⟩
            · rw [ite_f h7287] at h; refine Rn.f h7287 ?_;refine Run.skip ?_;refine Rn.c (mkE [(1,(Zl (EI .u8) x1))] 119) ?_;exact w6_j1 h hp
end Go.Eng.Cop
