/- Plain functions with the answers of the layer's functions, and the proofs (lines written by a program of this session's; no condition beyond those stated). -/
import Derived.Test.YtfkakbipedafiaaDoorGraFa
namespace Go.Eng.Gra
open Go Go.Eng
set_option linter.unusedSectionVars false
set_option linter.unusedVariables false
set_option linter.unusedSimpArgs false
set_option maxRecDepth 20000
/- smithy/scalar.Of -/
abbrev Q75 (L : List Ob) (r : (Int × Bool)) : V → Heap → Prop := fun v h => v = .tup [(EI .u8).e r.1, EB.e r.2] ∧ HP h (L)
abbrev RR75 (L : List Ob) (r : (Int × Bool)) : List V → Heap → Prop := fun e h => endR none [4, 5] (Q75 L r) e h

def F75_j1 (x1 : Int) (y6082 : Bool) : Option (Int × Bool) :=
  if (!y6082) then
    some ((0 : Int), false)
  else
    some (x1, true)

theorem w75_j1 {x1 : Int} {y6082 : Bool} {r : (Int × Bool)} (h : F75_j1 x1 y6082 = some r) {H : Heap} {L : List Ob} (hp : HP H (L)) :
    Run T i75n98 (mkE [(1, (V.int .u8 x1)), (4, (V.bool y6082))] 41) H (finE none [4, 5] (Q75 L r)) := by
  unfold F75_j1 at h
  refine Run.seq ?_
  refine Rn.g ?_
  refine Ro.t 2 ?_
  refine Ro.d (mkE [(1, (V.int .u8 x1)), (44, (V.bool (!y6082)))] 1) ?_
  rcases tf (!y6082) with h6084 | h6084
  · rw [ite_t h6084] at h; refine Rn.t h6084 ?_
    refine Rn.g ?_
    refine Ro.t 2 ?_
    refine Ro.d (mkE [(4, (V.int .u8 (0 : Int))), (0, (V.bool false))] 42) ?_
    refine Run.ret ?_
    have h := Option.some.inj h; subst h
    exact ⟨(V.tup [(V.int .u8 (0 : Int)), (V.bool false)]), (by kernel_rfl), (by kernel_rfl), hp⟩
  · rw [ite_f h6084] at h; refine Rn.f h6084 ?_
    refine Run.skip ?_
    refine Rn.c (mkE [(1, (V.int .u8 x1))] 46) ?_
    refine Rn.g ?_
    refine Ro.t 3 ?_
    refine Ro.d (mkE [(4, (V.int .u8 x1)), (0, (V.bool true))] 42) ?_
    refine Run.ret ?_
    have h := Option.some.inj h; subst h
    exact ⟨(V.tup [(V.int .u8 x1), (V.bool true)]), (by kernel_rfl), (by kernel_rfl), hp⟩

def F75_j2 : Option (Int × Bool) :=
  some ((1 : Int), true)

theorem w75_j2 {r : (Int × Bool)} (h : F75_j2 = some r) {H : Heap} {L : List Ob} (hp : HP H (L)) :
    Run T i75n87 (mkE [] 48) H (blk 0 (thn T (.clr [0, 4, 5, 13, 14, 15, 16, 17, 18, 19, 20, 21, 22, 23, 24, 25, 26, 27, 28, 29, 30, 31, 32, 33, 34, 35, 36, 37, 38, 39, 40, 41, 42, 43, 44] i75n98) (finE none [4, 5] (Q75 L r)))) := by
  unfold F75_j2 at h
  refine Run.seq ?_
  refine Rn.g ?_
  refine Ro.t 2 ?_
  refine Ro.d (mkE [(4, (V.int .u8 (1 : Int))), (0, (V.bool true))] 42) ?_
  refine Run.ret ?_
  have h := Option.some.inj h; subst h
  exact ⟨(V.tup [(V.int .u8 (1 : Int)), (V.bool true)]), (by kernel_rfl), (by kernel_rfl), hp⟩

def F75_j3 (x1 : Int) : Option (Int × Bool) :=
  if (x1 == (1 : Int)) then
    F75_j1 x1 (false)
  else
    F75_j2

theorem w75_j3 {x1 : Int} {r : (Int × Bool)} (h : F75_j3 x1 = some r) {H : Heap} {L : List Ob} (hp : HP H (L)) :
    Run T i75n82 (mkE [(1, (V.int .u8 x1)), (4, (V.bool false))] 41) H (blk 5 (thn T (.clr [1, 6, 13, 14, 15, 16, 17, 18, 19, 20, 21, 22, 23, 24, 25, 26, 27, 28, 29, 30, 31, 32, 33, 34, 35, 36, 37, 38, 39, 40, 41, 42, 43, 44] i75n87) (blk 0 (thn T (.clr [0, 4, 5, 13, 14, 15, 16, 17, 18, 19, 20, 21, 22, 23, 24, 25, 26, 27, 28, 29, 30, 31, 32, 33, 34, 35, 36, 37, 38, 39, 40, 41, 42, 43, 44] i75n98) (finE none [4, 5] (Q75 L r)))))) := by
  unfold F75_j3 at h
  refine Rn.g ?_
  refine Ro.t 2 ?_
  refine Ro.d (mkE [(1, (V.int .u8 x1)), (4, (V.bool false)), (37, (V.bool (x1 == (1 : Int))))] 3) ?_
  rcases tf (x1 == (1 : Int)) with h6914 | h6914
  · rw [ite_t h6914] at h; refine Rn.t h6914 ?_
    refine Run.exit ?_
    refine Rn.c (mkE [(1, (V.int .u8 x1)), (4, (V.bool false))] 41) ?_
    exact w75_j1 h hp
  · rw [ite_f h6914] at h; refine Rn.f h6914 ?_
    refine Run.skip ?_
    refine Rn.c (mkE [] 48) ?_
    exact w75_j2 h hp

def F75_j4 (x1 : Int) : Option (Int × Bool) :=
  F75_j1 x1 ((x1 != (5 : Int)))

theorem w75_j4 {x1 : Int} {r : (Int × Bool)} (h : F75_j4 x1 = some r) {H : Heap} {L : List Ob} (hp : HP H (L)) :
    Run T i75n77 (mkE [(1, (V.int .u8 x1))] 46) H (blk 4 (thn T (.clr [13, 14, 15, 16, 17, 18, 19, 20, 21, 22, 23, 24, 25, 26, 27, 28, 29, 30, 31, 32, 33, 34, 35, 36, 37, 38, 39, 40, 41, 42] i75n82) (blk 5 (thn T (.clr [1, 6, 13, 14, 15, 16, 17, 18, 19, 20, 21, 22, 23, 24, 25, 26, 27, 28, 29, 30, 31, 32, 33, 34, 35, 36, 37, 38, 39, 40, 41, 42, 43, 44] i75n87) (blk 0 (thn T (.clr [0, 4, 5, 13, 14, 15, 16, 17, 18, 19, 20, 21, 22, 23, 24, 25, 26, 27, 28, 29, 30, 31, 32, 33, 34, 35, 36, 37, 38, 39, 40, 41, 42, 43, 44] i75n98) (finE none [4, 5] (Q75 L r)))))))) := by
  unfold F75_j4 at h
  refine Rn.g ?_
  refine Ro.t 3 ?_
  refine Ro.d (mkE [(1, (V.int .u8 x1)), (4, (V.bool (x1 != (5 : Int))))] 41) ?_
  refine Run.exit ?_
  refine Rn.c (mkE [(1, (V.int .u8 x1)), (4, (V.bool (x1 != (5 : Int))))] 41) ?_
  exact w75_j1 h hp

def F75_j5 (x1 : Int) : Option (Int × Bool) :=
  (F76 x1).bind fun y7121 =>
  F75_j1 x1 (y7121)

theorem w75_j5 {x1 : Int} {r : (Int × Bool)} (h : F75_j5 x1 = some r) {H : Heap} {L : List Ob} (hp : HP H (L)) :
    Run T i75n73 (mkE [(1, (V.int .u8 x1))] 46) H (blk 3 (thn T (.clr [6, 13, 14, 15, 16, 17, 18, 19, 20, 21, 22, 23, 24, 25, 26, 27, 28, 29, 30, 31, 32, 33, 34, 35, 36, 37, 38, 39, 40] i75n77) (blk 4 (thn T (.clr [13, 14, 15, 16, 17, 18, 19, 20, 21, 22, 23, 24, 25, 26, 27, 28, 29, 30, 31, 32, 33, 34, 35, 36, 37, 38, 39, 40, 41, 42] i75n82) (blk 5 (thn T (.clr [1, 6, 13, 14, 15, 16, 17, 18, 19, 20, 21, 22, 23, 24, 25, 26, 27, 28, 29, 30, 31, 32, 33, 34, 35, 36, 37, 38, 39, 40, 41, 42, 43, 44] i75n87) (blk 0 (thn T (.clr [0, 4, 5, 13, 14, 15, 16, 17, 18, 19, 20, 21, 22, 23, 24, 25, 26, 27, 28, 29, 30, 31, 32, 33, 34, 35, 36, 37, 38, 39, 40, 41, 42, 43, 44] i75n98) (finE none [4, 5] (Q75 L r)))))))))) := by
  unfold F75_j5 at h
  refine Rn.g ?_
  refine Ro.t 1 ?_
  obtain ⟨y7121, h7122, h⟩ := bind_some h
  refine RunO.c1 (by kernel_rfl) (by kernel_rfl) (c76 h7122 _) ?_
  refine Ro.t 1 ?_
  refine Ro.d (mkE [(1, (V.int .u8 x1)), (4, (V.bool y7121))] 41) ?_
  refine Run.exit ?_
  refine Rn.c (mkE [(1, (V.int .u8 x1)), (4, (V.bool y7121))] 41) ?_
  exact w75_j1 h hp

def F75_j6 (x1 : Int) : Option (Int × Bool) :=
  F75_j1 x1 ((x1 != (1 : Int)))

theorem w75_j6 {x1 : Int} {r : (Int × Bool)} (h : F75_j6 x1 = some r) {H : Heap} {L : List Ob} (hp : HP H (L)) :
    Run T i75n69 (mkE [(1, (V.int .u8 x1))] 46) H (blk 2 (thn T (.clr [6, 13, 14, 15, 16, 17, 18, 19, 20, 21, 22, 23, 24, 25, 26, 27, 28, 29, 30, 31, 32, 33, 34, 35, 36, 37, 38] i75n73) (blk 3 (thn T (.clr [6, 13, 14, 15, 16, 17, 18, 19, 20, 21, 22, 23, 24, 25, 26, 27, 28, 29, 30, 31, 32, 33, 34, 35, 36, 37, 38, 39, 40] i75n77) (blk 4 (thn T (.clr [13, 14, 15, 16, 17, 18, 19, 20, 21, 22, 23, 24, 25, 26, 27, 28, 29, 30, 31, 32, 33, 34, 35, 36, 37, 38, 39, 40, 41, 42] i75n82) (blk 5 (thn T (.clr [1, 6, 13, 14, 15, 16, 17, 18, 19, 20, 21, 22, 23, 24, 25, 26, 27, 28, 29, 30, 31, 32, 33, 34, 35, 36, 37, 38, 39, 40, 41, 42, 43, 44] i75n87) (blk 0 (thn T (.clr [0, 4, 5, 13, 14, 15, 16, 17, 18, 19, 20, 21, 22, 23, 24, 25, 26, 27, 28, 29, 30, 31, 32, 33, 34, 35, 36, 37, 38, 39, 40, 41, 42, 43, 44] i75n98) (finE none [4, 5] (Q75 L r)))))))))))) := by
  unfold F75_j6 at h
  refine Rn.g ?_
  refine Ro.t 3 ?_
  refine Ro.d (mkE [(1, (V.int .u8 x1)), (4, (V.bool (x1 != (1 : Int))))] 41) ?_
  refine Run.exit ?_
  refine Rn.c (mkE [(1, (V.int .u8 x1)), (4, (V.bool (x1 != (1 : Int))))] 41) ?_
  exact w75_j1 h hp

def F75 (x0 : Int) (x1 : Int) : Option (Int × Bool) :=
  if (decide (x1 < (1 : Int))) then
    some ((0 : Int), false)
  else
    if (decide (x1 > (5 : Int))) then
      some ((0 : Int), false)
    else
      if (x0 == (1 : Int)) then
        F75_j6 x1
      else
        if (x0 == (2 : Int)) then
          F75_j6 x1
        else
          if (x0 == (3 : Int)) then
            F75_j6 x1
          else
            if (x0 == (4 : Int)) then
              F75_j6 x1
            else
              if (x0 == (17 : Int)) then
                F75_j6 x1
              else
                if (x0 == (5 : Int)) then
                  F75_j5 x1
                else
                  if (x0 == (9 : Int)) then
                    F75_j5 x1
                  else
                    if (x0 == (10 : Int)) then
                      F75_j5 x1
                    else
                      if (x0 == (6 : Int)) then
                        F75_j4 x1
                      else
                        if (x0 == (7 : Int)) then
                          F75_j4 x1
                        else
                          if (x0 == (8 : Int)) then
                            F75_j4 x1
                          else
                            if (x0 == (18 : Int)) then
                              F75_j4 x1
                            else
                              if (x0 == (13 : Int)) then
                                F75_j3 x1
                              else
                                if (x0 == (14 : Int)) then
                                  F75_j3 x1
                                else
                                  if (x0 == (15 : Int)) then
                                    F75_j3 x1
                                  else
                                    if (x0 == (16 : Int)) then
                                      F75_j3 x1
                                    else
                                      if (x0 == (11 : Int)) then
                                        F75_j2
                                      else
                                        if (x0 == (12 : Int)) then
                                          F75_j2
                                        else
                                          F75_j1 x1 (false)

theorem w75 {x0 : Int} {x1 : Int} {r : (Int × Bool)} (h : F75 x0 x1 = some r) {H : Heap} {L : List Ob} (hp : HP H (L)) : Fn T 75 [(V.int .u8 x0), (V.int .u8 x1)] H (Q75 L r) := by
  refine Fn.enterE t75 (e0 := (mkE [(0, (V.int .u8 x0)), (0, (V.int .u8 x1))] 46)) (by kernel_rfl) ?_
  show Run T (.clr [] i75n102) _ _ (finE none [4, 5] (Q75 L r))
  refine Rn.k (mkE [(0, (V.int .u8 x0)), (0, (V.int .u8 x1))] 46) ?_
  unfold F75 at h
  refine Rn.g ?_
  refine Ro.t 2 ?_
  refine Ro.d (mkE [(0, (V.int .u8 x0)), (0, (V.int .u8 x1))] 46) ?_
  refine Run.seq ?_
  refine Rn.g ?_
  refine Ro.t 1 ?_
  rcases tf (decide (x1 < (1 : Int))) with h4974 | h4974
  · rw [ite_t h4974] at h; refine Ro.p (bool_of h4974) ?_
    refine Ro.t 4 ?_
    refine Ro.d (mkE [(0, (V.int .u8 x0)), (0, (V.int .u8 x1)), (10, (V.bool true))] 35) ?_
    refine Run.condT (by kernel_rfl) ?_
    refine Rn.g ?_
    refine Ro.t 2 ?_
    refine Ro.d (mkE [(4, (V.int .u8 (0 : Int))), (0, (V.bool false))] 42) ?_
    refine Run.ret ?_
    have h := Option.some.inj h; subst h
    exact ⟨(V.tup [(V.int .u8 (0 : Int)), (V.bool false)]), (by kernel_rfl), (by kernel_rfl), hp⟩
  · rw [ite_f h4974] at h; refine Ro.p (bool_of h4974) ?_
    refine Ro.t 4 ?_
    refine Ro.d (mkE [(0, (V.int .u8 x0)), (0, (V.int .u8 x1)), (10, (V.bool (decide (x1 > (5 : Int)))))] 35) ?_
    rcases tf (decide (x1 > (5 : Int))) with h4975 | h4975
    · rw [ite_t h4975] at h; refine Rn.t h4975 ?_
      refine Rn.g ?_
      refine Ro.t 2 ?_
      refine Ro.d (mkE [(4, (V.int .u8 (0 : Int))), (0, (V.bool false))] 42) ?_
      refine Run.ret ?_
      have h := Option.some.inj h; subst h
      exact ⟨(V.tup [(V.int .u8 (0 : Int)), (V.bool false)]), (by kernel_rfl), (by kernel_rfl), hp⟩
    · rw [ite_f h4975] at h; refine Rn.f h4975 ?_
      refine Run.skip ?_
      refine Rn.c (mkE [(0, (V.int .u8 x0)), (0, (V.int .u8 x1))] 46) ?_
      refine Rn.g ?_
      refine Ro.t 1 ?_
      refine Ro.d (mkE [(0, (V.int .u8 x0)), (0, (V.int .u8 x1)), (4, (V.bool false))] 41) ?_
      refine Run.seq ?_
      refine Rn.g ?_
      refine Ro.t 1 ?_
      refine Ro.d (mkE [(1, (V.int .u8 x1)), (4, (V.bool false)), (6, (V.int .u8 x0))] 34) ?_
      refine Run.block ?_
      refine Run.seq ?_
      refine Run.block ?_
      refine Run.seq ?_
      refine Run.block ?_
      refine Run.seq ?_
      refine Run.block ?_
      refine Run.seq ?_
      refine Run.block ?_
      refine Run.seq ?_
      refine Run.block ?_
      refine Run.seq ?_
      refine Run.seq ?_
      refine Run.seq ?_
      refine Rn.g ?_
      refine Ro.t 2 ?_
      refine Ro.d (mkE [(1, (V.int .u8 x1)), (4, (V.bool false)), (6, (V.int .u8 x0)), (0, (V.bool (x0 == (1 : Int))))] 33) ?_
      rcases tf (x0 == (1 : Int)) with h7162 | h7162
      · rw [ite_t h7162] at h; refine Rn.t h7162 ?_
        refine Run.skip ?_
        refine Rn.c (mkE [(1, (V.int .u8 x1)), (4, (V.bool false)), (6, (V.int .u8 x0)), (0, (V.bool (x0 == (1 : Int))))] 33) ?_
        refine Run.cond (t := true) (by rw [← h7162]; kernel_rfl) ?_
        refine Run.exit ?_
        refine Rn.c (mkE [(1, (V.int .u8 x1))] 46) ?_
        exact w75_j6 h hp
      · rw [ite_f h7162] at h; refine Rn.f h7162 ?_
        refine Rn.g ?_
        refine Ro.t 2 ?_
        refine Ro.d (mkE [(1, (V.int .u8 x1)), (4, (V.bool false)), (6, (V.int .u8 x0)), (0, (V.bool (x0 == (2 : Int))))] 33) ?_
        rcases tf (x0 == (2 : Int)) with h7163 | h7163
        · rw [ite_t h7163] at h; refine Rn.t h7163 ?_
          refine Run.skip ?_
          refine Rn.c (mkE [(1, (V.int .u8 x1)), (4, (V.bool false)), (6, (V.int .u8 x0)), (0, (V.bool (x0 == (2 : Int))))] 33) ?_
          refine Run.cond (t := true) (by rw [← h7163]; kernel_rfl) ?_
          refine Run.exit ?_
          refine Rn.c (mkE [(1, (V.int .u8 x1))] 46) ?_
          exact w75_j6 h hp
        · rw [ite_f h7163] at h; refine Rn.f h7163 ?_
          refine Rn.g ?_
          refine Ro.t 2 ?_
          refine Ro.d (mkE [(1, (V.int .u8 x1)), (4, (V.bool false)), (6, (V.int .u8 x0)), (0, (V.bool (x0 == (3 : Int))))] 33) ?_
          rcases tf (x0 == (3 : Int)) with h7164 | h7164
          · rw [ite_t h7164] at h; refine Rn.t h7164 ?_
            refine Run.skip ?_
            refine Rn.c (mkE [(1, (V.int .u8 x1)), (4, (V.bool false)), (6, (V.int .u8 x0)), (0, (V.bool (x0 == (3 : Int))))] 33) ?_
            refine Run.cond (t := true) (by rw [← h7164]; kernel_rfl) ?_
            refine Run.exit ?_
            refine Rn.c (mkE [(1, (V.int .u8 x1))] 46) ?_
            exact w75_j6 h hp
          · rw [ite_f h7164] at h; refine Rn.f h7164 ?_
            refine Rn.g ?_
            refine Ro.t 2 ?_
            refine Ro.d (mkE [(1, (V.int .u8 x1)), (4, (V.bool false)), (6, (V.int .u8 x0)), (0, (V.bool (x0 == (4 : Int))))] 33) ?_
            rcases tf (x0 == (4 : Int)) with h7165 | h7165
            · rw [ite_t h7165] at h; refine Rn.t h7165 ?_
              refine Run.skip ?_
              refine Rn.c (mkE [(1, (V.int .u8 x1)), (4, (V.bool false)), (6, (V.int .u8 x0)), (0, (V.bool (x0 == (4 : Int))))] 33) ?_
              refine Run.cond (t := true) (by rw [← h7165]; kernel_rfl) ?_
              refine Run.exit ?_
              refine Rn.c (mkE [(1, (V.int .u8 x1))] 46) ?_
              exact w75_j6 h hp
            · rw [ite_f h7165] at h; refine Rn.f h7165 ?_
              refine Run.rgn ?_
              refine Ro.t 2 ?_
              refine Ro.d (mkE [(1, (V.int .u8 x1)), (4, (V.bool false)), (6, (V.int .u8 x0)), (0, (V.bool (x0 == (17 : Int))))] 33) ?_
              rcases tf (x0 == (17 : Int)) with h7166 | h7166
              · rw [ite_t h7166] at h; refine Rn.t h7166 ?_
                refine Run.exit ?_
                refine Rn.c (mkE [(1, (V.int .u8 x1))] 46) ?_
                exact w75_j6 h hp
              · rw [ite_f h7166] at h; refine Rn.f h7166 ?_
                refine Run.skip ?_
                refine Rn.c (mkE [(1, (V.int .u8 x1)), (4, (V.bool false)), (6, (V.int .u8 x0))] 34) ?_
                refine Run.seq ?_
                refine Run.seq ?_
                refine Rn.g ?_
                refine Ro.t 2 ?_
                refine Ro.d (mkE [(1, (V.int .u8 x1)), (4, (V.bool false)), (6, (V.int .u8 x0)), (6, (V.bool (x0 == (5 : Int))))] 27) ?_
                rcases tf (x0 == (5 : Int)) with h7170 | h7170
                · rw [ite_t h7170] at h; refine Rn.t h7170 ?_
                  refine Run.skip ?_
                  refine Rn.c (mkE [(1, (V.int .u8 x1)), (4, (V.bool false)), (6, (V.int .u8 x0)), (6, (V.bool (x0 == (5 : Int))))] 27) ?_
                  refine Run.cond (t := true) (by rw [← h7170]; kernel_rfl) ?_
                  refine Run.exit ?_
                  refine Rn.c (mkE [(1, (V.int .u8 x1))] 46) ?_
                  exact w75_j5 h hp
                · rw [ite_f h7170] at h; refine Rn.f h7170 ?_
                  refine Rn.g ?_
                  refine Ro.t 2 ?_
                  refine Ro.d (mkE [(1, (V.int .u8 x1)), (4, (V.bool false)), (6, (V.int .u8 x0)), (6, (V.bool (x0 == (9 : Int))))] 27) ?_
                  rcases tf (x0 == (9 : Int)) with h7171 | h7171
                  · rw [ite_t h7171] at h; refine Rn.t h7171 ?_
                    refine Run.skip ?_
                    refine Rn.c (mkE [(1, (V.int .u8 x1)), (4, (V.bool false)), (6, (V.int .u8 x0)), (6, (V.bool (x0 == (9 : Int))))] 27) ?_
                    refine Run.cond (t := true) (by rw [← h7171]; kernel_rfl) ?_
                    refine Run.exit ?_
                    refine Rn.c (mkE [(1, (V.int .u8 x1))] 46) ?_
                    exact w75_j5 h hp
                  · rw [ite_f h7171] at h; refine Rn.f h7171 ?_
                    refine Run.rgn ?_
                    refine Ro.t 2 ?_
                    refine Ro.d (mkE [(1, (V.int .u8 x1)), (4, (V.bool false)), (6, (V.int .u8 x0)), (6, (V.bool (x0 == (10 : Int))))] 27) ?_
                    rcases tf (x0 == (10 : Int)) with h7172 | h7172
                    · rw [ite_t h7172] at h; refine Rn.t h7172 ?_
                      refine Run.exit ?_
                      refine Rn.c (mkE [(1, (V.int .u8 x1))] 46) ?_
                      exact w75_j5 h hp
                    · rw [ite_f h7172] at h; refine Rn.f h7172 ?_
                      refine Run.skip ?_
                      refine Rn.c (mkE [(1, (V.int .u8 x1)), (4, (V.bool false)), (6, (V.int .u8 x0))] 34) ?_
                      refine Run.seq ?_
                      refine Run.seq ?_
                      refine Rn.g ?_
                      refine Ro.t 2 ?_
                      refine Ro.d (mkE [(1, (V.int .u8 x1)), (4, (V.bool false)), (6, (V.int .u8 x0)), (10, (V.bool (x0 == (6 : Int))))] 23) ?_
                      rcases tf (x0 == (6 : Int)) with h7177 | h7177
                      · rw [ite_t h7177] at h; refine Rn.t h7177 ?_
                        refine Run.skip ?_
                        refine Rn.c (mkE [(1, (V.int .u8 x1)), (4, (V.bool false)), (6, (V.int .u8 x0)), (10, (V.bool (x0 == (6 : Int))))] 23) ?_
                        refine Run.cond (t := true) (by rw [← h7177]; kernel_rfl) ?_
                        refine Run.exit ?_
                        refine Rn.c (mkE [(1, (V.int .u8 x1))] 46) ?_
                        exact w75_j4 h hp
                      · rw [ite_f h7177] at h; refine Rn.f h7177 ?_
                        refine Rn.g ?_
                        refine Ro.t 2 ?_
                        refine Ro.d (mkE [(1, (V.int .u8 x1)), (4, (V.bool false)), (6, (V.int .u8 x0)), (10, (V.bool (x0 == (7 : Int))))] 23) ?_
                        rcases tf (x0 == (7 : Int)) with h7178 | h7178
                        · rw [ite_t h7178] at h; refine Rn.t h7178 ?_
                          refine Run.skip ?_
                          refine Rn.c (mkE [(1, (V.int .u8 x1)), (4, (V.bool false)), (6, (V.int .u8 x0)), (10, (V.bool (x0 == (7 : Int))))] 23) ?_
                          refine Run.cond (t := true) (by rw [← h7178]; kernel_rfl) ?_
                          refine Run.exit ?_
                          refine Rn.c (mkE [(1, (V.int .u8 x1))] 46) ?_
                          exact w75_j4 h hp
                        · rw [ite_f h7178] at h; refine Rn.f h7178 ?_
                          refine Rn.g ?_
                          refine Ro.t 2 ?_
                          refine Ro.d (mkE [(1, (V.int .u8 x1)), (4, (V.bool false)), (6, (V.int .u8 x0)), (10, (V.bool (x0 == (8 : Int))))] 23) ?_
                          rcases tf (x0 == (8 : Int)) with h7179 | h7179
                          · rw [ite_t h7179] at h; refine Rn.t h7179 ?_
                            refine Run.skip ?_
                            refine Rn.c (mkE [(1, (V.int .u8 x1)), (4, (V.bool false)), (6, (V.int .u8 x0)), (10, (V.bool (x0 == (8 : Int))))] 23) ?_
                            refine Run.cond (t := true) (by rw [← h7179]; kernel_rfl) ?_
                            refine Run.exit ?_
                            refine Rn.c (mkE [(1, (V.int .u8 x1))] 46) ?_
                            exact w75_j4 h hp
                          · rw [ite_f h7179] at h; refine Rn.f h7179 ?_
                            refine Run.rgn ?_
                            refine Ro.t 2 ?_
                            refine Ro.d (mkE [(1, (V.int .u8 x1)), (4, (V.bool false)), (6, (V.int .u8 x0)), (10, (V.bool (x0 == (18 : Int))))] 23) ?_
                            rcases tf (x0 == (18 : Int)) with h7180 | h7180
                            · rw [ite_t h7180] at h; refine Rn.t h7180 ?_
                              refine Run.exit ?_
                              refine Rn.c (mkE [(1, (V.int .u8 x1))] 46) ?_
                              exact w75_j4 h hp
                            · rw [ite_f h7180] at h; refine Rn.f h7180 ?_
                              refine Run.skip ?_
                              refine Rn.c (mkE [(1, (V.int .u8 x1)), (4, (V.bool false)), (6, (V.int .u8 x0))] 34) ?_
                              refine Run.seq ?_
                              refine Run.seq ?_
                              refine Rn.g ?_
                              refine Ro.t 2 ?_
                              refine Ro.d (mkE [(1, (V.int .u8 x1)), (4, (V.bool false)), (6, (V.int .u8 x0)), (15, (V.bool (x0 == (13 : Int))))] 18) ?_
                              rcases tf (x0 == (13 : Int)) with h7185 | h7185
                              · rw [ite_t h7185] at h; refine Rn.t h7185 ?_
                                refine Run.skip ?_
                                refine Rn.c (mkE [(1, (V.int .u8 x1)), (4, (V.bool false)), (6, (V.int .u8 x0)), (15, (V.bool (x0 == (13 : Int))))] 18) ?_
                                refine Run.cond (t := true) (by rw [← h7185]; kernel_rfl) ?_
                                refine Run.exit ?_
                                refine Rn.c (mkE [(1, (V.int .u8 x1)), (4, (V.bool false))] 41) ?_
                                exact w75_j3 h hp
                              · rw [ite_f h7185] at h; refine Rn.f h7185 ?_
                                refine Rn.g ?_
                                refine Ro.t 2 ?_
                                refine Ro.d (mkE [(1, (V.int .u8 x1)), (4, (V.bool false)), (6, (V.int .u8 x0)), (15, (V.bool (x0 == (14 : Int))))] 18) ?_
                                rcases tf (x0 == (14 : Int)) with h7186 | h7186
                                · rw [ite_t h7186] at h; refine Rn.t h7186 ?_
                                  refine Run.skip ?_
                                  refine Rn.c (mkE [(1, (V.int .u8 x1)), (4, (V.bool false)), (6, (V.int .u8 x0)), (15, (V.bool (x0 == (14 : Int))))] 18) ?_
                                  refine Run.cond (t := true) (by rw [← h7186]; kernel_rfl) ?_
                                  refine Run.exit ?_
                                  refine Rn.c (mkE [(1, (V.int .u8 x1)), (4, (V.bool false))] 41) ?_
                                  exact w75_j3 h hp
                                · rw [ite_f h7186] at h; refine Rn.f h7186 ?_
                                  refine Rn.g ?_
                                  refine Ro.t 2 ?_
                                  refine Ro.d (mkE [(1, (V.int .u8 x1)), (4, (V.bool false)), (6, (V.int .u8 x0)), (15, (V.bool (x0 == (15 : Int))))] 18) ?_
                                  rcases tf (x0 == (15 : Int)) with h7187 | h7187
                                  · rw [ite_t h7187] at h; refine Rn.t h7187 ?_
                                    refine Run.skip ?_
                                    refine Rn.c (mkE [(1, (V.int .u8 x1)), (4, (V.bool false)), (6, (V.int .u8 x0)), (15, (V.bool (x0 == (15 : Int))))] 18) ?_
                                    refine Run.cond (t := true) (by rw [← h7187]; kernel_rfl) ?_
                                    refine Run.exit ?_
                                    refine Rn.c (mkE [(1, (V.int .u8 x1)), (4, (V.bool false))] 41) ?_
                                    exact w75_j3 h hp
                                  · rw [ite_f h7187] at h; refine Rn.f h7187 ?_
                                    refine Run.rgn ?_
                                    refine Ro.t 2 ?_
                                    refine Ro.d (mkE [(1, (V.int .u8 x1)), (4, (V.bool false)), (6, (V.int .u8 x0)), (15, (V.bool (x0 == (16 : Int))))] 18) ?_
                                    rcases tf (x0 == (16 : Int)) with h7188 | h7188
                                    · rw [ite_t h7188] at h; refine Rn.t h7188 ?_
                                      refine Run.exit ?_
                                      refine Rn.c (mkE [(1, (V.int .u8 x1)), (4, (V.bool false))] 41) ?_
                                      exact w75_j3 h hp
                                    · rw [ite_f h7188] at h; refine Rn.f h7188 ?_
                                      refine Run.skip ?_
                                      refine Rn.c (mkE [(1, (V.int .u8 x1)), (4, (V.bool false)), (6, (V.int .u8 x0))] 34) ?_
                                      refine Run.seq ?_
                                      refine Rn.g ?_
                                      refine Ro.t 2 ?_
                                      refine Ro.d (mkE [(1, (V.int .u8 x1)), (4, (V.bool false)), (6, (V.int .u8 x0)), (20, (V.bool (x0 == (11 : Int))))] 13) ?_
                                      rcases tf (x0 == (11 : Int)) with h7189 | h7189
                                      · rw [ite_t h7189] at h; refine Rn.t h7189 ?_
                                        refine Run.skip ?_
                                        refine Rn.c (mkE [(1, (V.int .u8 x1)), (4, (V.bool false)), (27, (V.bool (x0 == (11 : Int))))] 13) ?_
                                        refine Run.cond (t := true) (by rw [← h7189]; kernel_rfl) ?_
                                        refine Run.exit ?_
                                        refine Rn.c (mkE [] 48) ?_
                                        exact w75_j2 h hp
                                      · rw [ite_f h7189] at h; refine Rn.f h7189 ?_
                                        refine Run.rgn ?_
                                        refine Ro.t 2 ?_
                                        refine Ro.d (mkE [(1, (V.int .u8 x1)), (4, (V.bool false)), (27, (V.bool (x0 == (12 : Int))))] 13) ?_
                                        rcases tf (x0 == (12 : Int)) with h7190 | h7190
                                        · rw [ite_t h7190] at h; refine Rn.t h7190 ?_
                                          refine Run.exit ?_
                                          refine Rn.c (mkE [] 48) ?_
                                          exact w75_j2 h hp
                                        · rw [ite_f h7190] at h; refine Rn.f h7190 ?_
                                          refine Run.skip ?_
                                          refine Run.clrE (ts := [13, 14, 15, 16, 17, 18, 19, 20, 21, 22, 23, 24, 25, 26, 27, 28, 29, 30, 31, 32, 33, 34, 35, 36]) (b := (.exit 0)) (Q := (blk 1 (thn T (.clr [6, 13, 14, 15, 16, 17, 18, 19, 20, 21, 22, 23, 24, 25, 26, 27, 28, 29, 30, 31, 32, 33, 34, 35, 36] i75n69) (blk 2 (thn T (.clr [6, 13, 14, 15, 16, 17, 18, 19, 20, 21, 22, 23, 24, 25, 26, 27, 28, 29, 30, 31, 32, 33, 34, 35, 36, 37, 38] i75n73) (blk 3 (thn T (.clr [6, 13, 14, 15, 16, 17, 18, 19, 20, 21, 22, 23, 24, 25, 26, 27, 28, 29, 30, 31, 32, 33, 34, 35, 36, 37, 38, 39, 40] i75n77) (blk 4 (thn T (.clr [13, 14, 15, 16, 17, 18, 19, 20, 21, 22, 23, 24, 25, 26, 27, 28, 29, 30, 31, 32, 33, 34, 35, 36, 37, 38, 39, 40, 41, 42] i75n82) (blk 5 (thn T (.clr [1, 6, 13, 14, 15, 16, 17, 18, 19, 20, 21, 22, 23, 24, 25, 26, 27, 28, 29, 30, 31, 32, 33, 34, 35, 36, 37, 38, 39, 40, 41, 42, 43, 44] i75n87) (blk 0 (thn T (.clr [0, 4, 5, 13, 14, 15, 16, 17, 18, 19, 20, 21, 22, 23, 24, 25, 26, 27, 28, 29, 30, 31, 32, 33, 34, 35, 36, 37, 38, 39, 40, 41, 42, 43, 44] i75n98) (finE none [4, 5] (Q75 L r))))))))))))))) (e' := (mkE [(1, (V.int .u8 x1)), (4, (V.bool false))] 41)) (by kernel_rfl) ?_
                                          refine Run.exit ?_
                                          refine Rn.c (mkE [(1, (V.int .u8 x1)), (4, (V.bool false))] 41) ?_
                                          exact w75_j1 h hp

theorem c75 {x0 : Int} {x1 : Int} {r : (Int × Bool)} (h : F75 x0 x1 = some r) (s : Bool) : Fn T 75 [(V.int .u8 x0), (V.int .u8 x1)] [] (fun v hh => deep s hh deepN v = some (.tup [(EI .u8).e r.1, EB.e r.2])) := by
  refine (w75 h HP.nil).mono ?_
  rintro v hh ⟨rfl, hp⟩
  exact congrArg (Option.map V.tup) (omapc ((EI .u8).hd s hh 37 _ (.inr rfl)) (omapc (EB.hd s hh 37 _ (.inr rfl)) omapn))

/- smithy/graph.operated -/
abbrev Q56 (L : List Ob) (r : Bool) : V → Heap → Prop := fun v h => v = EB.e r ∧ HP h (L)
abbrev RR56 (L : List Ob) (r : Bool) : List V → Heap → Prop := fun e h => endR none [6] (Q56 L r) e h

def F56_j1 (x0 : Int) (x1 : (List Int)) (x2 : Int) (y7197 : Int) : Option Bool :=
  if (((List.length x1 : Nat) : Int) != y7197) then
    some false
  else
    (idx x1 (0 : Int)).bind fun y7205 =>
    (idx x1 (IntKind.i64.wrap (y7197 - (1 : Int)))).bind fun y7207 =>
    if (y7205 != y7207) then
      some false
    else
      (idx x1 (0 : Int)).bind fun y7210 =>
      (F75 x0 y7210).bind fun y7212 =>
      if y7212.2 then
        some (y7212.1 == x2)
      else
        some false

theorem w56_j1 {x0 : Int} {x1 : (List Int)} {x2 : Int} {y7197 : Int} {r : Bool} (h : F56_j1 x0 x1 x2 y7197 = some r) {H : Heap} {L : List Ob} (hp : HP H (L)) :
    Run T i56n15 (mkE [(0, (V.int .u8 x0)), (0, (Zl (EI .u8) x1)), (0, (V.int .u8 x2)), (4, (i6 y7197))] 37) H (finE none [6] (Q56 L r)) := by
  unfold F56_j1 at h
  refine Run.seq ?_
  refine Rn.g ?_
  refine Ro.t 1 ?_
  refine Ro.p (len_fz (EI .u8) x1) ?_
  refine Ro.t 1 ?_
  rcases tf ((ln x1) != y7197) with h7204 | h7204
  · rw [ite_t h7204] at h; refine Ro.p (bool_of h7204) ?_
    refine Ro.t 11 ?_
    refine Ro.d (mkE [(0, (V.int .u8 x0)), (0, (Zl (EI .u8) x1)), (0, (V.int .u8 x2)), (27, (V.bool true))] 14) ?_
    refine Run.condT (by kernel_rfl) ?_
    refine Rn.g ?_
    refine Ro.t 1 ?_
    refine Ro.d (mkE [(6, (V.bool false))] 38) ?_
    refine Run.ret ?_
    have h := Option.some.inj h; subst h
    exact ⟨(V.bool false), (by kernel_rfl), (by kernel_rfl), hp⟩
  · rw [ite_f h7204] at h; refine Ro.p (bool_of h7204) ?_
    refine Ro.t 2 ?_
    obtain ⟨y7205, h7206, h⟩ := bind_some h
    refine Ro.p (idx_fz (EI .u8) .i64 h7206) ?_
    refine Ro.t 4 ?_
    obtain ⟨y7207, h7208, h⟩ := bind_some h
    refine Ro.p (idx_fz (EI .u8) .i64 h7208) ?_
    refine Ro.t 3 ?_
    refine Ro.d (mkE [(0, (V.int .u8 x0)), (0, (Zl (EI .u8) x1)), (0, (V.int .u8 x2)), (27, (V.bool (y7205 != y7207)))] 14) ?_
    rcases tf (y7205 != y7207) with h7209 | h7209
    · rw [ite_t h7209] at h; refine Rn.t h7209 ?_
      refine Rn.g ?_
      refine Ro.t 1 ?_
      refine Ro.d (mkE [(6, (V.bool false))] 38) ?_
      refine Run.ret ?_
      have h := Option.some.inj h; subst h
      exact ⟨(V.bool false), (by kernel_rfl), (by kernel_rfl), hp⟩
    · rw [ite_f h7209] at h; refine Rn.f h7209 ?_
      refine Run.skip ?_
      refine Rn.c (mkE [(0, (V.int .u8 x0)), (0, (Zl (EI .u8) x1)), (0, (V.int .u8 x2))] 42) ?_
      refine Rn.g ?_
      refine Ro.t 2 ?_
      obtain ⟨y7210, h7211, h⟩ := bind_some h
      refine Ro.p (idx_fz (EI .u8) .i64 h7211) ?_
      refine Ro.t 1 ?_
      obtain ⟨y7212, h7213, h⟩ := bind_some h
      refine RunO.c1 (by kernel_rfl) (by kernel_rfl) (c75 h7213 _) ?_
      refine Ro.t 5 ?_
      refine Ro.d (mkE [(2, (V.int .u8 x2)), (5, (V.int .u8 y7212.1)), (0, (V.bool y7212.2))] 35) ?_
      refine Rn.g ?_
      rcases tf y7212.2 with h7214 | h7214
      · rw [ite_t h7214] at h; refine Ro.p (bool_of h7214) ?_
        refine Ro.t 6 ?_
        refine Ro.d (mkE [(6, (V.bool (y7212.1 == x2)))] 38) ?_
        refine Run.ret ?_
        have h := Option.some.inj h; subst h
        exact ⟨(V.bool (y7212.1 == x2)), (by kernel_rfl), (by kernel_rfl), hp⟩
      · rw [ite_f h7214] at h; refine Ro.p (bool_of h7214) ?_
        refine Ro.t 6 ?_
        refine Ro.d (mkE [(6, (V.bool false))] 38) ?_
        refine Run.ret ?_
        have h := Option.some.inj h; subst h
        exact ⟨(V.bool false), (by kernel_rfl), (by kernel_rfl), hp⟩

def F56 (x0 : Int) (x1 : (List Int)) (x2 : Int) : Option Bool :=
  if (x0 == (17 : Int)) then
    F56_j1 x0 x1 x2 ((1 : Int))
  else
    if (x0 == (18 : Int)) then
      F56_j1 x0 x1 x2 ((1 : Int))
    else
      F56_j1 x0 x1 x2 ((2 : Int))

theorem w56 {x0 : Int} {x1 : (List Int)} {x2 : Int} {r : Bool} (h : F56 x0 x1 x2 = some r) {H : Heap} {L : List Ob} (hp : HP H (L)) : Fn T 56 [(V.int .u8 x0), (Zl (EI .u8) x1), (V.int .u8 x2)] H (Q56 L r) := by
  refine Fn.enterE t56 (e0 := (mkE [(0, (V.int .u8 x0)), (0, (Zl (EI .u8) x1)), (0, (V.int .u8 x2))] 42)) (by kernel_rfl) ?_
  show Run T (.clr [] i56n18) _ _ (finE none [6] (Q56 L r))
  refine Rn.k (mkE [(0, (V.int .u8 x0)), (0, (Zl (EI .u8) x1)), (0, (V.int .u8 x2))] 42) ?_
  unfold F56 at h
  refine Rn.g ?_
  refine Ro.t 1 ?_
  refine Ro.d (mkE [(0, (V.int .u8 x0)), (0, (Zl (EI .u8) x1)), (0, (V.int .u8 x2))] 42) ?_
  refine Rn.g ?_
  refine Ro.t 1 ?_
  refine Ro.d (mkE [(0, (V.int .u8 x0)), (0, (Zl (EI .u8) x1)), (0, (V.int .u8 x2)), (4, (i6 (2 : Int)))] 37) ?_
  refine Run.seq ?_
  refine Rn.g ?_
  refine Ro.t 1 ?_
  rcases tf (x0 == (17 : Int)) with h7215 | h7215
  · rw [ite_t h7215] at h; refine Ro.p (bool_of h7215) ?_
    refine Ro.t 4 ?_
    refine Ro.d (mkE [(0, (V.int .u8 x0)), (0, (Zl (EI .u8) x1)), (0, (V.int .u8 x2)), (4, (i6 (2 : Int))), (7, (V.bool true))] 29) ?_
    refine Run.condT (by kernel_rfl) ?_
    refine Run.rgn ?_
    refine Ro.t 1 ?_
    refine Ro.d (mkE [(0, (V.int .u8 x0)), (0, (Zl (EI .u8) x1)), (0, (V.int .u8 x2)), (4, (i6 (1 : Int)))] 37) ?_
    exact w56_j1 h hp
  · rw [ite_f h7215] at h; refine Ro.p (bool_of h7215) ?_
    refine Ro.t 4 ?_
    refine Ro.d (mkE [(0, (V.int .u8 x0)), (0, (Zl (EI .u8) x1)), (0, (V.int .u8 x2)), (4, (i6 (2 : Int))), (7, (V.bool (x0 == (18 : Int))))] 29) ?_
    rcases tf (x0 == (18 : Int)) with h7216 | h7216
    · rw [ite_t h7216] at h; refine Rn.t h7216 ?_
      refine Run.rgn ?_
      refine Ro.t 1 ?_
      refine Ro.d (mkE [(0, (V.int .u8 x0)), (0, (Zl (EI .u8) x1)), (0, (V.int .u8 x2)), (4, (i6 (1 : Int)))] 37) ?_
      exact w56_j1 h hp
    · rw [ite_f h7216] at h; refine Rn.f h7216 ?_
      refine Run.skip ?_
      refine Rn.c (mkE [(0, (V.int .u8 x0)), (0, (Zl (EI .u8) x1)), (0, (V.int .u8 x2)), (4, (i6 (2 : Int)))] 37) ?_
      exact w56_j1 h hp

theorem c56 {x0 : Int} {x1 : (List Int)} {x2 : Int} {r : Bool} (h : F56 x0 x1 x2 = some r) (s : Bool) : Fn T 56 [(V.int .u8 x0), (Zl (EI .u8) x1), (V.int .u8 x2)] [] (fun v hh => deep s hh deepN v = some (EB.e r)) := by
  refine (w56 h HP.nil).mono ?_
  rintro v hh ⟨rfl, hp⟩
  exact EB.hd s hh 38 _ (.inr rfl)

/- smithy/scalar.Turns -/
abbrev Q57 (L : List Ob) (r : Bool) : V → Heap → Prop := fun v h => v = EB.e r ∧ HP h (L)
abbrev RR57 (L : List Ob) (r : Bool) : List V → Heap → Prop := fun e h => endR none [4] (Q57 L r) e h

def F57 (x0 : Int) (x1 : Int) : Option Bool :=
  (F76 x0).bind fun y7232 =>
  if y7232 then
    (F76 x1).bind fun y7235 =>
    if y7235 then
      some true
    else
      some (x1 == (5 : Int))
  else
    if (x0 == (5 : Int)) then
      (F76 x1).bind fun y7239 =>
      if y7239 then
        some true
      else
        some (x1 == (5 : Int))
    else
      some false

theorem w57 {x0 : Int} {x1 : Int} {r : Bool} (h : F57 x0 x1 = some r) {H : Heap} {L : List Ob} (hp : HP H (L)) : Fn T 57 [(V.int .u8 x0), (V.int .u8 x1)] H (Q57 L r) := by
  refine Fn.enterE t57 (e0 := (mkE [(0, (V.int .u8 x0)), (0, (V.int .u8 x1))] 17)) (by kernel_rfl) ?_
  show Run T (.clr [] i57n3) _ _ (finE none [4] (Q57 L r))
  refine Rn.k (mkE [(0, (V.int .u8 x0)), (0, (V.int .u8 x1))] 17) ?_
  unfold F57 at h
  refine Rn.g ?_
  refine Ro.t 1 ?_
  refine Ro.d (mkE [(0, (V.int .u8 x0)), (0, (V.int .u8 x1))] 17) ?_
  refine Rn.g ?_
  refine Ro.t 1 ?_
  obtain ⟨y7232, h7233, h⟩ := bind_some h
  rcases tf y7232 with h7234 | h7234
  · subst h7234; rw [if_pos rfl] at h
    refine RunO.c1 (by kernel_rfl) (by kernel_rfl) (c76 h7233 _) ?_
    refine Ro.t 6 ?_
    obtain ⟨y7235, h7236, h⟩ := bind_some h
    rcases tf y7235 with h7237 | h7237
    · subst h7237; rw [if_pos rfl] at h
      refine RunO.c1 (by kernel_rfl) (by kernel_rfl) (c76 h7236 _) ?_
      refine Ro.t 6 ?_
      refine Ro.d (mkE [(4, (V.bool true))] 14) ?_
      refine Run.ret ?_
      have h := Option.some.inj h; subst h
      exact ⟨(V.bool true), (by kernel_rfl), (by kernel_rfl), hp⟩
    · subst h7237; rw [if_neg (by decide)] at h
      refine RunO.c1 (by kernel_rfl) (by kernel_rfl) (c76 h7236 _) ?_
      refine Ro.t 6 ?_
      refine Ro.d (mkE [(4, (V.bool (x1 == (5 : Int))))] 14) ?_
      refine Run.ret ?_
      have h := Option.some.inj h; subst h
      exact ⟨(V.bool (x1 == (5 : Int))), (by kernel_rfl), (by kernel_rfl), hp⟩
  · subst h7234; rw [if_neg (by decide)] at h
    refine RunO.c1 (by kernel_rfl) (by kernel_rfl) (c76 h7233 _) ?_
    refine Ro.t 2 ?_
    rcases tf (x0 == (5 : Int)) with h7238 | h7238
    · rw [ite_t h7238] at h; refine Ro.p (bool_of h7238) ?_
      refine Ro.t 3 ?_
      obtain ⟨y7239, h7240, h⟩ := bind_some h
      rcases tf y7239 with h7241 | h7241
      · subst h7241; rw [if_pos rfl] at h
        refine RunO.c1 (by kernel_rfl) (by kernel_rfl) (c76 h7240 _) ?_
        refine Ro.t 6 ?_
        refine Ro.d (mkE [(4, (V.bool true))] 14) ?_
        refine Run.ret ?_
        have h := Option.some.inj h; subst h
        exact ⟨(V.bool true), (by kernel_rfl), (by kernel_rfl), hp⟩
      · subst h7241; rw [if_neg (by decide)] at h
        refine RunO.c1 (by kernel_rfl) (by kernel_rfl) (c76 h7240 _) ?_
        refine Ro.t 6 ?_
        refine Ro.d (mkE [(4, (V.bool (x1 == (5 : Int))))] 14) ?_
        refine Run.ret ?_
        have h := Option.some.inj h; subst h
        exact ⟨(V.bool (x1 == (5 : Int))), (by kernel_rfl), (by kernel_rfl), hp⟩
    · rw [ite_f h7238] at h; refine Ro.p (bool_of h7238) ?_
      refine Ro.t 10 ?_
      refine Ro.d (mkE [(4, (V.bool false))] 14) ?_
      refine Run.ret ?_
      have h := Option.some.inj h; subst h
      exact ⟨(V.bool false), (by kernel_rfl), (by kernel_rfl), hp⟩

theorem c57 {x0 : Int} {x1 : Int} {r : Bool} (h : F57 x0 x1 = some r) (s : Bool) : Fn T 57 [(V.int .u8 x0), (V.int .u8 x1)] [] (fun v hh => deep s hh deepN v = some (EB.e r)) := by
  refine (w57 h HP.nil).mono ?_
  rintro v hh ⟨rfl, hp⟩
  exact EB.hd s hh 38 _ (.inr rfl)

/- slices.Equal[[]smithy/api.Type,smithy/api.Type] -/
abbrev Q77 (L : List Ob) (r : Bool) : V → Heap → Prop := fun v h => v = EB.e r ∧ HP h (L)
abbrev RR77 (L : List Ob) (r : Bool) : List V → Heap → Prop := fun e h => endR none [4] (Q77 L r) e h

abbrev I77_1 (x0 : (List Int)) (x1 : (List Int)) (L : List Ob) : (Int) → List V → Heap → Prop := fun s e h => e = (mkE [(0, (Zl (EI .u8) x0)), (0, (Zl (EI .u8) x1)), (10, (i6 (ln x0))), (0, (i6 s))] 12) ∧ HP h (L)

abbrev J77_1 (x0 : (List Int)) (x1 : (List Int)) (L : List Ob) : Unit → Nat → List V → Heap → Prop := fun a i e h => i = 0 ∧ clrEnv [0, 1, 4, 5, 11, 12, 13, 14, 15, 16, 17, 18, 19, 20, 21, 22, 23, 24, 25] e = (mkE [] 26) ∧ HP h (L)

def F77_1_b (x0 : (List Int)) (x1 : (List Int)) (y7337 : Int) : Option (Stp (Int) Bool Unit) :=
  if (decide (y7337 < ((List.length x0 : Nat) : Int))) then
    (idx x0 y7337).bind fun y7357 =>
    (idx x1 y7337).bind fun y7359 =>
    if (y7357 != y7359) then
      some (.ret false)
    else
      some (.next ((IntKind.i64.wrap (y7337 + (1 : Int)))))
  else
    some (.go ())

theorem w77_1_b {x0 : (List Int)} {x1 : (List Int)} {y7337 : Int} {t : (Stp (Int) Bool Unit)} (h : F77_1_b x0 x1 y7337 = some t) {H : Heap} {L : List Ob} (hp : HP H (L)) :
    Run T i77n20 (mkE [(0, (Zl (EI .u8) x0)), (0, (Zl (EI .u8) x1)), (10, (i6 (ln x0))), (0, (i6 y7337))] 12) H (stp [4, 5, 14, 15, 16, 17, 18, 19, 20, 21, 22, 23, 24, 25] (I77_1 x0 x1 L) (RR77 L) (J77_1 x0 x1 L) t) := by
  unfold F77_1_b at h
  refine Rn.g ?_
  refine Ro.t 1 ?_
  refine Ro.d (mkE [(0, (Zl (EI .u8) x0)), (0, (Zl (EI .u8) x1)), (10, (i6 (ln x0))), (0, (i6 y7337)), (0, (V.bool (decide (y7337 < (ln x0)))))] 11) ?_
  refine Run.seq ?_
  rcases tf (decide (y7337 < (ln x0))) with h7351 | h7351
  · rw [ite_t h7351] at h; refine Rn.t h7351 ?_
    refine Run.skip ?_
    refine Rn.c (mkE [(0, (Zl (EI .u8) x0)), (0, (Zl (EI .u8) x1)), (10, (i6 (ln x0))), (0, (i6 y7337))] 12) ?_
    refine Run.seq ?_
    refine Run.block ?_
    refine Rn.g ?_
    refine Ro.t 2 ?_
    refine Ro.d (mkE [(0, (Zl (EI .u8) x0)), (0, (Zl (EI .u8) x1)), (3, (i6 y7337)), (6, (i6 (ln x0))), (0, (i6 y7337))] 12) ?_
    refine Rn.g ?_
    refine Ro.t 2 ?_
    obtain ⟨y7357, h7358, h⟩ := bind_some h
    refine Ro.p (idx_fz (EI .u8) .i64 h7358) ?_
    refine Ro.t 3 ?_
    obtain ⟨y7359, h7360, h⟩ := bind_some h
    refine Ro.p (idx_fz (EI .u8) .i64 h7360) ?_
    refine Ro.t 2 ?_
    refine Ro.d (mkE [(0, (Zl (EI .u8) x0)), (0, (Zl (EI .u8) x1)), (10, (i6 (ln x0))), (0, (i6 y7337)), (10, (V.bool (y7357 != y7359)))] 1) ?_
    rcases tf (y7357 != y7359) with h7361 | h7361
    · rw [ite_t h7361] at h; refine Rn.t h7361 ?_
      refine Rn.g ?_
      refine Ro.t 1 ?_
      refine Ro.d (mkE [(4, (V.bool false))] 21) ?_
      refine Run.ret ?_
      have h := Option.some.inj h; subst h
      show RR77 L _ _ _
      exact ⟨(V.bool false), (by kernel_rfl), (by kernel_rfl), hp⟩
    · rw [ite_f h7361] at h; refine Rn.f h7361 ?_
      refine Run.skip ?_
      refine Run.clrE (ts := [4, 5, 15, 16, 17, 18, 19, 20, 21, 22, 23, 24]) (b := (.rgn i77r17)) (Q := (stp [4, 5, 14, 15, 16, 17, 18, 19, 20, 21, 22, 23, 24, 25] (I77_1 x0 x1 L) (RR77 L) (J77_1 x0 x1 L) t)) (e' := (mkE [(0, (Zl (EI .u8) x0)), (0, (Zl (EI .u8) x1)), (10, (i6 (ln x0))), (0, (i6 y7337))] 12)) (by kernel_rfl) ?_
      refine Run.rgn ?_
      refine Ro.t 2 ?_
      refine RunO.nil ?_
      have h := Option.some.inj h; subst h
      show I77_1 x0 x1 L _ _ _
      exact ⟨(by kernel_rfl), hp⟩
  · rw [ite_f h7351] at h; refine Rn.f h7351 ?_
    refine Run.exit ?_
    have h := Option.some.inj h; subst h
    show J77_1 x0 x1 L () _ _ _
    exact ⟨rfl, (by kernel_rfl), hp⟩

def F77 (x0 : (List Int)) (x1 : (List Int)) : Option Bool :=
  if (((List.length x0 : Nat) : Int) != ((List.length x1 : Nat) : Int)) then
    some false
  else
    (iter (fun s : (Int) => F77_1_b x0 x1 s) FUEL ((0 : Int))).bind fun o => match o with
    | .ret r => some r
    | .go () =>
      some true

theorem w77 {x0 : (List Int)} {x1 : (List Int)} {r : Bool} (h : F77 x0 x1 = some r) {H : Heap} {L : List Ob} (hp : HP H (L)) : Fn T 77 [(Zl (EI .u8) x0), (Zl (EI .u8) x1)] H (Q77 L r) := by
  refine Fn.enterE t77 (e0 := (mkE [(0, (Zl (EI .u8) x0)), (0, (Zl (EI .u8) x1))] 24)) (by kernel_rfl) ?_
  show Run T (.clr [] i77n28) _ _ (finE none [4] (Q77 L r))
  refine Rn.k (mkE [(0, (Zl (EI .u8) x0)), (0, (Zl (EI .u8) x1))] 24) ?_
  unfold F77 at h
  refine Rn.g ?_
  refine Ro.t 1 ?_
  refine Ro.d (mkE [(0, (Zl (EI .u8) x0)), (0, (Zl (EI .u8) x1))] 24) ?_
  refine Run.seq ?_
  refine Rn.g ?_
  refine Ro.t 1 ?_
  refine Ro.p (len_fz (EI .u8) x0) ?_
  refine Ro.t 1 ?_
  refine Ro.p (len_fz (EI .u8) x1) ?_
  refine Ro.t 1 ?_
  refine Ro.d (mkE [(0, (Zl (EI .u8) x0)), (0, (Zl (EI .u8) x1)), (8, (V.bool ((ln x0) != (ln x1))))] 15) ?_
  rcases tf ((ln x0) != (ln x1)) with h7324 | h7324
  · rw [ite_t h7324] at h; refine Rn.t h7324 ?_
    refine Rn.g ?_
    refine Ro.t 1 ?_
    refine Ro.d (mkE [(4, (V.bool false))] 21) ?_
    refine Run.ret ?_
    have h := Option.some.inj h; subst h
    exact ⟨(V.bool false), (by kernel_rfl), (by kernel_rfl), hp⟩
  · rw [ite_f h7324] at h; refine Rn.f h7324 ?_
    refine Run.skip ?_
    refine Rn.c (mkE [(0, (Zl (EI .u8) x0)), (0, (Zl (EI .u8) x1))] 24) ?_
    refine Run.seq ?_
    refine Rn.g ?_
    refine Ro.t 1 ?_
    refine Ro.p (len_fz (EI .u8) x0) ?_
    refine Ro.t 1 ?_
    refine Ro.d (mkE [(0, (Zl (EI .u8) x0)), (0, (Zl (EI .u8) x1)), (10, (i6 (ln x0))), (0, (i6 (0 : Int)))] 12) ?_
    refine Run.block ?_
    obtain ⟨o, h7362, h⟩ := bind_some h
    refine (Run.iter (I := I77_1 x0 x1 L) (RR := RR77 L) (J := J77_1 x0 x1 L) (fun s e h' t hI hf => ?_) FUEL h7362 (by exact ⟨(by kernel_rfl), hp⟩)).mono ?_
    · obtain ⟨rfl, hp⟩ := hI; exact w77_1_b hf hp
    · rintro X e' H hq
      cases o with
      | ret r => cases X <;> first | exact hq.elim | (cases h; exact hq)
      | go a => 
        cases X with | nrm => exact hq.elim | ret => exact hq.elim | ext i => ?_
        obtain ⟨rfl, he, hp⟩ := hq
        dsimp only at h
        refine Run.clrE (ts := [0, 1, 4, 5, 11, 12, 13, 14, 15, 16, 17, 18, 19, 20, 21, 22, 23, 24, 25]) (b := i77n25) (Q := (finE none [4] (Q77 L r))) he ?_
        refine Rn.g ?_
        refine Ro.t 1 ?_
        refine Ro.d (mkE [(4, (V.bool true))] 21) ?_
        refine Run.ret ?_
        have h := Option.some.inj h; subst h
        exact ⟨(V.bool true), (by kernel_rfl), (by kernel_rfl), hp⟩

theorem c77 {x0 : (List Int)} {x1 : (List Int)} {r : Bool} (h : F77 x0 x1 = some r) (s : Bool) : Fn T 77 [(Zl (EI .u8) x0), (Zl (EI .u8) x1)] [] (fun v hh => deep s hh deepN v = some (EB.e r)) := by
  refine (w77 h HP.nil).mono ?_
  rintro v hh ⟨rfl, hp⟩
  exact EB.hd s hh 38 _ (.inr rfl)

/- smithy/graph.called -/
abbrev Q58 (L : List Ob) (r : Bool) : V → Heap → Prop := fun v h => v = EB.e r ∧ HP h (L)
abbrev RR58 (L : List Ob) (r : Bool) : List V → Heap → Prop := fun e h => endR none [8] (Q58 L r) e h

abbrev I58_1 (x2 : (List Int)) (x3 : Int) (y7371 : T_Graph) (b7373 : Nat) (L : List Ob) : (Int) → List V → Heap → Prop := fun s e h => e = (mkE [(2, (Zl (EI .u8) x2)), (0, (V.int .u8 x3)), (5, (V.ptr b7373 0 0)), (14, (Zl (EI .i64) y7371.fParams)), (0, (i6 (ln y7371.fParams))), (0, (i6 s))] 22) ∧ HP h ((some (b7373, 0), [(ES.e y7371.fName), (Zl (EI .i64) y7371.fParams), (V.int .u8 y7371.fResult), (Zl (EI .u8) y7371.fVars), (Zl E_Array y7371.fArrays), (Zl E_Block y7371.fBlocks)]) :: L)

abbrev J58_1 (x2 : (List Int)) (x3 : Int) (y7371 : T_Graph) (b7373 : Nat) (L : List Ob) : Unit → Nat → List V → Heap → Prop := fun a i e h => i = 0 ∧ clrEnv [8, 11, 23, 24, 25, 26, 27, 28, 29, 30, 31, 32, 33, 34, 35, 36] e = (mkE [(2, (Zl (EI .u8) x2)), (0, (V.int .u8 x3)), (5, (V.ptr b7373 0 0))] 39) ∧ HP h ((some (b7373, 0), [(ES.e y7371.fName), (Zl (EI .i64) y7371.fParams), (V.int .u8 y7371.fResult), (Zl (EI .u8) y7371.fVars), (Zl E_Array y7371.fArrays), (Zl E_Block y7371.fBlocks)]) :: L)

def F58_1_b (x2 : (List Int)) (x3 : Int) (y7371 : T_Graph) (y7386 : Int) : Option (Stp (Int) Bool Unit) :=
  if (decide (y7386 < ((List.length y7371.fParams : Nat) : Int))) then
    (idx y7371.fParams y7386).bind fun y7406 =>
    (F34 y7406 ((List.length y7371.fVars : Nat) : Int)).bind fun y7408 =>
    if (!y7408) then
      some (.ret false)
    else
      some (.next ((IntKind.i64.wrap (y7386 + (1 : Int)))))
  else
    some (.go ())

theorem w58_1_b {x2 : (List Int)} {x3 : Int} {y7371 : T_Graph} {y7386 : Int} {t : (Stp (Int) Bool Unit)} (h : F58_1_b x2 x3 y7371 y7386 = some t) {b7373 : Nat} {H : Heap} {L : List Ob} (hp : HP H ((some (b7373, 0), [(ES.e y7371.fName), (Zl (EI .i64) y7371.fParams), (V.int .u8 y7371.fResult), (Zl (EI .u8) y7371.fVars), (Zl E_Array y7371.fArrays), (Zl E_Block y7371.fBlocks)]) :: L)) :
    Run T i58n21 (mkE [(2, (Zl (EI .u8) x2)), (0, (V.int .u8 x3)), (5, (V.ptr b7373 0 0)), (14, (Zl (EI .i64) y7371.fParams)), (0, (i6 (ln y7371.fParams))), (0, (i6 y7386))] 22) H (stp [8, 11, 27, 28, 29, 30, 31, 32, 33, 34, 35, 36] (I58_1 x2 x3 y7371 b7373 L) (RR58 L) (J58_1 x2 x3 y7371 b7373 L) t) := by
  unfold F58_1_b at h
  refine Rn.g ?_
  refine Ro.t 1 ?_
  refine Ro.d (mkE [(2, (Zl (EI .u8) x2)), (0, (V.int .u8 x3)), (5, (V.ptr b7373 0 0)), (14, (Zl (EI .i64) y7371.fParams)), (0, (i6 (ln y7371.fParams))), (0, (i6 y7386)), (0, (V.bool (decide (y7386 < (ln y7371.fParams)))))] 21) ?_
  refine Run.seq ?_
  rcases tf (decide (y7386 < (ln y7371.fParams))) with h7400 | h7400
  · rw [ite_t h7400] at h; refine Rn.t h7400 ?_
    refine Run.skip ?_
    refine Rn.c (mkE [(2, (Zl (EI .u8) x2)), (0, (V.int .u8 x3)), (5, (V.ptr b7373 0 0)), (14, (Zl (EI .i64) y7371.fParams)), (0, (i6 (ln y7371.fParams))), (0, (i6 y7386))] 22) ?_
    refine Run.seq ?_
    refine Run.block ?_
    refine Rn.g ?_
    obtain ⟨y7406, h7407, h⟩ := bind_some h
    refine Ro.p (idx_fz (EI .i64) .i64 h7407) ?_
    refine Ro.t 2 ?_
    refine Ro.d (mkE [(2, (Zl (EI .u8) x2)), (0, (V.int .u8 x3)), (5, (V.ptr b7373 0 0)), (1, (i6 y7406)), (12, (Zl (EI .i64) y7371.fParams)), (0, (i6 (ln y7371.fParams))), (0, (i6 y7386))] 22) ?_
    refine Rn.g ?_
    refine Ro.t 2 ?_
    refine Ro.p (hp.ld 0 (off := 3) (n := none) (v := (Zl (EI .u8) y7371.fVars)) rfl (by kernel_rfl)) ?_
    refine Ro.p (len_fz (EI .u8) y7371.fVars) ?_
    obtain ⟨y7408, h7409, h⟩ := bind_some h
    refine RunO.c1 (by kernel_rfl) (by kernel_rfl) (c34 h7409 _) ?_
    refine Ro.t 1 ?_
    refine Ro.d (mkE [(2, (Zl (EI .u8) x2)), (0, (V.int .u8 x3)), (5, (V.ptr b7373 0 0)), (14, (Zl (EI .i64) y7371.fParams)), (0, (i6 (ln y7371.fParams))), (0, (i6 y7386)), (8, (V.bool (!y7408)))] 13) ?_
    rcases tf (!y7408) with h7410 | h7410
    · rw [ite_t h7410] at h; refine Rn.t h7410 ?_
      refine Rn.g ?_
      refine Ro.t 1 ?_
      refine Ro.d (mkE [(8, (V.bool false))] 40) ?_
      refine Run.ret ?_
      have h := Option.some.inj h; subst h
      show RR58 L _ _ _
      have hp := hp.del 0
      exact ⟨(V.bool false), (by kernel_rfl), (by kernel_rfl), hp⟩
    · rw [ite_f h7410] at h; refine Rn.f h7410 ?_
      refine Run.skip ?_
      refine Run.clrE (ts := [8, 11, 28, 29, 30, 31, 32, 33, 34, 35]) (b := (.rgn i58r18)) (Q := (stp [8, 11, 27, 28, 29, 30, 31, 32, 33, 34, 35, 36] (I58_1 x2 x3 y7371 b7373 L) (RR58 L) (J58_1 x2 x3 y7371 b7373 L) t)) (e' := (mkE [(2, (Zl (EI .u8) x2)), (0, (V.int .u8 x3)), (5, (V.ptr b7373 0 0)), (14, (Zl (EI .i64) y7371.fParams)), (0, (i6 (ln y7371.fParams))), (0, (i6 y7386))] 22)) (by kernel_rfl) ?_
      refine Run.rgn ?_
      refine Ro.t 2 ?_
      refine RunO.nil ?_
      have h := Option.some.inj h; subst h
      show I58_1 x2 x3 y7371 b7373 L _ _ _
      exact ⟨(by kernel_rfl), hp⟩
  · rw [ite_f h7400] at h; refine Rn.f h7400 ?_
    refine Run.exit ?_
    have h := Option.some.inj h; subst h
    show J58_1 x2 x3 y7371 b7373 L () _ _ _
    exact ⟨rfl, (by kernel_rfl), hp⟩

def F58 (x0 : (List T_Graph)) (x1 : T_Ins) (x2 : (List Int)) (x3 : Int) : Option Bool :=
  (F34 x1.fRef ((List.length x0 : Nat) : Int)).bind fun y7368 =>
  if (!y7368) then
    some false
  else
    (idx x0 x1.fRef).bind fun y7371 =>
    (iter (fun s : (Int) => F58_1_b x2 x3 y7371 s) FUEL ((0 : Int))).bind fun o => match o with
    | .ret r => some r
    | .go () =>
      if (y7371.fResult == x3) then
        (F52 y7371 y7371.fParams).bind fun y7413 =>
        (F77 y7413 x2).bind fun y7415 =>
        some y7415
      else
        some false

theorem w58 {x0 : (List T_Graph)} {x1 : T_Ins} {x2 : (List Int)} {x3 : Int} {r : Bool} (h : F58 x0 x1 x2 x3 = some r) {H : Heap} {L : List Ob} (hp : HP H (L)) : Fn T 58 [(Zl E_Graph x0), (E_Ins.e x1), (Zl (EI .u8) x2), (V.int .u8 x3)] H (Q58 L r) := by
  refine Fn.enterE t58 (e0 := (mkE [(0, (Zl E_Graph x0)), (0, (E_Ins.e x1)), (0, (Zl (EI .u8) x2)), (0, (V.int .u8 x3))] 45)) (by kernel_rfl) ?_
  show Run T (.clr [] i58n30) _ _ (finE none [8] (Q58 L r))
  refine Rn.k (mkE [(0, (Zl E_Graph x0)), (0, (E_Ins.e x1)), (0, (Zl (EI .u8) x2)), (0, (V.int .u8 x3))] 45) ?_
  unfold F58 at h
  refine Rn.g ?_
  refine Ro.t 2 ?_
  refine Ro.d (mkE [(0, (Zl E_Graph x0)), (1, (Zl (EI .u8) x2)), (0, (V.int .u8 x3)), (1, (V.fp (E_Ins.e x1)))] 43) ?_
  refine Run.seq ?_
  refine Rn.g ?_
  refine Ro.t 3 ?_
  refine Ro.p (len_fz E_Graph x0) ?_
  obtain ⟨y7368, h7369, h⟩ := bind_some h
  refine RunO.c1 (by kernel_rfl) (by kernel_rfl) (c34 h7369 _) ?_
  refine Ro.t 1 ?_
  refine Ro.d (mkE [(0, (Zl E_Graph x0)), (1, (Zl (EI .u8) x2)), (0, (V.int .u8 x3)), (1, (V.fp (E_Ins.e x1))), (11, (V.bool (!y7368)))] 31) ?_
  rcases tf (!y7368) with h7370 | h7370
  · rw [ite_t h7370] at h; refine Rn.t h7370 ?_
    refine Rn.g ?_
    refine Ro.t 1 ?_
    refine Ro.d (mkE [(8, (V.bool false))] 40) ?_
    refine Run.ret ?_
    have h := Option.some.inj h; subst h
    exact ⟨(V.bool false), (by kernel_rfl), (by kernel_rfl), hp⟩
  · rw [ite_f h7370] at h; refine Rn.f h7370 ?_
    refine Run.skip ?_
    refine Rn.c (mkE [(0, (Zl E_Graph x0)), (1, (Zl (EI .u8) x2)), (0, (V.int .u8 x3)), (1, (V.fp (E_Ins.e x1)))] 43) ?_
    refine Rn.g ?_
    refine Ro.t 3 ?_
    obtain ⟨y7371, h7372, h⟩ := bind_some h
    refine Ro.p (idx_fz E_Graph .i64 h7372) ?_
    refine Ro.t 1 ?_
    refine RunO.alloc hp (by kernel_rfl) ?_
    intro b7373 H hp
    have hp : HP H ((some (b7373, 0), [(ES.e ([] : List UInt8)), (V.fz (List.map (EI .i64).e ([] : List Int))), (V.int .u8 (0 : Int)), (V.fz (List.map (EI .u8).e ([] : List Int))), (V.fz (List.map E_Array.e ([] : List T_Array))), (V.fz (List.map E_Block.e ([] : List T_Block)))]) :: L) := hp
    refine RunO.st hp (by kernel_rfl) 0 (off := 0) (v := (E_Graph.e y7371)) (cs' := [(ES.e y7371.fName), (Zl (EI .i64) y7371.fParams), (V.int .u8 y7371.fResult), (Zl (EI .u8) y7371.fVars), (Zl E_Array y7371.fArrays), (Zl E_Block y7371.fBlocks)]) rfl (by kernel_rfl) (by kernel_rfl) (by kernel_rfl) ?_
    intro H hp
    refine Ro.d (mkE [(2, (Zl (EI .u8) x2)), (0, (V.int .u8 x3)), (5, (V.ptr b7373 0 0))] 39) ?_
    refine Run.seq ?_
    refine Rn.g ?_
    refine Ro.t 1 ?_
    refine Ro.p (hp.ld 0 (off := 1) (n := none) (v := (Zl (EI .i64) y7371.fParams)) rfl (by kernel_rfl)) ?_
    refine Ro.p (len_fz (EI .i64) y7371.fParams) ?_
    refine Ro.t 1 ?_
    refine Ro.d (mkE [(2, (Zl (EI .u8) x2)), (0, (V.int .u8 x3)), (5, (V.ptr b7373 0 0)), (14, (Zl (EI .i64) y7371.fParams)), (0, (i6 (ln y7371.fParams))), (0, (i6 (0 : Int)))] 22) ?_
    refine Run.block ?_
    obtain ⟨o, h7411, h⟩ := bind_some h
    refine (Run.iter (I := I58_1 x2 x3 y7371 b7373 L) (RR := RR58 L) (J := J58_1 x2 x3 y7371 b7373 L) (fun s e h' t hI hf => ?_) FUEL h7411 (by exact ⟨(by kernel_rfl), hp⟩)).mono ?_
    · obtain ⟨rfl, hp⟩ := hI; exact w58_1_b hf hp
    · rintro X e' H hq
      cases o with
      | ret r => cases X <;> first | exact hq.elim | (cases h; exact hq)
      | go a => 
        cases X with | nrm => exact hq.elim | ret => exact hq.elim | ext i => ?_
        obtain ⟨rfl, he, hp⟩ := hq
        dsimp only at h
        refine Run.clrE (ts := [8, 11, 23, 24, 25, 26, 27, 28, 29, 30, 31, 32, 33, 34, 35, 36]) (b := i58n26) (Q := (finE none [8] (Q58 L r))) he ?_
        refine Rn.g ?_
        refine Ro.t 1 ?_
        refine Ro.p (hp.ld 0 (off := 2) (n := none) (v := (V.int .u8 y7371.fResult)) rfl (by kernel_rfl)) ?_
        refine Ro.t 1 ?_
        rcases tf (y7371.fResult == x3) with h7412 | h7412
        · rw [ite_t h7412] at h; refine Ro.p (bool_of h7412) ?_
          refine Ro.t 1 ?_
          refine Ro.p (hp.ld 0 (off := 0) (n := (some 6)) (v := (E_Graph.e y7371)) rfl (by kernel_rfl)) ?_
          refine Ro.t 1 ?_
          refine Ro.p (hp.ld 0 (off := 1) (n := none) (v := (Zl (EI .i64) y7371.fParams)) rfl (by kernel_rfl)) ?_
          obtain ⟨y7413, h7414, h⟩ := bind_some h
          refine RunO.c1 (by kernel_rfl) (by kernel_rfl) (c52 h7414 _) ?_
          refine Ro.t 1 ?_
          obtain ⟨y7415, h7416, h⟩ := bind_some h
          refine RunO.c1 (by kernel_rfl) (by kernel_rfl) (c77 h7416 _) ?_
          refine Ro.t 2 ?_
          refine Ro.d (mkE [(8, (V.bool y7415))] 40) ?_
          refine Run.ret ?_
          have h := Option.some.inj h; subst h
          have hp := hp.del 0
          exact ⟨(V.bool y7415), (by kernel_rfl), (by kernel_rfl), hp⟩
        · rw [ite_f h7412] at h; refine Ro.p (bool_of h7412) ?_
          refine Ro.t 9 ?_
          refine Ro.d (mkE [(8, (V.bool false))] 40) ?_
          refine Run.ret ?_
          have h := Option.some.inj h; subst h
          have hp := hp.del 0
          exact ⟨(V.bool false), (by kernel_rfl), (by kernel_rfl), hp⟩

theorem c58 {x0 : (List T_Graph)} {x1 : T_Ins} {x2 : (List Int)} {x3 : Int} {r : Bool} (h : F58 x0 x1 x2 x3 = some r) (s : Bool) : Fn T 58 [(Zl E_Graph x0), (E_Ins.e x1), (Zl (EI .u8) x2), (V.int .u8 x3)] [] (fun v hh => deep s hh deepN v = some (EB.e r)) := by
  refine (w58 h HP.nil).mono ?_
  rintro v hh ⟨rfl, hp⟩
  exact EB.hd s hh 38 _ (.inr rfl)

/- smithy/graph.Type -/
abbrev Q31 (L : List Ob) (r : (Int × Bool)) : V → Heap → Prop := fun v h => v = .tup [(EI .u8).e r.1, EB.e r.2] ∧ HP h (L)
abbrev RR31 (L : List Ob) (r : (Int × Bool)) : List V → Heap → Prop := fun e h => endR none [6, 7] (Q31 L r) e h

def F31_j2 (y7471 : Int) (y7506 : Bool) : Option (Int × Bool) :=
  if (!y7506) then
    some ((0 : Int), false)
  else
    some (y7471, true)

theorem w31_j2 {y7471 : Int} {y7506 : Bool} {r : (Int × Bool)} (h : F31_j2 y7471 y7506 = some r) {b7470 : Nat} {H : Heap} {L : List Ob} (hp : HP H ((some (b7470, 0), [(V.int .u8 y7471)]) :: L)) :
    Run T i31n52 (mkE [(9, (V.ptr b7470 0 0)), (0, (V.bool y7506))] 94) H (finE none [6, 7] (Q31 L r)) := by
  unfold F31_j2 at h
  refine Run.seq ?_
  refine Rn.g ?_
  refine Ro.t 2 ?_
  refine Ro.d (mkE [(9, (V.ptr b7470 0 0)), (93, (V.bool (!y7506)))] 1) ?_
  rcases tf (!y7506) with h7508 | h7508
  · rw [ite_t h7508] at h; refine Rn.t h7508 ?_
    refine Rn.g ?_
    refine Ro.t 2 ?_
    refine Ro.d (mkE [(6, (V.int .u8 (0 : Int))), (0, (V.bool false))] 97) ?_
    refine Run.ret ?_
    have h := Option.some.inj h; subst h
    have hp := hp.del 0
    exact ⟨(V.tup [(V.int .u8 (0 : Int)), (V.bool false)]), (by kernel_rfl), (by kernel_rfl), hp⟩
  · rw [ite_f h7508] at h; refine Rn.f h7508 ?_
    refine Run.skip ?_
    refine Rn.c (mkE [(9, (V.ptr b7470 0 0))] 95) ?_
    refine Rn.g ?_
    refine Ro.p (hp.ld 0 (off := 0) (n := none) (v := (V.int .u8 y7471)) rfl (by kernel_rfl)) ?_
    refine Ro.t 2 ?_
    refine Ro.d (mkE [(6, (V.int .u8 y7471)), (0, (V.bool true))] 97) ?_
    refine Run.ret ?_
    have h := Option.some.inj h; subst h
    have hp := hp.del 0
    exact ⟨(V.tup [(V.int .u8 y7471), (V.bool true)]), (by kernel_rfl), (by kernel_rfl), hp⟩

def F31_j3 (x0 : (List T_Graph)) (x1 : T_Graph) (x2 : T_Ins) (y7462 : (List Int)) (y7471 : Int) (y7510 : Bool) : Option (Int × Bool) :=
  if y7510 then
    (F53 y7462 y7471).bind fun y7512 =>
    F31_j2 y7471 ((!y7512))
  else
    if (x2.fKind == (2 : Int)) then
      (F55 y7471 x2.fBits).bind fun y7515 =>
      F31_j2 y7471 (y7515)
    else
      if (x2.fKind == (4 : Int)) then
        (F56 x2.fOp y7462 y7471).bind fun y7518 =>
        F31_j2 y7471 (y7518)
      else
        if (x2.fKind == (5 : Int)) then
          (idx y7462 (0 : Int)).bind fun y7521 =>
          (F57 y7471 y7521).bind fun y7523 =>
          F31_j2 y7471 (y7523)
        else
          if (x2.fKind == (6 : Int)) then
            (idx y7462 (0 : Int)).bind fun y7526 =>
            if (y7526 == (4 : Int)) then
              (idx x1.fArrays x2.fRef).bind fun y7529 =>
              F31_j2 y7471 ((y7471 == y7529.fType))
            else
              F31_j2 y7471 (false)
          else
            if (x2.fKind == (7 : Int)) then
              (idx y7462 (0 : Int)).bind fun y7532 =>
              if (y7532 == (4 : Int)) then
                (idx y7462 (1 : Int)).bind fun y7535 =>
                (idx x1.fArrays x2.fRef).bind fun y7537 =>
                F31_j2 y7471 ((y7535 == y7537.fType))
              else
                F31_j2 y7471 (false)
            else
              if (x2.fKind == (9 : Int)) then
                (F58 x0 x2 y7462 y7471).bind fun y7540 =>
                F31_j2 y7471 (y7540)
              else
                F31_j2 y7471 (true)

theorem w31_j3 {x0 : (List T_Graph)} {x1 : T_Graph} {x2 : T_Ins} {y7462 : (List Int)} {y7471 : Int} {y7510 : Bool} {r : (Int × Bool)} (h : F31_j3 x0 x1 x2 y7462 y7471 y7510 = some r) {b7470 : Nat} {H : Heap} {L : List Ob} (hp : HP H ((some (b7470, 0), [(V.int .u8 y7471)]) :: L)) :
    Run T i31n41 (mkE [(0, (Zl E_Graph x0)), (3, (V.fp (E_Graph.e x1))), (0, (V.fp (E_Ins.e x2))), (2, (Zl (EI .u8) y7462)), (0, (V.ptr b7470 0 0)), (0, (V.bool true)), (20, (V.int .u8 x2.fKind)), (0, (V.bool y7510))] 72) H (blk 0 (thn T (.clr [0, 4, 5, 8, 30, 31, 32, 33, 34, 35, 36, 37, 38, 39, 40, 41, 42, 43, 44, 45, 46, 47, 48, 49, 50, 51, 52, 53, 54, 55, 56, 57, 58, 59, 60, 61, 62, 63, 64, 65, 66, 67, 68, 69, 70, 71, 72, 73, 74, 75, 76, 77, 78, 79, 80, 81, 82, 83, 84, 85, 86, 87, 88, 89, 90, 91, 92, 93, 94, 95, 96, 97, 98, 99, 100, 101] i31n52) (finE none [6, 7] (Q31 L r)))) := by
  unfold F31_j3 at h
  rcases tf y7510 with h7511 | h7511
  · rw [ite_t h7511] at h; refine Rn.t h7511 ?_
    refine Run.rgn ?_
    refine Ro.t 2 ?_
    obtain ⟨y7512, h7513, h⟩ := bind_some h
    have hp : HP _ ((some (b7470, 0), [(V.int .u8 y7471)]) :: L) := hp
    refine RunO.h1 (n := 53) (caps := []) (us := [(Zl (EI .u8) y7462), (V.fn 54 [(V.ptr b7470 0 0)])]) (by kernel_rfl) (by kernel_rfl) (by kernel_rfl) ((w53 h7513 hp).mono ?_)
    rintro _ H ⟨rfl, hp⟩
    have hp : HP H ((some (b7470, 0), [(V.int .u8 y7471)]) :: L) := hp
    refine Ro.t 2 ?_
    refine RunO.nil ?_
    refine Rn.c (mkE [(9, (V.ptr b7470 0 0)), (0, (V.bool (!y7512)))] 94) ?_
    exact w31_j2 h hp
  · rw [ite_f h7511] at h; refine Rn.f h7511 ?_
    refine Rn.g ?_
    refine Ro.t 2 ?_
    refine Ro.d (mkE [(0, (Zl E_Graph x0)), (3, (V.fp (E_Graph.e x1))), (0, (V.fp (E_Ins.e x2))), (2, (Zl (EI .u8) y7462)), (0, (V.ptr b7470 0 0)), (0, (V.bool true)), (20, (V.int .u8 x2.fKind)), (7, (V.bool (x2.fKind == (2 : Int))))] 65) ?_
    rcases tf (x2.fKind == (2 : Int)) with h7514 | h7514
    · rw [ite_t h7514] at h; refine Rn.t h7514 ?_
      refine Run.rgn ?_
      refine Ro.p (hp.ld 0 (off := 0) (n := none) (v := (V.int .u8 y7471)) rfl (by kernel_rfl)) ?_
      refine Ro.t 2 ?_
      obtain ⟨y7515, h7516, h⟩ := bind_some h
      refine RunO.c1 (by kernel_rfl) (by kernel_rfl) (c55 h7516 _) ?_
      refine Ro.t 1 ?_
      refine RunO.nil ?_
      refine Rn.c (mkE [(9, (V.ptr b7470 0 0)), (0, (V.bool y7515))] 94) ?_
      exact w31_j2 h hp
    · rw [ite_f h7514] at h; refine Rn.f h7514 ?_
      refine Rn.g ?_
      refine Ro.t 2 ?_
      refine Ro.d (mkE [(0, (Zl E_Graph x0)), (3, (V.fp (E_Graph.e x1))), (0, (V.fp (E_Ins.e x2))), (2, (Zl (EI .u8) y7462)), (0, (V.ptr b7470 0 0)), (0, (V.bool true)), (20, (V.int .u8 x2.fKind)), (13, (V.bool (x2.fKind == (4 : Int))))] 59) ?_
      rcases tf (x2.fKind == (4 : Int)) with h7517 | h7517
      · rw [ite_t h7517] at h; refine Rn.t h7517 ?_
        refine Run.rgn ?_
        refine Ro.t 3 ?_
        refine Ro.p (hp.ld 0 (off := 0) (n := none) (v := (V.int .u8 y7471)) rfl (by kernel_rfl)) ?_
        obtain ⟨y7518, h7519, h⟩ := bind_some h
        refine RunO.c1 (by kernel_rfl) (by kernel_rfl) (c56 h7519 _) ?_
        refine Ro.t 1 ?_
        refine RunO.nil ?_
        refine Rn.c (mkE [(9, (V.ptr b7470 0 0)), (0, (V.bool y7518))] 94) ?_
        exact w31_j2 h hp
      · rw [ite_f h7517] at h; refine Rn.f h7517 ?_
        refine Rn.g ?_
        refine Ro.t 2 ?_
        refine Ro.d (mkE [(0, (Zl E_Graph x0)), (3, (V.fp (E_Graph.e x1))), (0, (V.fp (E_Ins.e x2))), (2, (Zl (EI .u8) y7462)), (0, (V.ptr b7470 0 0)), (0, (V.bool true)), (20, (V.int .u8 x2.fKind)), (20, (V.bool (x2.fKind == (5 : Int))))] 52) ?_
        rcases tf (x2.fKind == (5 : Int)) with h7520 | h7520
        · rw [ite_t h7520] at h; refine Rn.t h7520 ?_
          refine Run.rgn ?_
          refine Ro.p (hp.ld 0 (off := 0) (n := none) (v := (V.int .u8 y7471)) rfl (by kernel_rfl)) ?_
          refine Ro.t 1 ?_
          obtain ⟨y7521, h7522, h⟩ := bind_some h
          refine Ro.p (idx_fz (EI .u8) .i64 h7522) ?_
          refine Ro.t 1 ?_
          obtain ⟨y7523, h7524, h⟩ := bind_some h
          refine RunO.c1 (by kernel_rfl) (by kernel_rfl) (c57 h7524 _) ?_
          refine Ro.t 1 ?_
          refine RunO.nil ?_
          refine Rn.c (mkE [(9, (V.ptr b7470 0 0)), (0, (V.bool y7523))] 94) ?_
          exact w31_j2 h hp
        · rw [ite_f h7520] at h; refine Rn.f h7520 ?_
          refine Rn.g ?_
          refine Ro.t 2 ?_
          refine Ro.d (mkE [(0, (Zl E_Graph x0)), (3, (V.fp (E_Graph.e x1))), (0, (V.fp (E_Ins.e x2))), (2, (Zl (EI .u8) y7462)), (0, (V.ptr b7470 0 0)), (0, (V.bool true)), (20, (V.int .u8 x2.fKind)), (27, (V.bool (x2.fKind == (6 : Int))))] 45) ?_
          rcases tf (x2.fKind == (6 : Int)) with h7525 | h7525
          · rw [ite_t h7525] at h; refine Rn.t h7525 ?_
            refine Run.rgn ?_
            refine Ro.t 1 ?_
            obtain ⟨y7526, h7527, h⟩ := bind_some h
            refine Ro.p (idx_fz (EI .u8) .i64 h7527) ?_
            refine Ro.t 1 ?_
            rcases tf (y7526 == (4 : Int)) with h7528 | h7528
            · rw [ite_t h7528] at h; refine Ro.p (bool_of h7528) ?_
              refine Ro.t 1 ?_
              refine Ro.p (hp.ld 0 (off := 0) (n := none) (v := (V.int .u8 y7471)) rfl (by kernel_rfl)) ?_
              refine Ro.t 4 ?_
              obtain ⟨y7529, h7530, h⟩ := bind_some h
              refine Ro.p (idx_fz E_Array .i64 h7530) ?_
              refine Ro.t 5 ?_
              refine RunO.nil ?_
              refine Rn.c (mkE [(9, (V.ptr b7470 0 0)), (0, (V.bool (y7471 == y7529.fType)))] 94) ?_
              exact w31_j2 h hp
            · rw [ite_f h7528] at h; refine Ro.p (bool_of h7528) ?_
              refine Ro.t 12 ?_
              refine RunO.nil ?_
              refine Rn.c (mkE [(9, (V.ptr b7470 0 0)), (0, (V.bool false))] 94) ?_
              exact w31_j2 h hp
          · rw [ite_f h7525] at h; refine Rn.f h7525 ?_
            refine Rn.g ?_
            refine Ro.t 2 ?_
            refine Ro.d (mkE [(0, (Zl E_Graph x0)), (3, (V.fp (E_Graph.e x1))), (0, (V.fp (E_Ins.e x2))), (2, (Zl (EI .u8) y7462)), (0, (V.ptr b7470 0 0)), (0, (V.bool true)), (20, (V.int .u8 x2.fKind)), (44, (V.bool (x2.fKind == (7 : Int))))] 28) ?_
            rcases tf (x2.fKind == (7 : Int)) with h7531 | h7531
            · rw [ite_t h7531] at h; refine Rn.t h7531 ?_
              refine Run.rgn ?_
              refine Ro.t 1 ?_
              obtain ⟨y7532, h7533, h⟩ := bind_some h
              refine Ro.p (idx_fz (EI .u8) .i64 h7533) ?_
              refine Ro.t 1 ?_
              rcases tf (y7532 == (4 : Int)) with h7534 | h7534
              · rw [ite_t h7534] at h; refine Ro.p (bool_of h7534) ?_
                refine Ro.t 2 ?_
                obtain ⟨y7535, h7536, h⟩ := bind_some h
                refine Ro.p (idx_fz (EI .u8) .i64 h7536) ?_
                refine Ro.t 5 ?_
                obtain ⟨y7537, h7538, h⟩ := bind_some h
                refine Ro.p (idx_fz E_Array .i64 h7538) ?_
                refine Ro.t 5 ?_
                refine RunO.nil ?_
                refine Rn.c (mkE [(9, (V.ptr b7470 0 0)), (0, (V.bool (y7535 == y7537.fType)))] 94) ?_
                exact w31_j2 h hp
              · rw [ite_f h7534] at h; refine Ro.p (bool_of h7534) ?_
                refine Ro.t 14 ?_
                refine RunO.nil ?_
                refine Rn.c (mkE [(9, (V.ptr b7470 0 0)), (0, (V.bool false))] 94) ?_
                exact w31_j2 h hp
            · rw [ite_f h7531] at h; refine Rn.f h7531 ?_
              refine Rn.g ?_
              refine Ro.t 2 ?_
              refine Ro.d (mkE [(0, (Zl E_Graph x0)), (4, (V.fp (E_Ins.e x2))), (2, (Zl (EI .u8) y7462)), (0, (V.ptr b7470 0 0)), (0, (V.bool true)), (84, (V.bool (x2.fKind == (9 : Int))))] 9) ?_
              rcases tf (x2.fKind == (9 : Int)) with h7539 | h7539
              · rw [ite_t h7539] at h; refine Rn.t h7539 ?_
                refine Run.rgn ?_
                refine Ro.t 3 ?_
                refine Ro.p (hp.ld 0 (off := 0) (n := none) (v := (V.int .u8 y7471)) rfl (by kernel_rfl)) ?_
                obtain ⟨y7540, h7541, h⟩ := bind_some h
                refine RunO.c1 (by kernel_rfl) (by kernel_rfl) (c58 h7541 _) ?_
                refine Ro.t 1 ?_
                refine RunO.nil ?_
                refine Rn.c (mkE [(9, (V.ptr b7470 0 0)), (0, (V.bool y7540))] 94) ?_
                exact w31_j2 h hp
              · rw [ite_f h7539] at h; refine Rn.f h7539 ?_
                refine Run.skip ?_
                refine Rn.c (mkE [(9, (V.ptr b7470 0 0)), (0, (V.bool true))] 94) ?_
                exact w31_j2 h hp

def F31_j1 (x0 : (List T_Graph)) (x1 : T_Graph) (x2 : T_Ins) (y7462 : (List Int)) (y7471 : Int) : Option (Int × Bool) :=
  if (x2.fKind == (1 : Int)) then
    F31_j3 x0 x1 x2 y7462 y7471 ((x2.fKind == (1 : Int)))
  else
    F31_j3 x0 x1 x2 y7462 y7471 ((x2.fKind == (3 : Int)))

theorem w31_j1 {x0 : (List T_Graph)} {x1 : T_Graph} {x2 : T_Ins} {y7462 : (List Int)} {y7471 : Int} {r : (Int × Bool)} (h : F31_j1 x0 x1 x2 y7462 y7471 = some r) {b7470 : Nat} {H : Heap} {L : List Ob} (hp : HP H ((some (b7470, 0), [(V.int .u8 y7471)]) :: L)) :
    Run T i31n53 (mkE [(0, (Zl E_Graph x0)), (3, (V.fp (E_Graph.e x1))), (0, (V.fp (E_Ins.e x2))), (2, (Zl (EI .u8) y7462)), (0, (V.ptr b7470 0 0)), (0, (V.bool true))] 94) H (finE none [6, 7] (Q31 L r)) := by
  unfold F31_j1 at h
  refine Run.seq ?_
  refine Rn.g ?_
  refine Ro.t 2 ?_
  refine Ro.d (mkE [(0, (Zl E_Graph x0)), (3, (V.fp (E_Graph.e x1))), (0, (V.fp (E_Ins.e x2))), (2, (Zl (EI .u8) y7462)), (0, (V.ptr b7470 0 0)), (0, (V.bool true)), (20, (V.int .u8 x2.fKind))] 73) ?_
  refine Run.block ?_
  refine Run.seq ?_
  refine Rn.g ?_
  refine Ro.t 2 ?_
  refine Ro.d (mkE [(0, (Zl E_Graph x0)), (3, (V.fp (E_Graph.e x1))), (0, (V.fp (E_Ins.e x2))), (2, (Zl (EI .u8) y7462)), (0, (V.ptr b7470 0 0)), (0, (V.bool true)), (20, (V.int .u8 x2.fKind)), (0, (V.bool (x2.fKind == (1 : Int))))] 72) ?_
  rcases tf (x2.fKind == (1 : Int)) with h7542 | h7542
  · rw [ite_t h7542] at h; refine Rn.t h7542 ?_
    refine Run.skip ?_
    refine Rn.c (mkE [(0, (Zl E_Graph x0)), (3, (V.fp (E_Graph.e x1))), (0, (V.fp (E_Ins.e x2))), (2, (Zl (EI .u8) y7462)), (0, (V.ptr b7470 0 0)), (0, (V.bool true)), (20, (V.int .u8 x2.fKind)), (0, (V.bool (x2.fKind == (1 : Int))))] 72) ?_
    exact w31_j3 h hp
  · rw [ite_f h7542] at h; refine Rn.f h7542 ?_
    refine Run.rgn ?_
    refine Ro.t 2 ?_
    refine Ro.d (mkE [(0, (Zl E_Graph x0)), (3, (V.fp (E_Graph.e x1))), (0, (V.fp (E_Ins.e x2))), (2, (Zl (EI .u8) y7462)), (0, (V.ptr b7470 0 0)), (0, (V.bool true)), (20, (V.int .u8 x2.fKind)), (0, (V.bool (x2.fKind == (3 : Int))))] 72) ?_
    exact w31_j3 h hp

def F31 (x0 : (List T_Graph)) (x1 : T_Graph) (x2 : T_Ins) : Option (Int × Bool) :=
  (F51 x1 x2).bind fun y7459 =>
  if (!y7459) then
    some ((0 : Int), false)
  else
    (F52 x1 x2.fArgs).bind fun y7462 =>
    (idx G0 x2.fKind).bind fun y7543 =>
    if y7543.fdst then
      (idx x1.fVars x2.fDst).bind fun y7546 =>
      F31_j1 x0 x1 x2 y7462 (y7546)
    else
      F31_j1 x0 x1 x2 y7462 ((0 : Int))

theorem w31 {x0 : (List T_Graph)} {x1 : T_Graph} {x2 : T_Ins} {r : (Int × Bool)} (h : F31 x0 x1 x2 = some r) {H : Heap} {L : List Ob} (hp : HP H (L)) : Fn T 31 [(Zl E_Graph x0), (E_Graph.e x1), (E_Ins.e x2)] H (Q31 L r) := by
  refine Fn.enterE t31 (e0 := (mkE [(0, (Zl E_Graph x0)), (0, (E_Graph.e x1)), (0, (E_Ins.e x2))] 102)) (by kernel_rfl) ?_
  show Run T (.clr [] i31n57) _ _ (finE none [6, 7] (Q31 L r))
  refine Rn.k (mkE [(0, (Zl E_Graph x0)), (0, (E_Graph.e x1)), (0, (E_Ins.e x2))] 102) ?_
  unfold F31 at h
  refine Rn.g ?_
  refine Ro.t 4 ?_
  refine Ro.d (mkE [(0, (Zl E_Graph x0)), (3, (V.fp (E_Graph.e x1))), (0, (V.fp (E_Ins.e x2)))] 99) ?_
  refine Run.seq ?_
  refine Rn.g ?_
  refine Ro.t 2 ?_
  obtain ⟨y7459, h7460, h⟩ := bind_some h
  refine RunO.c1 (by kernel_rfl) (by kernel_rfl) (c51 h7460 _) ?_
  refine Ro.t 1 ?_
  refine Ro.d (mkE [(0, (Zl E_Graph x0)), (3, (V.fp (E_Graph.e x1))), (0, (V.fp (E_Ins.e x2))), (8, (V.bool (!y7459)))] 90) ?_
  rcases tf (!y7459) with h7461 | h7461
  · rw [ite_t h7461] at h; refine Rn.t h7461 ?_
    refine Rn.g ?_
    refine Ro.t 2 ?_
    refine Ro.d (mkE [(6, (V.int .u8 (0 : Int))), (0, (V.bool false))] 97) ?_
    refine Run.ret ?_
    have h := Option.some.inj h; subst h
    exact ⟨(V.tup [(V.int .u8 (0 : Int)), (V.bool false)]), (by kernel_rfl), (by kernel_rfl), hp⟩
  · rw [ite_f h7461] at h; refine Rn.f h7461 ?_
    refine Run.skip ?_
    refine Rn.c (mkE [(0, (Zl E_Graph x0)), (3, (V.fp (E_Graph.e x1))), (0, (V.fp (E_Ins.e x2)))] 99) ?_
    refine Rn.g ?_
    refine Ro.t 3 ?_
    obtain ⟨y7462, h7463, h⟩ := bind_some h
    refine RunO.c1 (by kernel_rfl) (by kernel_rfl) (c52 h7463 _) ?_
    refine RunO.alloc hp (by kernel_rfl) ?_
    intro b7464 H hp
    have hp : HP H ((some (b7464, 0), [(V.int .u8 (0 : Int))]) :: L) := hp
    refine Ro.t 1 ?_
    refine RunO.st hp (by kernel_rfl) 0 (off := 0) (v := (V.int .u8 (0 : Int))) (cs' := [(V.int .u8 (0 : Int))]) rfl (by kernel_rfl) (by kernel_rfl) (by kernel_rfl) ?_
    intro H hp
    refine Ro.t 1 ?_
    refine Ro.d (mkE [(0, (Zl E_Graph x0)), (3, (V.fp (E_Graph.e x1))), (0, (V.fp (E_Ins.e x2))), (2, (Zl (EI .u8) y7462)), (0, (V.ptr b7464 0 0)), (0, (V.bool true))] 94) ?_
    refine Run.seq ?_
    refine Rn.g ?_
    refine Ro.t 2 ?_
    obtain ⟨y7543, h7544, h⟩ := bind_some h
    refine Ro.p (idxp_fp E_form (l := G0) .u8 (n := 11) (cs := [V.bool false, V.bool false, V.bool false, V.bool false, i6 0, V.bool true, V.bool false, V.bool false, V.bool false, i6 (-1), V.bool true, V.bool false, V.bool true, V.bool false, i6 0, V.bool true, V.bool false, V.bool false, V.bool false, i6 1, V.bool true, V.bool true, V.bool false, V.bool false, i6 (-1), V.bool true, V.bool false, V.bool false, V.bool false, i6 1, V.bool true, V.bool false, V.bool false, V.bool true, i6 1, V.bool false, V.bool false, V.bool false, V.bool true, i6 2, V.bool false, V.bool false, V.bool false, V.bool true, i6 0, V.bool true, V.bool false, V.bool false, V.bool true, i6 (-1), V.bool false, V.bool false, V.bool false, V.bool false, i6 1]) (by kernel_rfl) (by kernel_rfl) h7544) ?_
    refine Ro.t 2 ?_
    refine Ro.d (mkE [(0, (Zl E_Graph x0)), (3, (V.fp (E_Graph.e x1))), (0, (V.fp (E_Ins.e x2))), (2, (Zl (EI .u8) y7462)), (0, (V.ptr b7464 0 0)), (0, (V.bool true)), (12, (V.bool y7543.fdst))] 81) ?_
    rcases tf y7543.fdst with h7545 | h7545
    · rw [ite_t h7545] at h; refine Rn.t h7545 ?_
      refine Run.rgn ?_
      refine Ro.t 4 ?_
      obtain ⟨y7546, h7547, h⟩ := bind_some h
      refine Ro.p (idx_fz (EI .u8) .i64 h7547) ?_
      refine Ro.t 1 ?_
      refine RunO.st hp (by kernel_rfl) 0 (off := 0) (v := (V.int .u8 y7546)) (cs' := [(V.int .u8 y7546)]) rfl (by kernel_rfl) (by kernel_rfl) (by kernel_rfl) ?_
      intro H hp
      refine Ro.d (mkE [(0, (Zl E_Graph x0)), (3, (V.fp (E_Graph.e x1))), (0, (V.fp (E_Ins.e x2))), (2, (Zl (EI .u8) y7462)), (0, (V.ptr b7464 0 0)), (0, (V.bool true))] 94) ?_
      exact w31_j1 h hp
    · rw [ite_f h7545] at h; refine Rn.f h7545 ?_
      refine Run.skip ?_
      refine Rn.c (mkE [(0, (Zl E_Graph x0)), (3, (V.fp (E_Graph.e x1))), (0, (V.fp (E_Ins.e x2))), (2, (Zl (EI .u8) y7462)), (0, (V.ptr b7464 0 0)), (0, (V.bool true))] 94) ?_
      exact w31_j1 h hp

theorem c31 {x0 : (List T_Graph)} {x1 : T_Graph} {x2 : T_Ins} {r : (Int × Bool)} (h : F31 x0 x1 x2 = some r) (s : Bool) : Fn T 31 [(Zl E_Graph x0), (E_Graph.e x1), (E_Ins.e x2)] [] (fun v hh => deep s hh deepN v = some (.tup [(EI .u8).e r.1, EB.e r.2])) := by
  refine (w31 h HP.nil).mono ?_
  rintro v hh ⟨rfl, hp⟩
  exact congrArg (Option.map V.tup) (omapc ((EI .u8).hd s hh 37 _ (.inr rfl)) (omapc (EB.hd s hh 37 _ (.inr rfl)) omapn))

/- smithy/graph.right -/
abbrev Q32 (L : List Ob) (r : Bool) : V → Heap → Prop := fun v h => v = EB.e r ∧ HP h (L)
abbrev RR32 (L : List Ob) (r : Bool) : List V → Heap → Prop := fun e h => endR none [4] (Q32 L r) e h

abbrev I32_1 (x0 : (List T_Graph)) (x1 : T_Graph) (y7753 : (List (List Int))) (L : List Ob) : (Int) → List V → Heap → Prop := fun s e h => e = (mkE [(0, (Zl E_Graph x0)), (2, (V.fp (E_Graph.e x1))), (1, (V.fz (List.map (EL (EI .i64)).e y7753))), (12, (Zl E_Block x1.fBlocks)), (0, (i6 (ln x1.fBlocks))), (0, (i6 s))] 55) ∧ HP h (L)

abbrev J32_1 (x0 : (List T_Graph)) (x1 : T_Graph) (y7753 : (List (List Int))) (L : List Ob) : Unit → Nat → List V → Heap → Prop := fun a i e h => i = 0 ∧ clrEnv [0, 3, 4, 5, 6, 7, 9, 10, 11, 17, 18, 19, 20, 21, 22, 23, 24, 25, 26, 27, 28, 29, 30, 31, 32, 33, 34, 35, 36, 37, 38, 39, 40, 41, 42, 43, 44, 45, 46, 47, 48, 49, 50, 51, 52, 53, 54, 55, 56, 57, 58, 59, 60, 61, 62, 63, 64, 65, 66, 67, 68, 69, 70, 71, 72, 73, 74, 75] e = (mkE [] 76) ∧ HP h (L)

abbrev I32_2 (x0 : (List T_Graph)) (x1 : T_Graph) (y7753 : (List (List Int))) (y7869 : Int) (y8048 : T_Block) (L : List Ob) : (Int) → List V → Heap → Prop := fun s e h => e = (mkE [(0, (Zl E_Graph x0)), (2, (V.fp (E_Graph.e x1))), (1, (V.fz (List.map (EL (EI .i64)).e y7753))), (12, (Zl E_Block x1.fBlocks)), (0, (i6 (ln x1.fBlocks))), (0, (i6 y7869)), (38, (Zl E_Ins y8048.fIns)), (0, (i6 (ln y8048.fIns))), (0, (i6 s))] 14) ∧ HP h (L)

abbrev J32_2 (x0 : (List T_Graph)) (x1 : T_Graph) (y7753 : (List (List Int))) (y7869 : Int) (y8048 : T_Block) (L : List Ob) : Unit → Nat → List V → Heap → Prop := fun a i e h => i = 2 ∧ clrEnv [4, 6, 7, 9, 10, 11, 22, 23, 24, 25, 26, 27, 28, 29, 30, 31, 32, 33, 34, 35, 36, 37, 38, 39, 40, 41, 42, 43, 44, 45, 46, 47, 48, 49, 50, 51, 52, 53, 54, 55, 56, 57, 58, 59, 60, 61, 62, 63, 64, 65, 66, 67, 68, 69, 70, 71, 72, 73, 74] e = (mkE [(0, (Zl E_Graph x0)), (2, (V.fp (E_Graph.e x1))), (1, (V.fz (List.map (EL (EI .i64)).e y7753))), (12, (Zl E_Block x1.fBlocks)), (0, (i6 (ln x1.fBlocks))), (0, (i6 y7869))] 55) ∧ HP h (L)

def F32_2_b (x0 : (List T_Graph)) (x1 : T_Graph) (y7753 : (List (List Int))) (y7869 : Int) (y8048 : T_Block) (y8078 : Int) : Option (Stp (Int) Bool Unit) :=
  if (decide (y8078 < ((List.length y8048.fIns : Nat) : Int))) then
    (idx y8048.fIns y8078).bind fun y8101 =>
    (F31 x0 x1 y8101).bind fun y8104 =>
    if (!y8104.2) then
      some (.ret false)
    else
      some (.next ((IntKind.i64.wrap (y8078 + (1 : Int)))))
  else
    some (.go ())

theorem w32_2_b {x0 : (List T_Graph)} {x1 : T_Graph} {y7753 : (List (List Int))} {y7869 : Int} {y8048 : T_Block} {y8078 : Int} {t : (Stp (Int) Bool Unit)} (h : F32_2_b x0 x1 y7753 y7869 y8048 y8078 = some t) {H : Heap} {L : List Ob} (hp : HP H (L)) :
    Run T i32n32 (mkE [(0, (Zl E_Graph x0)), (2, (V.fp (E_Graph.e x1))), (1, (V.fz (List.map (EL (EI .i64)).e y7753))), (12, (Zl E_Block x1.fBlocks)), (0, (i6 (ln x1.fBlocks))), (0, (i6 y7869)), (38, (Zl E_Ins y8048.fIns)), (0, (i6 (ln y8048.fIns))), (0, (i6 y8078))] 14) H (stp [4, 9, 10, 11, 62, 63, 64, 65, 66, 67, 68, 69, 70, 71, 72, 73, 74] (I32_2 x0 x1 y7753 y7869 y8048 L) (RR32 L) (J32_2 x0 x1 y7753 y7869 y8048 L) t) := by
  unfold F32_2_b at h
  refine Rn.g ?_
  refine Ro.t 1 ?_
  refine Ro.d (mkE [(0, (Zl E_Graph x0)), (2, (V.fp (E_Graph.e x1))), (1, (V.fz (List.map (EL (EI .i64)).e y7753))), (12, (Zl E_Block x1.fBlocks)), (0, (i6 (ln x1.fBlocks))), (0, (i6 y7869)), (38, (Zl E_Ins y8048.fIns)), (0, (i6 (ln y8048.fIns))), (0, (i6 y8078)), (0, (V.bool (decide (y8078 < (ln y8048.fIns)))))] 13) ?_
  refine Run.seq ?_
  rcases tf (decide (y8078 < (ln y8048.fIns))) with h8094 | h8094
  · rw [ite_t h8094] at h; refine Rn.t h8094 ?_
    refine Run.skip ?_
    refine Rn.c (mkE [(0, (Zl E_Graph x0)), (2, (V.fp (E_Graph.e x1))), (1, (V.fz (List.map (EL (EI .i64)).e y7753))), (12, (Zl E_Block x1.fBlocks)), (0, (i6 (ln x1.fBlocks))), (0, (i6 y7869)), (38, (Zl E_Ins y8048.fIns)), (0, (i6 (ln y8048.fIns))), (0, (i6 y8078))] 14) ?_
    refine Run.seq ?_
    refine Run.block ?_
    refine Rn.g ?_
    obtain ⟨y8101, h8102, h⟩ := bind_some h
    refine Ro.p (idx_fz E_Ins .i64 h8102) ?_
    refine Ro.t 1 ?_
    refine RunO.alloc hp (by kernel_rfl) ?_
    intro b8103 H hp
    have hp : HP H ((some (b8103, 0), [(V.int .u8 (0 : Int)), (V.int .u8 (0 : Int)), (i6 (0 : Int)), (V.fz (List.map (EI .i64).e ([] : List Int))), (V.int .u64 (0 : Int)), (i6 (0 : Int))]) :: L) := hp
    refine RunO.st hp (by kernel_rfl) 0 (off := 0) (v := (E_Ins.e y8101)) (cs' := [(V.int .u8 y8101.fKind), (V.int .u8 y8101.fOp), (i6 y8101.fDst), (Zl (EI .i64) y8101.fArgs), (V.int .u64 y8101.fBits), (i6 y8101.fRef)]) rfl (by kernel_rfl) (by kernel_rfl) (by kernel_rfl) ?_
    intro H hp
    refine Ro.d (mkE [(0, (Zl E_Graph x0)), (2, (V.fp (E_Graph.e x1))), (1, (V.fz (List.map (EL (EI .i64)).e y7753))), (3, (V.ptr b8103 0 0)), (8, (Zl E_Block x1.fBlocks)), (0, (i6 (ln x1.fBlocks))), (0, (i6 y7869)), (38, (Zl E_Ins y8048.fIns)), (0, (i6 (ln y8048.fIns))), (0, (i6 y8078))] 14) ?_
    refine Rn.g ?_
    refine Ro.t 2 ?_
    refine Ro.p (hp.ld 0 (off := 0) (n := (some 6)) (v := (E_Ins.e y8101)) rfl (by kernel_rfl)) ?_
    obtain ⟨y8104, h8105, h⟩ := bind_some h
    refine RunO.c1 (by kernel_rfl) (by kernel_rfl) (c31 h8105 _) ?_
    refine Ro.t 5 ?_
    refine Ro.d (mkE [(0, (Zl E_Graph x0)), (2, (V.fp (E_Graph.e x1))), (1, (V.fz (List.map (EL (EI .i64)).e y7753))), (5, (V.bool y8104.2)), (6, (Zl E_Block x1.fBlocks)), (0, (i6 (ln x1.fBlocks))), (0, (i6 y7869)), (38, (Zl E_Ins y8048.fIns)), (0, (i6 (ln y8048.fIns))), (0, (i6 y8078))] 14) ?_
    refine Rn.g ?_
    refine Ro.t 2 ?_
    refine Ro.d (mkE [(0, (Zl E_Graph x0)), (2, (V.fp (E_Graph.e x1))), (1, (V.fz (List.map (EL (EI .i64)).e y7753))), (12, (Zl E_Block x1.fBlocks)), (0, (i6 (ln x1.fBlocks))), (0, (i6 y7869)), (38, (Zl E_Ins y8048.fIns)), (0, (i6 (ln y8048.fIns))), (0, (i6 y8078)), (11, (V.bool (!y8104.2)))] 2) ?_
    rcases tf (!y8104.2) with h8106 | h8106
    · rw [ite_t h8106] at h; refine Rn.t h8106 ?_
      refine Rn.g ?_
      refine Ro.t 1 ?_
      refine Ro.d (mkE [(4, (V.bool false))] 71) ?_
      refine Run.ret ?_
      have h := Option.some.inj h; subst h
      show RR32 L _ _ _
      have hp := hp.del 0
      exact ⟨(V.bool false), (by kernel_rfl), (by kernel_rfl), hp⟩
    · rw [ite_f h8106] at h; refine Rn.f h8106 ?_
      refine Run.skip ?_
      refine Run.clrE (ts := [4, 9, 10, 11, 63, 64, 65, 66, 67, 68, 69, 70, 71, 72, 73]) (b := (.rgn i32r29)) (Q := (stp [4, 9, 10, 11, 62, 63, 64, 65, 66, 67, 68, 69, 70, 71, 72, 73, 74] (I32_2 x0 x1 y7753 y7869 y8048 L) (RR32 L) (J32_2 x0 x1 y7753 y7869 y8048 L) t)) (e' := (mkE [(0, (Zl E_Graph x0)), (2, (V.fp (E_Graph.e x1))), (1, (V.fz (List.map (EL (EI .i64)).e y7753))), (12, (Zl E_Block x1.fBlocks)), (0, (i6 (ln x1.fBlocks))), (0, (i6 y7869)), (38, (Zl E_Ins y8048.fIns)), (0, (i6 (ln y8048.fIns))), (0, (i6 y8078))] 14)) (by kernel_rfl) ?_
      refine Run.rgn ?_
      refine Ro.t 2 ?_
      refine RunO.nil ?_
      have h := Option.some.inj h; subst h
      have hp := hp.del 0
      show I32_2 x0 x1 y7753 y7869 y8048 L _ _ _
      exact ⟨(by kernel_rfl), hp⟩
  · rw [ite_f h8094] at h; refine Rn.f h8094 ?_
    refine Run.exit ?_
    have h := Option.some.inj h; subst h
    show J32_2 x0 x1 y7753 y7869 y8048 L () _ _ _
    exact ⟨rfl, (by kernel_rfl), hp⟩

def F32_j1 (x0 : (List T_Graph)) (x1 : T_Graph) (y7753 : (List (List Int))) (y7869 : Int) (y8048 : T_Block) : Option (Stp (Int) Bool Unit) :=
  (iter (fun s : (Int) => F32_2_b x0 x1 y7753 y7869 y8048 s) FUEL ((0 : Int))).bind fun o => match o with
  | .ret r => some (.ret r)
  | .go () =>
    some (.next ((IntKind.i64.wrap (y7869 + (1 : Int)))))

theorem w32_j1 {x0 : (List T_Graph)} {x1 : T_Graph} {y7753 : (List (List Int))} {y7869 : Int} {y8048 : T_Block} {t : (Stp (Int) Bool Unit)} (h : F32_j1 x0 x1 y7753 y7869 y8048 = some t) {b8050 : Nat} {H : Heap} {L : List Ob} (hp : HP H ((some (b8050, 0), [(Zl E_Ins y8048.fIns), (V.int .u8 y8048.fTerm.fKind), (i6 y8048.fTerm.fArg), (i6 y8048.fTerm.fTo.a0), (i6 y8048.fTerm.fTo.a1), (V.int .u8 y8048.fTerm.fTrap)]) :: L)) :
    Run T i32n35 (mkE [(0, (Zl E_Graph x0)), (2, (V.fp (E_Graph.e x1))), (1, (V.fz (List.map (EL (EI .i64)).e y7753))), (1, (V.ptr b8050 0 0)), (10, (Zl E_Block x1.fBlocks)), (0, (i6 (ln x1.fBlocks))), (0, (i6 y7869))] 55) H (blk 1 (thn T (.clr [4, 6, 7, 9, 10, 11, 22, 23, 24, 25, 26, 27, 28, 29, 30, 31, 32, 33, 34, 35, 36, 37, 38, 39, 40, 41, 42, 43, 44, 45, 46, 47, 48, 49, 50, 51, 52, 53, 54, 55, 56, 57, 58, 59, 60, 61, 62, 63, 64, 65, 66, 67, 68, 69, 70, 71, 72, 73, 74] (.rgn i32r39)) (stp [4, 6, 7, 9, 10, 11, 21, 22, 23, 24, 25, 26, 27, 28, 29, 30, 31, 32, 33, 34, 35, 36, 37, 38, 39, 40, 41, 42, 43, 44, 45, 46, 47, 48, 49, 50, 51, 52, 53, 54, 55, 56, 57, 58, 59, 60, 61, 62, 63, 64, 65, 66, 67, 68, 69, 70, 71, 72, 73, 74, 75] (I32_1 x0 x1 y7753 L) (RR32 L) (J32_1 x0 x1 y7753 L) t))) := by
  unfold F32_j1 at h
  refine Rn.g ?_
  refine Ro.t 1 ?_
  refine Ro.p (hp.ld 0 (off := 0) (n := none) (v := (Zl E_Ins y8048.fIns)) rfl (by kernel_rfl)) ?_
  refine Ro.p (len_fz E_Ins y8048.fIns) ?_
  refine Ro.t 1 ?_
  refine Ro.d (mkE [(0, (Zl E_Graph x0)), (2, (V.fp (E_Graph.e x1))), (1, (V.fz (List.map (EL (EI .i64)).e y7753))), (12, (Zl E_Block x1.fBlocks)), (0, (i6 (ln x1.fBlocks))), (0, (i6 y7869)), (38, (Zl E_Ins y8048.fIns)), (0, (i6 (ln y8048.fIns))), (0, (i6 (0 : Int)))] 14) ?_
  refine Run.block ?_
  obtain ⟨o, h8107, h⟩ := bind_some h
  have hp := hp.del 0
  refine (Run.iter (I := I32_2 x0 x1 y7753 y7869 y8048 L) (RR := RR32 L) (J := J32_2 x0 x1 y7753 y7869 y8048 L) (fun s e h' t hI hf => ?_) FUEL h8107 (by exact ⟨(by kernel_rfl), hp⟩)).mono ?_
  · obtain ⟨rfl, hp⟩ := hI; exact w32_2_b hf hp
  · rintro X e' H hq
    cases o with
    | ret r => cases X <;> first | exact hq.elim | (cases h; exact hq)
    | go a => 
      cases X with | nrm => exact hq.elim | ret => exact hq.elim | ext i => ?_
      obtain ⟨rfl, he, hp⟩ := hq
      dsimp only at h
      refine Run.clrE (ts := [4, 6, 7, 9, 10, 11, 22, 23, 24, 25, 26, 27, 28, 29, 30, 31, 32, 33, 34, 35, 36, 37, 38, 39, 40, 41, 42, 43, 44, 45, 46, 47, 48, 49, 50, 51, 52, 53, 54, 55, 56, 57, 58, 59, 60, 61, 62, 63, 64, 65, 66, 67, 68, 69, 70, 71, 72, 73, 74]) (b := (.rgn i32r39)) (Q := (stp [4, 6, 7, 9, 10, 11, 21, 22, 23, 24, 25, 26, 27, 28, 29, 30, 31, 32, 33, 34, 35, 36, 37, 38, 39, 40, 41, 42, 43, 44, 45, 46, 47, 48, 49, 50, 51, 52, 53, 54, 55, 56, 57, 58, 59, 60, 61, 62, 63, 64, 65, 66, 67, 68, 69, 70, 71, 72, 73, 74, 75] (I32_1 x0 x1 y7753 L) (RR32 L) (J32_1 x0 x1 y7753 L) t)) he ?_
      refine Run.rgn ?_
      refine Ro.t 2 ?_
      refine RunO.nil ?_
      have h := Option.some.inj h; subst h
      show I32_1 x0 x1 y7753 L _ _ _
      exact ⟨(by kernel_rfl), hp⟩

def F32_1_b (x0 : (List T_Graph)) (x1 : T_Graph) (y7753 : (List (List Int))) (y7869 : Int) : Option (Stp (Int) Bool Unit) :=
  if (decide (y7869 < ((List.length x1.fBlocks : Nat) : Int))) then
    (idx x1.fBlocks y7869).bind fun y8048 =>
    (F60 x1 y8048.fTerm).bind fun y8108 =>
    if y8108 then
      (idx y7753 y7869).bind fun y8111 =>
      (F61 y8048 ((List.length y8111 : Nat) : Int)).bind fun y8113 =>
      if y8113 then
        if (y7869 == (0 : Int)) then
          if (decide (((List.length y8048.fIns : Nat) : Int) > (0 : Int))) then
            (idx y8048.fIns (0 : Int)).bind fun y8118 =>
            if (y8118.fKind == (1 : Int)) then
              some (.ret false)
            else
              F32_j1 x0 x1 y7753 y7869 y8048
          else
            F32_j1 x0 x1 y7753 y7869 y8048
        else
          F32_j1 x0 x1 y7753 y7869 y8048
      else
        some (.ret false)
    else
      some (.ret false)
  else
    some (.go ())

theorem w32_1_b {x0 : (List T_Graph)} {x1 : T_Graph} {y7753 : (List (List Int))} {y7869 : Int} {t : (Stp (Int) Bool Unit)} (h : F32_1_b x0 x1 y7753 y7869 = some t) {H : Heap} {L : List Ob} (hp : HP H (L)) :
    Run T i32n42 (mkE [(0, (Zl E_Graph x0)), (2, (V.fp (E_Graph.e x1))), (1, (V.fz (List.map (EL (EI .i64)).e y7753))), (12, (Zl E_Block x1.fBlocks)), (0, (i6 (ln x1.fBlocks))), (0, (i6 y7869))] 55) H (stp [4, 6, 7, 9, 10, 11, 21, 22, 23, 24, 25, 26, 27, 28, 29, 30, 31, 32, 33, 34, 35, 36, 37, 38, 39, 40, 41, 42, 43, 44, 45, 46, 47, 48, 49, 50, 51, 52, 53, 54, 55, 56, 57, 58, 59, 60, 61, 62, 63, 64, 65, 66, 67, 68, 69, 70, 71, 72, 73, 74, 75] (I32_1 x0 x1 y7753 L) (RR32 L) (J32_1 x0 x1 y7753 L) t) := by
  unfold F32_1_b at h
  refine Rn.g ?_
  refine Ro.t 1 ?_
  refine Ro.d (mkE [(0, (Zl E_Graph x0)), (2, (V.fp (E_Graph.e x1))), (1, (V.fz (List.map (EL (EI .i64)).e y7753))), (12, (Zl E_Block x1.fBlocks)), (0, (i6 (ln x1.fBlocks))), (0, (i6 y7869)), (0, (V.bool (decide (y7869 < (ln x1.fBlocks)))))] 54) ?_
  refine Run.seq ?_
  rcases tf (decide (y7869 < (ln x1.fBlocks))) with h7989 | h7989
  · rw [ite_t h7989] at h; refine Rn.t h7989 ?_
    refine Run.skip ?_
    refine Rn.c (mkE [(0, (Zl E_Graph x0)), (2, (V.fp (E_Graph.e x1))), (1, (V.fz (List.map (EL (EI .i64)).e y7753))), (12, (Zl E_Block x1.fBlocks)), (0, (i6 (ln x1.fBlocks))), (0, (i6 y7869))] 55) ?_
    refine Run.seq ?_
    refine Run.block ?_
    refine Rn.g ?_
    refine Ro.t 1 ?_
    obtain ⟨y8048, h8049, h⟩ := bind_some h
    refine Ro.p (idx_fz E_Block .i64 h8049) ?_
    refine Ro.t 1 ?_
    refine RunO.alloc hp (by kernel_rfl) ?_
    intro b8050 H hp
    have hp : HP H ((some (b8050, 0), [(V.fz (List.map E_Ins.e ([] : List T_Ins))), (V.int .u8 (0 : Int)), (i6 (0 : Int)), (i6 (0 : Int)), (i6 (0 : Int)), (V.int .u8 (0 : Int))]) :: L) := hp
    refine Ro.t 1 ?_
    refine RunO.st hp (by kernel_rfl) 0 (off := 0) (v := (E_Block.e y8048)) (cs' := [(Zl E_Ins y8048.fIns), (V.int .u8 y8048.fTerm.fKind), (i6 y8048.fTerm.fArg), (i6 y8048.fTerm.fTo.a0), (i6 y8048.fTerm.fTo.a1), (V.int .u8 y8048.fTerm.fTrap)]) rfl (by kernel_rfl) (by kernel_rfl) (by kernel_rfl) ?_
    intro H hp
    refine Ro.d (mkE [(0, (Zl E_Graph x0)), (2, (V.fp (E_Graph.e x1))), (1, (V.fz (List.map (EL (EI .i64)).e y7753))), (0, (i6 y7869)), (0, (V.ptr b8050 0 0)), (10, (Zl E_Block x1.fBlocks)), (0, (i6 (ln x1.fBlocks))), (0, (i6 y7869))] 55) ?_
    refine Run.seq ?_
    refine Rn.g ?_
    refine Ro.t 2 ?_
    refine Ro.p (hp.ld 0 (off := 1) (n := (some 5)) (v := (E_Term.e y8048.fTerm)) rfl (by kernel_rfl)) ?_
    obtain ⟨y8108, h8109, h⟩ := bind_some h
    rcases tf y8108 with h8110 | h8110
    · subst h8110; rw [if_pos rfl] at h
      refine RunO.c1 (by kernel_rfl) (by kernel_rfl) (c60 h8109 _) ?_
      refine Ro.t 2 ?_
      refine Ro.p (hp.ld 0 (off := 0) (n := (some 6)) (v := (E_Block.e y8048)) rfl (by kernel_rfl)) ?_
      refine Ro.t 2 ?_
      obtain ⟨y8111, h8112, h⟩ := bind_some h
      refine Ro.p (idx_fz (EL (EI .i64)) .i64 h8112) ?_
      refine Ro.t 1 ?_
      refine Ro.p (len_fz (EI .i64) y8111) ?_
      obtain ⟨y8113, h8114, h⟩ := bind_some h
      rcases tf y8113 with h8115 | h8115
      · subst h8115; rw [if_pos rfl] at h
        refine RunO.c1 (by kernel_rfl) (by kernel_rfl) (c61 h8114 _) ?_
        refine Ro.t 4 ?_
        rcases tf (y7869 == (0 : Int)) with h8116 | h8116
        · rw [ite_t h8116] at h; refine Ro.p (bool_of h8116) ?_
          refine Ro.t 2 ?_
          refine Ro.p (hp.ld 0 (off := 0) (n := none) (v := (Zl E_Ins y8048.fIns)) rfl (by kernel_rfl)) ?_
          refine Ro.p (len_fz E_Ins y8048.fIns) ?_
          rcases tf (decide ((ln y8048.fIns) > (0 : Int))) with h8117 | h8117
          · rw [ite_t h8117] at h; refine Ro.p (bool_of h8117) ?_
            refine Ro.t 3 ?_
            refine Ro.p (hp.ld 0 (off := 0) (n := none) (v := (Zl E_Ins y8048.fIns)) rfl (by kernel_rfl)) ?_
            obtain ⟨y8118, h8119, h⟩ := bind_some h
            refine Ro.p (idx_fz E_Ins .i64 h8119) ?_
            refine Ro.t 5 ?_
            refine Ro.d (mkE [(0, (Zl E_Graph x0)), (2, (V.fp (E_Graph.e x1))), (1, (V.fz (List.map (EL (EI .i64)).e y7753))), (1, (V.ptr b8050 0 0)), (10, (Zl E_Block x1.fBlocks)), (0, (i6 (ln x1.fBlocks))), (0, (i6 y7869)), (36, (V.bool (y8118.fKind == (1 : Int))))] 18) ?_
            rcases tf (y8118.fKind == (1 : Int)) with h8120 | h8120
            · rw [ite_t h8120] at h; refine Rn.t h8120 ?_
              refine Rn.g ?_
              refine Ro.t 1 ?_
              refine Ro.d (mkE [(4, (V.bool false))] 71) ?_
              refine Run.ret ?_
              have h := Option.some.inj h; subst h
              show RR32 L _ _ _
              have hp := hp.del 0
              exact ⟨(V.bool false), (by kernel_rfl), (by kernel_rfl), hp⟩
            · rw [ite_f h8120] at h; refine Rn.f h8120 ?_
              refine Run.skip ?_
              refine Rn.c (mkE [(0, (Zl E_Graph x0)), (2, (V.fp (E_Graph.e x1))), (1, (V.fz (List.map (EL (EI .i64)).e y7753))), (1, (V.ptr b8050 0 0)), (10, (Zl E_Block x1.fBlocks)), (0, (i6 (ln x1.fBlocks))), (0, (i6 y7869))] 55) ?_
              exact w32_j1 h hp
          · rw [ite_f h8117] at h; refine Ro.p (bool_of h8117) ?_
            refine Ro.t 10 ?_
            refine Ro.d (mkE [(0, (Zl E_Graph x0)), (2, (V.fp (E_Graph.e x1))), (1, (V.fz (List.map (EL (EI .i64)).e y7753))), (1, (V.ptr b8050 0 0)), (10, (Zl E_Block x1.fBlocks)), (0, (i6 (ln x1.fBlocks))), (0, (i6 y7869)), (36, (V.bool false))] 18) ?_
            refine Run.condF (by kernel_rfl) ?_
            refine Run.skip ?_
            refine Rn.c (mkE [(0, (Zl E_Graph x0)), (2, (V.fp (E_Graph.e x1))), (1, (V.fz (List.map (EL (EI .i64)).e y7753))), (1, (V.ptr b8050 0 0)), (10, (Zl E_Block x1.fBlocks)), (0, (i6 (ln x1.fBlocks))), (0, (i6 y7869))] 55) ?_
            exact w32_j1 h hp
        · rw [ite_f h8116] at h; refine Ro.p (bool_of h8116) ?_
          refine Ro.t 15 ?_
          refine Ro.d (mkE [(0, (Zl E_Graph x0)), (2, (V.fp (E_Graph.e x1))), (1, (V.fz (List.map (EL (EI .i64)).e y7753))), (1, (V.ptr b8050 0 0)), (10, (Zl E_Block x1.fBlocks)), (0, (i6 (ln x1.fBlocks))), (0, (i6 y7869)), (36, (V.bool false))] 18) ?_
          refine Run.condF (by kernel_rfl) ?_
          refine Run.skip ?_
          refine Rn.c (mkE [(0, (Zl E_Graph x0)), (2, (V.fp (E_Graph.e x1))), (1, (V.fz (List.map (EL (EI .i64)).e y7753))), (1, (V.ptr b8050 0 0)), (10, (Zl E_Block x1.fBlocks)), (0, (i6 (ln x1.fBlocks))), (0, (i6 y7869))] 55) ?_
          exact w32_j1 h hp
      · subst h8115; rw [if_neg (by decide)] at h
        refine RunO.c1 (by kernel_rfl) (by kernel_rfl) (c61 h8114 _) ?_
        refine Ro.t 20 ?_
        refine Ro.d (mkE [(0, (Zl E_Graph x0)), (2, (V.fp (E_Graph.e x1))), (1, (V.fz (List.map (EL (EI .i64)).e y7753))), (1, (V.ptr b8050 0 0)), (10, (Zl E_Block x1.fBlocks)), (0, (i6 (ln x1.fBlocks))), (0, (i6 y7869)), (36, (V.bool true))] 18) ?_
        refine Run.condT (by kernel_rfl) ?_
        refine Rn.g ?_
        refine Ro.t 1 ?_
        refine Ro.d (mkE [(4, (V.bool false))] 71) ?_
        refine Run.ret ?_
        have h := Option.some.inj h; subst h
        show RR32 L _ _ _
        have hp := hp.del 0
        exact ⟨(V.bool false), (by kernel_rfl), (by kernel_rfl), hp⟩
    · subst h8110; rw [if_neg (by decide)] at h
      refine RunO.c1 (by kernel_rfl) (by kernel_rfl) (c60 h8109 _) ?_
      refine Ro.t 29 ?_
      refine Ro.d (mkE [(0, (Zl E_Graph x0)), (2, (V.fp (E_Graph.e x1))), (1, (V.fz (List.map (EL (EI .i64)).e y7753))), (1, (V.ptr b8050 0 0)), (10, (Zl E_Block x1.fBlocks)), (0, (i6 (ln x1.fBlocks))), (0, (i6 y7869)), (36, (V.bool true))] 18) ?_
      refine Run.condT (by kernel_rfl) ?_
      refine Rn.g ?_
      refine Ro.t 1 ?_
      refine Ro.d (mkE [(4, (V.bool false))] 71) ?_
      refine Run.ret ?_
      have h := Option.some.inj h; subst h
      show RR32 L _ _ _
      have hp := hp.del 0
      exact ⟨(V.bool false), (by kernel_rfl), (by kernel_rfl), hp⟩
  · rw [ite_f h7989] at h; refine Rn.f h7989 ?_
    refine Run.exit ?_
    have h := Option.some.inj h; subst h
    show J32_1 x0 x1 y7753 L () _ _ _
    exact ⟨rfl, (by kernel_rfl), hp⟩

def F32 (x0 : (List T_Graph)) (x1 : T_Graph) : Option Bool :=
  (F59 x1).bind fun y7750 =>
  if (!y7750) then
    some false
  else
    (F13 x1).bind fun y7753 =>
    (iter (fun s : (Int) => F32_1_b x0 x1 y7753 s) FUEL ((0 : Int))).bind fun o => match o with
    | .ret r => some r
    | .go () =>
      some true

theorem w32 {x0 : (List T_Graph)} {x1 : T_Graph} {r : Bool} (h : F32 x0 x1 = some r) {H : Heap} {L : List Ob} (hp : HP H (L)) : Fn T 32 [(Zl E_Graph x0), (E_Graph.e x1)] H (Q32 L r) := by
  refine Fn.enterE t32 (e0 := (mkE [(0, (Zl E_Graph x0)), (0, (E_Graph.e x1))] 74)) (by kernel_rfl) ?_
  show Run T (.clr [] i32n51) _ _ (finE none [4] (Q32 L r))
  refine Rn.k (mkE [(0, (Zl E_Graph x0)), (0, (E_Graph.e x1))] 74) ?_
  unfold F32 at h
  refine Rn.g ?_
  refine Ro.t 2 ?_
  refine Ro.d (mkE [(0, (Zl E_Graph x0)), (2, (V.fp (E_Graph.e x1)))] 72) ?_
  refine Run.seq ?_
  refine Rn.g ?_
  refine Ro.t 1 ?_
  obtain ⟨y7750, h7751, h⟩ := bind_some h
  refine RunO.c1 (by kernel_rfl) (by kernel_rfl) (c59 h7751 _) ?_
  refine Ro.t 1 ?_
  refine Ro.d (mkE [(0, (Zl E_Graph x0)), (2, (V.fp (E_Graph.e x1))), (10, (V.bool (!y7750)))] 61) ?_
  rcases tf (!y7750) with h7752 | h7752
  · rw [ite_t h7752] at h; refine Rn.t h7752 ?_
    refine Rn.g ?_
    refine Ro.t 1 ?_
    refine Ro.d (mkE [(4, (V.bool false))] 71) ?_
    refine Run.ret ?_
    have h := Option.some.inj h; subst h
    exact ⟨(V.bool false), (by kernel_rfl), (by kernel_rfl), hp⟩
  · rw [ite_f h7752] at h; refine Rn.f h7752 ?_
    refine Run.skip ?_
    refine Rn.c (mkE [(0, (Zl E_Graph x0)), (2, (V.fp (E_Graph.e x1)))] 72) ?_
    refine Rn.g ?_
    refine Ro.t 1 ?_
    obtain ⟨y7753, h7754, h⟩ := bind_some h
    refine RunO.c2 (by kernel_rfl) (by kernel_rfl) (by kernel_rfl) (c13 h7754) ?_
    refine Ro.t 1 ?_
    refine Ro.d (mkE [(0, (Zl E_Graph x0)), (2, (V.fp (E_Graph.e x1))), (1, (V.fz (List.map (EL (EI .i64)).e y7753)))] 70) ?_
    refine Run.seq ?_
    refine Rn.g ?_
    refine Ro.t 2 ?_
    refine Ro.p (len_fz E_Block x1.fBlocks) ?_
    refine Ro.t 1 ?_
    refine Ro.d (mkE [(0, (Zl E_Graph x0)), (2, (V.fp (E_Graph.e x1))), (1, (V.fz (List.map (EL (EI .i64)).e y7753))), (12, (Zl E_Block x1.fBlocks)), (0, (i6 (ln x1.fBlocks))), (0, (i6 (0 : Int)))] 55) ?_
    refine Run.block ?_
    obtain ⟨o, h8121, h⟩ := bind_some h
    refine (Run.iter (I := I32_1 x0 x1 y7753 L) (RR := RR32 L) (J := J32_1 x0 x1 y7753 L) (fun s e h' t hI hf => ?_) FUEL h8121 (by exact ⟨(by kernel_rfl), hp⟩)).mono ?_
    · obtain ⟨rfl, hp⟩ := hI; exact w32_1_b hf hp
    · rintro X e' H hq
      cases o with
      | ret r => cases X <;> first | exact hq.elim | (cases h; exact hq)
      | go a => 
        cases X with | nrm => exact hq.elim | ret => exact hq.elim | ext i => ?_
        obtain ⟨rfl, he, hp⟩ := hq
        dsimp only at h
        refine Run.clrE (ts := [0, 3, 4, 5, 6, 7, 9, 10, 11, 17, 18, 19, 20, 21, 22, 23, 24, 25, 26, 27, 28, 29, 30, 31, 32, 33, 34, 35, 36, 37, 38, 39, 40, 41, 42, 43, 44, 45, 46, 47, 48, 49, 50, 51, 52, 53, 54, 55, 56, 57, 58, 59, 60, 61, 62, 63, 64, 65, 66, 67, 68, 69, 70, 71, 72, 73, 74, 75]) (b := i32n47) (Q := (finE none [4] (Q32 L r))) he ?_
        refine Rn.g ?_
        refine Ro.t 1 ?_
        refine Ro.d (mkE [(4, (V.bool true))] 71) ?_
        refine Run.ret ?_
        have h := Option.some.inj h; subst h
        exact ⟨(V.bool true), (by kernel_rfl), (by kernel_rfl), hp⟩

theorem c32 {x0 : (List T_Graph)} {x1 : T_Graph} {r : Bool} (h : F32 x0 x1 = some r) (s : Bool) : Fn T 32 [(Zl E_Graph x0), (E_Graph.e x1)] [] (fun v hh => deep s hh deepN v = some (EB.e r)) := by
  refine (w32 h HP.nil).mono ?_
  rintro v hh ⟨rfl, hp⟩
  exact EB.hd s hh 38 _ (.inr rfl)

/- smithy/graph.Check -/
abbrev Q10 (L : List Ob) (r : (Int × Int)) : V → Heap → Prop := fun v h => v = .tup [(EI .i64).e r.1, (EI .i64).e r.2] ∧ HP h (L)
abbrev RR10 (L : List Ob) (r : (Int × Int)) : List V → Heap → Prop := fun e h => endR none [2, 3] (Q10 L r) e h

abbrev I10_1 (x0 : (List T_Graph)) (L : List Ob) : (Int) → List V → Heap → Prop := fun s e h => e = (mkE [(0, (Zl E_Graph x0)), (8, (Zl E_Graph x0)), (0, (i6 (ln x0))), (0, (i6 s))] 10) ∧ HP h (L)

abbrev J10_1 (x0 : (List T_Graph)) (L : List Ob) : Unit → Nat → List V → Heap → Prop := fun a i e h => i = 0 ∧ clrEnv [0, 2, 3, 4, 5, 9, 10, 11, 12, 13, 14, 15, 16, 17, 18, 19, 20, 21] e = (mkE [] 22) ∧ HP h (L)

def F10_1_b (x0 : (List T_Graph)) (y8162 : Int) : Option (Stp (Int) (Int × Int) Unit) :=
  if (decide (y8162 < ((List.length x0 : Nat) : Int))) then
    (idx x0 y8162).bind fun y8185 =>
    (F32 x0 y8185).bind fun y8188 =>
    if (!y8188) then
      some (.ret ((4 : Int), y8162))
    else
      some (.next ((IntKind.i64.wrap (y8162 + (1 : Int)))))
  else
    some (.go ())

theorem w10_1_b {x0 : (List T_Graph)} {y8162 : Int} {t : (Stp (Int) (Int × Int) Unit)} (h : F10_1_b x0 y8162 = some t) {H : Heap} {L : List Ob} (hp : HP H (L)) :
    Run T i10n20 (mkE [(0, (Zl E_Graph x0)), (8, (Zl E_Graph x0)), (0, (i6 (ln x0))), (0, (i6 y8162))] 10) H (stp [2, 3, 4, 5, 12, 13, 14, 15, 16, 17, 18, 19, 20, 21] (I10_1 x0 L) (RR10 L) (J10_1 x0 L) t) := by
  unfold F10_1_b at h
  refine Rn.g ?_
  refine Ro.t 1 ?_
  refine Ro.d (mkE [(0, (Zl E_Graph x0)), (8, (Zl E_Graph x0)), (0, (i6 (ln x0))), (0, (i6 y8162)), (0, (V.bool (decide (y8162 < (ln x0)))))] 9) ?_
  refine Run.seq ?_
  rcases tf (decide (y8162 < (ln x0))) with h8178 | h8178
  · rw [ite_t h8178] at h; refine Rn.t h8178 ?_
    refine Run.skip ?_
    refine Rn.c (mkE [(0, (Zl E_Graph x0)), (8, (Zl E_Graph x0)), (0, (i6 (ln x0))), (0, (i6 y8162))] 10) ?_
    refine Run.seq ?_
    refine Run.block ?_
    refine Rn.g ?_
    refine Ro.t 1 ?_
    obtain ⟨y8185, h8186, h⟩ := bind_some h
    refine Ro.p (idx_fz E_Graph .i64 h8186) ?_
    refine Ro.t 1 ?_
    refine RunO.alloc hp (by kernel_rfl) ?_
    intro b8187 H hp
    have hp : HP H ((some (b8187, 0), [(ES.e ([] : List UInt8)), (V.fz (List.map (EI .i64).e ([] : List Int))), (V.int .u8 (0 : Int)), (V.fz (List.map (EI .u8).e ([] : List Int))), (V.fz (List.map E_Array.e ([] : List T_Array))), (V.fz (List.map E_Block.e ([] : List T_Block)))]) :: L) := hp
    refine Ro.t 1 ?_
    refine RunO.st hp (by kernel_rfl) 0 (off := 0) (v := (E_Graph.e y8185)) (cs' := [(ES.e y8185.fName), (Zl (EI .i64) y8185.fParams), (V.int .u8 y8185.fResult), (Zl (EI .u8) y8185.fVars), (Zl E_Array y8185.fArrays), (Zl E_Block y8185.fBlocks)]) rfl (by kernel_rfl) (by kernel_rfl) (by kernel_rfl) ?_
    intro H hp
    refine Ro.d (mkE [(0, (Zl E_Graph x0)), (3, (i6 y8162)), (0, (V.ptr b8187 0 0)), (3, (Zl E_Graph x0)), (0, (i6 (ln x0))), (0, (i6 y8162))] 10) ?_
    refine Rn.g ?_
    refine Ro.t 1 ?_
    refine Ro.p (hp.ld 0 (off := 0) (n := (some 6)) (v := (E_Graph.e y8185)) rfl (by kernel_rfl)) ?_
    obtain ⟨y8188, h8189, h⟩ := bind_some h
    refine RunO.c1 (by kernel_rfl) (by kernel_rfl) (c32 h8189 _) ?_
    refine Ro.t 1 ?_
    refine Ro.d (mkE [(0, (Zl E_Graph x0)), (3, (i6 y8162)), (4, (Zl E_Graph x0)), (0, (i6 (ln x0))), (0, (i6 y8162)), (7, (V.bool (!y8188)))] 2) ?_
    rcases tf (!y8188) with h8190 | h8190
    · rw [ite_t h8190] at h; refine Rn.t h8190 ?_
      refine Rn.g ?_
      refine Ro.t 3 ?_
      refine Ro.d (mkE [(2, (i6 (4 : Int))), (0, (i6 y8162))] 18) ?_
      refine Run.ret ?_
      have h := Option.some.inj h; subst h
      show RR10 L _ _ _
      have hp := hp.del 0
      exact ⟨(V.tup [(i6 (4 : Int)), (i6 y8162)]), (by kernel_rfl), (by kernel_rfl), hp⟩
    · rw [ite_f h8190] at h; refine Rn.f h8190 ?_
      refine Run.skip ?_
      refine Run.clrE (ts := [2, 3, 4, 5, 13, 14, 15, 16, 17, 18, 19, 20]) (b := (.rgn i10r17)) (Q := (stp [2, 3, 4, 5, 12, 13, 14, 15, 16, 17, 18, 19, 20, 21] (I10_1 x0 L) (RR10 L) (J10_1 x0 L) t)) (e' := (mkE [(0, (Zl E_Graph x0)), (8, (Zl E_Graph x0)), (0, (i6 (ln x0))), (0, (i6 y8162))] 10)) (by kernel_rfl) ?_
      refine Run.rgn ?_
      refine Ro.t 2 ?_
      refine RunO.nil ?_
      have h := Option.some.inj h; subst h
      have hp := hp.del 0
      show I10_1 x0 L _ _ _
      exact ⟨(by kernel_rfl), hp⟩
  · rw [ite_f h8178] at h; refine Rn.f h8178 ?_
    refine Run.exit ?_
    have h := Option.some.inj h; subst h
    show J10_1 x0 L () _ _ _
    exact ⟨rfl, (by kernel_rfl), hp⟩

def F10 (x0 : (List T_Graph)) : Option (Int × Int) :=
  if (decide (((List.length x0 : Nat) : Int) > (64 : Int))) then
    some ((3 : Int), (0 : Int))
  else
    (iter (fun s : (Int) => F10_1_b x0 s) FUEL ((0 : Int))).bind fun o => match o with
    | .ret r => some r
    | .go () =>
      some ((0 : Int), (0 : Int))

theorem w10 {x0 : (List T_Graph)} {r : (Int × Int)} (h : F10 x0 = some r) {H : Heap} {L : List Ob} (hp : HP H (L)) : Fn T 10 [(Zl E_Graph x0)] H (Q10 L r) := by
  refine Fn.enterE t10 (e0 := (mkE [(0, (Zl E_Graph x0))] 21)) (by kernel_rfl) ?_
  show Run T (.clr [] i10n28) _ _ (finE none [2, 3] (Q10 L r))
  refine Rn.k (mkE [(0, (Zl E_Graph x0))] 21) ?_
  unfold F10 at h
  refine Rn.g ?_
  refine Ro.t 2 ?_
  refine Ro.d (mkE [(0, (Zl E_Graph x0))] 21) ?_
  refine Run.seq ?_
  refine Rn.g ?_
  refine Ro.t 1 ?_
  refine Ro.p (len_fz E_Graph x0) ?_
  refine Ro.t 1 ?_
  refine Ro.d (mkE [(0, (Zl E_Graph x0)), (7, (V.bool (decide ((ln x0) > (64 : Int)))))] 13) ?_
  rcases tf (decide ((ln x0) > (64 : Int))) with h8147 | h8147
  · rw [ite_t h8147] at h; refine Rn.t h8147 ?_
    refine Rn.g ?_
    refine Ro.t 2 ?_
    refine Ro.d (mkE [(2, (i6 (3 : Int))), (0, (i6 (0 : Int)))] 18) ?_
    refine Run.ret ?_
    have h := Option.some.inj h; subst h
    exact ⟨(V.tup [(i6 (3 : Int)), (i6 (0 : Int))]), (by kernel_rfl), (by kernel_rfl), hp⟩
  · rw [ite_f h8147] at h; refine Rn.f h8147 ?_
    refine Run.skip ?_
    refine Rn.c (mkE [(0, (Zl E_Graph x0))] 21) ?_
    refine Run.seq ?_
    refine Rn.g ?_
    refine Ro.t 1 ?_
    refine Ro.p (len_fz E_Graph x0) ?_
    refine Ro.t 1 ?_
    refine Ro.d (mkE [(0, (Zl E_Graph x0)), (8, (Zl E_Graph x0)), (0, (i6 (ln x0))), (0, (i6 (0 : Int)))] 10) ?_
    refine Run.block ?_
    obtain ⟨o, h8191, h⟩ := bind_some h
    refine (Run.iter (I := I10_1 x0 L) (RR := RR10 L) (J := J10_1 x0 L) (fun s e h' t hI hf => ?_) FUEL h8191 (by exact ⟨(by kernel_rfl), hp⟩)).mono ?_
    · obtain ⟨rfl, hp⟩ := hI; exact w10_1_b hf hp
    · rintro X e' H hq
      cases o with
      | ret r => cases X <;> first | exact hq.elim | (cases h; exact hq)
      | go a => 
        cases X with | nrm => exact hq.elim | ret => exact hq.elim | ext i => ?_
        obtain ⟨rfl, he, hp⟩ := hq
        dsimp only at h
        refine Run.clrE (ts := [0, 2, 3, 4, 5, 9, 10, 11, 12, 13, 14, 15, 16, 17, 18, 19, 20, 21]) (b := i10n25) (Q := (finE none [2, 3] (Q10 L r))) he ?_
        refine Rn.g ?_
        refine Ro.t 2 ?_
        refine Ro.d (mkE [(2, (i6 (0 : Int))), (0, (i6 (0 : Int)))] 18) ?_
        refine Run.ret ?_
        have h := Option.some.inj h; subst h
        exact ⟨(V.tup [(i6 (0 : Int)), (i6 (0 : Int))]), (by kernel_rfl), (by kernel_rfl), hp⟩

theorem c10 {x0 : (List T_Graph)} {r : (Int × Int)} (h : F10 x0 = some r) (s : Bool) : Fn T 10 [(Zl E_Graph x0)] [] (fun v hh => deep s hh deepN v = some (.tup [(EI .i64).e r.1, (EI .i64).e r.2])) := by
  refine (w10 h HP.nil).mono ?_
  rintro v hh ⟨rfl, hp⟩
  exact congrArg (Option.map V.tup) (omapc ((EI .i64).hd s hh 37 _ (.inr rfl)) (omapc ((EI .i64).hd s hh 37 _ (.inr rfl)) omapn))

/- smithy/smithyref07.scalar -/
abbrev Q91 (L : List Ob) (r : Bool) : V → Heap → Prop := fun v h => v = EB.e r ∧ HP h (L)
abbrev RR91 (L : List Ob) (r : Bool) : List V → Heap → Prop := fun e h => endR none [2] (Q91 L r) e h

def F91 (x0 : Int) : Option Bool :=
  if (decide (x0 ≥ (1 : Int))) then
    some (decide (x0 ≤ (5 : Int)))
  else
    some false

theorem w91 {x0 : Int} {r : Bool} (h : F91 x0 = some r) {H : Heap} {L : List Ob} (hp : HP H (L)) : Fn T 91 [(V.int .u8 x0)] H (Q91 L r) := by
  refine Fn.enterE t91 (e0 := (mkE [(0, (V.int .u8 x0))] 8)) (by kernel_rfl) ?_
  show Run T (.clr [] i91n3) _ _ (finE none [2] (Q91 L r))
  refine Rn.k (mkE [(0, (V.int .u8 x0))] 8) ?_
  unfold F91 at h
  refine Rn.g ?_
  refine Ro.t 1 ?_
  refine Ro.d (mkE [(0, (V.int .u8 x0))] 8) ?_
  refine Rn.g ?_
  refine Ro.t 1 ?_
  rcases tf (decide (x0 ≥ (1 : Int))) with h8204 | h8204
  · rw [ite_t h8204] at h; refine Ro.p (bool_of h8204) ?_
    refine Ro.t 5 ?_
    refine Ro.d (mkE [(2, (V.bool (decide (x0 ≤ (5 : Int)))))] 6) ?_
    refine Run.ret ?_
    have h := Option.some.inj h; subst h
    exact ⟨(V.bool (decide (x0 ≤ (5 : Int)))), (by kernel_rfl), (by kernel_rfl), hp⟩
  · rw [ite_f h8204] at h; refine Ro.p (bool_of h8204) ?_
    refine Ro.t 5 ?_
    refine Ro.d (mkE [(2, (V.bool false))] 6) ?_
    refine Run.ret ?_
    have h := Option.some.inj h; subst h
    exact ⟨(V.bool false), (by kernel_rfl), (by kernel_rfl), hp⟩

theorem c91 {x0 : Int} {r : Bool} (h : F91 x0 = some r) (s : Bool) : Fn T 91 [(V.int .u8 x0)] [] (fun v hh => deep s hh deepN v = some (EB.e r)) := by
  refine (w91 h HP.nil).mono ?_
  rintro v hh ⟨rfl, hp⟩
  exact EB.hd s hh 38 _ (.inr rfl)

/- smithy/smithyref07.variables -/
abbrev Q86 (L : List Ob) (r : Bool) : V → Heap → Prop := fun v h => v = EB.e r ∧ HP h (L)
abbrev RR86 (L : List Ob) (r : Bool) : List V → Heap → Prop := fun e h => endR none [4] (Q86 L r) e h

abbrev I86_1 (x0 : T_Graph) (x1 : (List Int)) (L : List Ob) : (Int) → List V → Heap → Prop := fun s e h => e = (mkE [(1, (Zl (EI .i64) x1)), (0, (V.fp (E_Graph.e x0))), (2, (i6 s))] 15) ∧ HP h (L)

abbrev J86_1 (x0 : T_Graph) (x1 : (List Int)) (L : List Ob) : Unit → Nat → List V → Heap → Prop := fun a i e h => i = 0 ∧ clrEnv [1, 2, 4, 5, 6, 7, 8, 9, 10, 11, 12, 13, 14, 15, 16, 17, 18, 19, 20] e = (mkE [] 21) ∧ HP h (L)

def F86_1_b (x0 : T_Graph) (x1 : (List Int)) (y8245 : Int) : Option (Stp (Int) Bool Unit) :=
  if (decide (y8245 < ((List.length x1 : Nat) : Int))) then
    (idx x1 y8245).bind fun y8265 =>
    (F38 y8265 ((List.length x0.fVars : Nat) : Int)).bind fun y8267 =>
    if (!y8267) then
      some (.ret false)
    else
      some (.next ((IntKind.i64.wrap (y8245 + (1 : Int)))))
  else
    some (.go ())

theorem w86_1_b {x0 : T_Graph} {x1 : (List Int)} {y8245 : Int} {t : (Stp (Int) Bool Unit)} (h : F86_1_b x0 x1 y8245 = some t) {H : Heap} {L : List Ob} (hp : HP H (L)) :
    Run T i86n13 (mkE [(1, (Zl (EI .i64) x1)), (0, (V.fp (E_Graph.e x0))), (2, (i6 y8245))] 15) H (stp [4, 6, 7, 8, 9, 10, 11, 12, 13, 14, 15, 16, 17, 18, 19, 20] (I86_1 x0 x1 L) (RR86 L) (J86_1 x0 x1 L) t) := by
  unfold F86_1_b at h
  refine Run.seq ?_
  refine Rn.g ?_
  refine Ro.t 2 ?_
  refine Ro.p (len_fz (EI .i64) x1) ?_
  refine Ro.t 1 ?_
  refine Ro.d (mkE [(1, (Zl (EI .i64) x1)), (0, (V.fp (E_Graph.e x0))), (2, (i6 y8245)), (3, (V.bool (decide (y8245 < (ln x1)))))] 11) ?_
  rcases tf (decide (y8245 < (ln x1))) with h8259 | h8259
  · rw [ite_t h8259] at h; refine Rn.t h8259 ?_
    refine Run.skip ?_
    refine Rn.c (mkE [(1, (Zl (EI .i64) x1)), (0, (V.fp (E_Graph.e x0))), (2, (i6 y8245))] 15) ?_
    refine Run.seq ?_
    refine Run.block ?_
    refine Rn.g ?_
    refine Ro.t 2 ?_
    obtain ⟨y8265, h8266, h⟩ := bind_some h
    refine Ro.p (idx_fz (EI .i64) .i64 h8266) ?_
    refine Ro.t 3 ?_
    refine Ro.p (len_fz (EI .u8) x0.fVars) ?_
    obtain ⟨y8267, h8268, h⟩ := bind_some h
    refine RunO.c1 (by kernel_rfl) (by kernel_rfl) (c38 h8268 _) ?_
    refine Ro.t 1 ?_
    refine Ro.d (mkE [(1, (Zl (EI .i64) x1)), (0, (V.fp (E_Graph.e x0))), (2, (i6 y8245)), (14, (V.bool (!y8267)))] 0) ?_
    rcases tf (!y8267) with h8269 | h8269
    · rw [ite_t h8269] at h; refine Rn.t h8269 ?_
      refine Rn.g ?_
      refine Ro.t 1 ?_
      refine Ro.d (mkE [(4, (V.bool false))] 16) ?_
      refine Run.ret ?_
      have h := Option.some.inj h; subst h
      show RR86 L _ _ _
      exact ⟨(V.bool false), (by kernel_rfl), (by kernel_rfl), hp⟩
    · rw [ite_f h8269] at h; refine Rn.f h8269 ?_
      refine Run.skip ?_
      refine Run.clrE (ts := [4, 12, 13, 14, 15, 16, 17, 18, 19, 20]) (b := (.rgn i86r11)) (Q := (stp [4, 6, 7, 8, 9, 10, 11, 12, 13, 14, 15, 16, 17, 18, 19, 20] (I86_1 x0 x1 L) (RR86 L) (J86_1 x0 x1 L) t)) (e' := (mkE [(1, (Zl (EI .i64) x1)), (0, (V.fp (E_Graph.e x0))), (2, (i6 y8245))] 15)) (by kernel_rfl) ?_
      refine Run.rgn ?_
      refine Ro.t 3 ?_
      refine RunO.nil ?_
      have h := Option.some.inj h; subst h
      show I86_1 x0 x1 L _ _ _
      exact ⟨(by kernel_rfl), hp⟩
  · rw [ite_f h8259] at h; refine Rn.f h8259 ?_
    refine Run.exit ?_
    have h := Option.some.inj h; subst h
    show J86_1 x0 x1 L () _ _ _
    exact ⟨rfl, (by kernel_rfl), hp⟩

def F86 (x0 : T_Graph) (x1 : (List Int)) : Option Bool :=
  (iter (fun s : (Int) => F86_1_b x0 x1 s) FUEL ((0 : Int))).bind fun o => match o with
  | .ret r => some r
  | .go () =>
    some true

theorem w86 {x0 : T_Graph} {x1 : (List Int)} {r : Bool} (h : F86 x0 x1 = some r) {H : Heap} {L : List Ob} (hp : HP H (L)) : Fn T 86 [(E_Graph.e x0), (Zl (EI .i64) x1)] H (Q86 L r) := by
  refine Fn.enterE t86 (e0 := (mkE [(0, (E_Graph.e x0)), (0, (Zl (EI .i64) x1))] 19)) (by kernel_rfl) ?_
  show Run T (.clr [] i86n20) _ _ (finE none [4] (Q86 L r))
  refine Rn.k (mkE [(0, (E_Graph.e x0)), (0, (Zl (EI .i64) x1))] 19) ?_
  unfold F86 at h
  refine Rn.g ?_
  refine Ro.t 2 ?_
  refine Ro.d (mkE [(1, (Zl (EI .i64) x1)), (0, (V.fp (E_Graph.e x0)))] 18) ?_
  refine Run.seq ?_
  refine Rn.g ?_
  refine Ro.t 1 ?_
  refine Ro.d (mkE [(1, (Zl (EI .i64) x1)), (0, (V.fp (E_Graph.e x0))), (2, (i6 (0 : Int)))] 15) ?_
  refine Run.block ?_
  obtain ⟨o, h8270, h⟩ := bind_some h
  refine (Run.iter (I := I86_1 x0 x1 L) (RR := RR86 L) (J := J86_1 x0 x1 L) (fun s e h' t hI hf => ?_) FUEL h8270 (by exact ⟨(by kernel_rfl), hp⟩)).mono ?_
  · obtain ⟨rfl, hp⟩ := hI; exact w86_1_b hf hp
  · rintro X e' H hq
    cases o with
    | ret r => cases X <;> first | exact hq.elim | (cases h; exact hq)
    | go a => 
      cases X with | nrm => exact hq.elim | ret => exact hq.elim | ext i => ?_
      obtain ⟨rfl, he, hp⟩ := hq
      dsimp only at h
      refine Run.clrE (ts := [1, 2, 4, 5, 6, 7, 8, 9, 10, 11, 12, 13, 14, 15, 16, 17, 18, 19, 20]) (b := i86n18) (Q := (finE none [4] (Q86 L r))) he ?_
      refine Rn.g ?_
      refine Ro.t 1 ?_
      refine Ro.d (mkE [(4, (V.bool true))] 16) ?_
      refine Run.ret ?_
      have h := Option.some.inj h; subst h
      exact ⟨(V.bool true), (by kernel_rfl), (by kernel_rfl), hp⟩

theorem c86 {x0 : T_Graph} {x1 : (List Int)} {r : Bool} (h : F86 x0 x1 = some r) (s : Bool) : Fn T 86 [(E_Graph.e x0), (Zl (EI .i64) x1)] [] (fun v hh => deep s hh deepN v = some (EB.e r)) := by
  refine (w86 h HP.nil).mono ?_
  rintro v hh ⟨rfl, hp⟩
  exact EB.hd s hh 38 _ (.inr rfl)

/- smithy/smithyref07.place -/
abbrev Q49 (L : List Ob) (r : Int) : V → Heap → Prop := fun v h => v = (EI .i64).e r ∧ HP h (L)
abbrev RR49 (L : List Ob) (r : Int) : List V → Heap → Prop := fun e h => endR none [4] (Q49 L r) e h

abbrev I49_1 (x0 : (List Int)) (x1 : Int) (L : List Ob) : (Int) → List V → Heap → Prop := fun s e h => e = (mkE [(0, (Zl (EI .i64) x0)), (0, (i6 x1)), (3, (i6 s))] 13) ∧ HP h (L)

abbrev J49_1 (x0 : (List Int)) (x1 : Int) (L : List Ob) : Unit → Nat → List V → Heap → Prop := fun a i e h => i = 0 ∧ clrEnv [0, 1, 4, 5, 6, 7, 8, 9, 10, 11, 12, 13, 14, 15, 16, 17, 18] e = (mkE [] 19) ∧ HP h (L)

def F49_1_b (x0 : (List Int)) (x1 : Int) (y8390 : Int) : Option (Stp (Int) Int Unit) :=
  if (decide (y8390 < ((List.length x0 : Nat) : Int))) then
    (idx x0 y8390).bind fun y8404 =>
    if (y8404 == x1) then
      some (.ret y8390)
    else
      some (.next ((IntKind.i64.wrap (y8390 + (1 : Int)))))
  else
    some (.go ())

theorem w49_1_b {x0 : (List Int)} {x1 : Int} {y8390 : Int} {t : (Stp (Int) Int Unit)} (h : F49_1_b x0 x1 y8390 = some t) {H : Heap} {L : List Ob} (hp : HP H (L)) :
    Run T i49n13 (mkE [(0, (Zl (EI .i64) x0)), (0, (i6 x1)), (3, (i6 y8390))] 13) H (stp [4, 6, 7, 8, 9, 10, 11, 12, 13, 14, 15, 16, 17, 18] (I49_1 x0 x1 L) (RR49 L) (J49_1 x0 x1 L) t) := by
  unfold F49_1_b at h
  refine Run.seq ?_
  refine Rn.g ?_
  refine Ro.t 2 ?_
  refine Ro.p (len_fz (EI .i64) x0) ?_
  refine Ro.t 1 ?_
  refine Ro.d (mkE [(0, (Zl (EI .i64) x0)), (0, (i6 x1)), (3, (i6 y8390)), (3, (V.bool (decide (y8390 < (ln x0)))))] 9) ?_
  rcases tf (decide (y8390 < (ln x0))) with h8400 | h8400
  · rw [ite_t h8400] at h; refine Rn.t h8400 ?_
    refine Run.skip ?_
    refine Rn.c (mkE [(0, (Zl (EI .i64) x0)), (0, (i6 x1)), (3, (i6 y8390))] 13) ?_
    refine Run.seq ?_
    refine Run.block ?_
    refine Rn.g ?_
    refine Ro.t 2 ?_
    obtain ⟨y8404, h8405, h⟩ := bind_some h
    refine Ro.p (idx_fz (EI .i64) .i64 h8405) ?_
    refine Ro.t 3 ?_
    refine Ro.d (mkE [(0, (Zl (EI .i64) x0)), (0, (i6 x1)), (3, (i6 y8390)), (11, (V.bool (y8404 == x1)))] 1) ?_
    rcases tf (y8404 == x1) with h8406 | h8406
    · rw [ite_t h8406] at h; refine Rn.t h8406 ?_
      refine Rn.g ?_
      refine Ro.t 2 ?_
      refine Ro.d (mkE [(4, (i6 y8390))] 14) ?_
      refine Run.ret ?_
      have h := Option.some.inj h; subst h
      show RR49 L _ _ _
      exact ⟨(i6 y8390), (by kernel_rfl), (by kernel_rfl), hp⟩
    · rw [ite_f h8406] at h; refine Rn.f h8406 ?_
      refine Run.skip ?_
      refine Run.clrE (ts := [4, 12, 13, 14, 15, 16, 17, 18]) (b := (.rgn i49r11)) (Q := (stp [4, 6, 7, 8, 9, 10, 11, 12, 13, 14, 15, 16, 17, 18] (I49_1 x0 x1 L) (RR49 L) (J49_1 x0 x1 L) t)) (e' := (mkE [(0, (Zl (EI .i64) x0)), (0, (i6 x1)), (3, (i6 y8390))] 13)) (by kernel_rfl) ?_
      refine Run.rgn ?_
      refine Ro.t 3 ?_
      refine RunO.nil ?_
      have h := Option.some.inj h; subst h
      show I49_1 x0 x1 L _ _ _
      exact ⟨(by kernel_rfl), hp⟩
  · rw [ite_f h8400] at h; refine Rn.f h8400 ?_
    refine Run.exit ?_
    have h := Option.some.inj h; subst h
    show J49_1 x0 x1 L () _ _ _
    exact ⟨rfl, (by kernel_rfl), hp⟩

def F49 (x0 : (List Int)) (x1 : Int) : Option Int :=
  (iter (fun s : (Int) => F49_1_b x0 x1 s) FUEL ((0 : Int))).bind fun o => match o with
  | .ret r => some r
  | .go () =>
    some (-1 : Int)

theorem w49 {x0 : (List Int)} {x1 : Int} {r : Int} (h : F49 x0 x1 = some r) {H : Heap} {L : List Ob} (hp : HP H (L)) : Fn T 49 [(Zl (EI .i64) x0), (i6 x1)] H (Q49 L r) := by
  refine Fn.enterE t49 (e0 := (mkE [(0, (Zl (EI .i64) x0)), (0, (i6 x1))] 17)) (by kernel_rfl) ?_
  show Run T (.clr [] i49n20) _ _ (finE none [4] (Q49 L r))
  refine Rn.k (mkE [(0, (Zl (EI .i64) x0)), (0, (i6 x1))] 17) ?_
  unfold F49 at h
  refine Rn.g ?_
  refine Ro.t 1 ?_
  refine Ro.d (mkE [(0, (Zl (EI .i64) x0)), (0, (i6 x1))] 17) ?_
  refine Run.seq ?_
  refine Rn.g ?_
  refine Ro.t 1 ?_
  refine Ro.d (mkE [(0, (Zl (EI .i64) x0)), (0, (i6 x1)), (3, (i6 (0 : Int)))] 13) ?_
  refine Run.block ?_
  obtain ⟨o, h8407, h⟩ := bind_some h
  refine (Run.iter (I := I49_1 x0 x1 L) (RR := RR49 L) (J := J49_1 x0 x1 L) (fun s e h' t hI hf => ?_) FUEL h8407 (by exact ⟨(by kernel_rfl), hp⟩)).mono ?_
  · obtain ⟨rfl, hp⟩ := hI; exact w49_1_b hf hp
  · rintro X e' H hq
    cases o with
    | ret r => cases X <;> first | exact hq.elim | (cases h; exact hq)
    | go a => 
      cases X with | nrm => exact hq.elim | ret => exact hq.elim | ext i => ?_
      obtain ⟨rfl, he, hp⟩ := hq
      dsimp only at h
      refine Run.clrE (ts := [0, 1, 4, 5, 6, 7, 8, 9, 10, 11, 12, 13, 14, 15, 16, 17, 18]) (b := i49n18) (Q := (finE none [4] (Q49 L r))) he ?_
      refine Rn.g ?_
      refine Ro.t 1 ?_
      refine Ro.d (mkE [(4, (i6 (-1 : Int)))] 14) ?_
      refine Run.ret ?_
      have h := Option.some.inj h; subst h
      exact ⟨(i6 (-1 : Int)), (by kernel_rfl), (by kernel_rfl), hp⟩

theorem c49 {x0 : (List Int)} {x1 : Int} {r : Int} (h : F49 x0 x1 = some r) (s : Bool) : Fn T 49 [(Zl (EI .i64) x0), (i6 x1)] [] (fun v hh => deep s hh deepN v = some ((EI .i64).e r)) := by
  refine (w49 h HP.nil).mono ?_
  rintro v hh ⟨rfl, hp⟩
  exact (EI .i64).hd s hh 38 _ (.inr rfl)

/- smithy/smithyref07.head -/
abbrev Q82 (L : List Ob) (r : Bool) : V → Heap → Prop := fun v h => v = EB.e r ∧ HP h (L)
abbrev RR82 (L : List Ob) (r : Bool) : List V → Heap → Prop := fun e h => endR none [2] (Q82 L r) e h

abbrev I82_1 (x0 : T_Graph) (L : List Ob) : (Int) → List V → Heap → Prop := fun s e h => e = (mkE [(1, (V.fp (E_Graph.e x0))), (1, (i6 s))] 108) ∧ HP h (L)

abbrev J82_1 (x0 : T_Graph) (L : List Ob) : Unit → Nat → List V → Heap → Prop := fun a i e h => i = 0 ∧ clrEnv [2, 3, 47, 48, 49, 50, 51, 52, 53, 54, 55, 56, 57, 58, 59, 60] e = (mkE [(1, (V.fp (E_Graph.e x0)))] 110) ∧ HP h (L)

def F82_1_b (x0 : T_Graph) (y8469 : Int) : Option (Stp (Int) Bool Unit) :=
  if (decide (y8469 < ((List.length x0.fVars : Nat) : Int))) then
    (idx x0.fVars y8469).bind fun y8489 =>
    (F91 y8489).bind fun y8491 =>
    if (!y8491) then
      some (.ret false)
    else
      some (.next ((IntKind.i64.wrap (y8469 + (1 : Int)))))
  else
    some (.go ())

theorem w82_1_b {x0 : T_Graph} {y8469 : Int} {t : (Stp (Int) Bool Unit)} (h : F82_1_b x0 y8469 = some t) {H : Heap} {L : List Ob} (hp : HP H (L)) :
    Run T i82n18 (mkE [(1, (V.fp (E_Graph.e x0))), (1, (i6 y8469))] 108) H (stp [2, 47, 48, 49, 50, 51, 52, 53, 54, 55, 56, 57, 58, 59, 60] (I82_1 x0 L) (RR82 L) (J82_1 x0 L) t) := by
  unfold F82_1_b at h
  refine Run.seq ?_
  refine Rn.g ?_
  refine Ro.t 3 ?_
  refine Ro.p (len_fz (EI .u8) x0.fVars) ?_
  refine Ro.t 1 ?_
  refine Ro.d (mkE [(1, (V.fp (E_Graph.e x0))), (1, (i6 y8469)), (47, (V.bool (decide (y8469 < (ln x0.fVars)))))] 60) ?_
  rcases tf (decide (y8469 < (ln x0.fVars))) with h8483 | h8483
  · rw [ite_t h8483] at h; refine Rn.t h8483 ?_
    refine Run.skip ?_
    refine Rn.c (mkE [(1, (V.fp (E_Graph.e x0))), (1, (i6 y8469))] 108) ?_
    refine Run.seq ?_
    refine Run.block ?_
    refine Rn.g ?_
    refine Ro.t 3 ?_
    obtain ⟨y8489, h8490, h⟩ := bind_some h
    refine Ro.p (idx_fz (EI .u8) .i64 h8490) ?_
    refine Ro.t 1 ?_
    obtain ⟨y8491, h8492, h⟩ := bind_some h
    refine RunO.c1 (by kernel_rfl) (by kernel_rfl) (c91 h8492 _) ?_
    refine Ro.t 1 ?_
    refine Ro.d (mkE [(1, (V.fp (E_Graph.e x0))), (1, (i6 y8469)), (56, (V.bool (!y8491)))] 51) ?_
    rcases tf (!y8491) with h8493 | h8493
    · rw [ite_t h8493] at h; refine Rn.t h8493 ?_
      refine Rn.g ?_
      refine Ro.t 1 ?_
      refine Ro.d (mkE [(2, (V.bool false))] 109) ?_
      refine Run.ret ?_
      have h := Option.some.inj h; subst h
      show RR82 L _ _ _
      exact ⟨(V.bool false), (by kernel_rfl), (by kernel_rfl), hp⟩
    · rw [ite_f h8493] at h; refine Rn.f h8493 ?_
      refine Run.skip ?_
      refine Run.clrE (ts := [2, 54, 55, 56, 57, 58, 59, 60]) (b := (.rgn i82r16)) (Q := (stp [2, 47, 48, 49, 50, 51, 52, 53, 54, 55, 56, 57, 58, 59, 60] (I82_1 x0 L) (RR82 L) (J82_1 x0 L) t)) (e' := (mkE [(1, (V.fp (E_Graph.e x0))), (1, (i6 y8469))] 108)) (by kernel_rfl) ?_
      refine Run.rgn ?_
      refine Ro.t 3 ?_
      refine RunO.nil ?_
      have h := Option.some.inj h; subst h
      show I82_1 x0 L _ _ _
      exact ⟨(by kernel_rfl), hp⟩
  · rw [ite_f h8483] at h; refine Rn.f h8483 ?_
    refine Run.exit ?_
    have h := Option.some.inj h; subst h
    show J82_1 x0 L () _ _ _
    exact ⟨rfl, (by kernel_rfl), hp⟩

abbrev I82_2 (x0 : T_Graph) (L : List Ob) : (Int) → List V → Heap → Prop := fun s e h => e = (mkE [(1, (V.fp (E_Graph.e x0))), (2, (i6 s))] 107) ∧ HP h (L)

abbrev J82_2 (x0 : T_Graph) (L : List Ob) : Unit → Nat → List V → Heap → Prop := fun a i e h => i = 2 ∧ clrEnv [2, 4, 61, 62, 63, 64, 65, 66, 67, 68, 69, 70, 71, 72, 73, 74, 75, 76, 77, 78, 79, 80, 81, 82, 83, 84, 85, 86, 87, 88, 89, 90, 91, 92, 93] e = (mkE [(1, (V.fp (E_Graph.e x0)))] 110) ∧ HP h (L)

def F82_2_b (x0 : T_Graph) (y8519 : Int) : Option (Stp (Int) Bool Unit) :=
  if (decide (y8519 < ((List.length x0.fArrays : Nat) : Int))) then
    (idx x0.fArrays y8519).bind fun y8557 =>
    (F91 y8557.fType).bind fun y8559 =>
    if y8559 then
      (idx x0.fArrays y8519).bind fun y8562 =>
      if (decide (y8562.fSize < (1 : Int))) then
        some (.ret false)
      else
        (idx x0.fArrays y8519).bind fun y8565 =>
        if (decide (y8565.fSize > (256 : Int))) then
          some (.ret false)
        else
          some (.next ((IntKind.i64.wrap (y8519 + (1 : Int)))))
    else
      some (.ret false)
  else
    some (.go ())

theorem w82_2_b {x0 : T_Graph} {y8519 : Int} {t : (Stp (Int) Bool Unit)} (h : F82_2_b x0 y8519 = some t) {H : Heap} {L : List Ob} (hp : HP H (L)) :
    Run T i82n34 (mkE [(1, (V.fp (E_Graph.e x0))), (2, (i6 y8519))] 107) H (stp [2, 61, 62, 63, 64, 65, 66, 67, 68, 69, 70, 71, 72, 73, 74, 75, 76, 77, 78, 79, 80, 81, 82, 83, 84, 85, 86, 87, 88, 89, 90, 91, 92, 93] (I82_2 x0 L) (RR82 L) (J82_2 x0 L) t) := by
  unfold F82_2_b at h
  refine Run.seq ?_
  refine Rn.g ?_
  refine Ro.t 3 ?_
  refine Ro.p (len_fz E_Array x0.fArrays) ?_
  refine Ro.t 1 ?_
  refine Ro.d (mkE [(1, (V.fp (E_Graph.e x0))), (2, (i6 y8519)), (60, (V.bool (decide (y8519 < (ln x0.fArrays)))))] 46) ?_
  rcases tf (decide (y8519 < (ln x0.fArrays))) with h8545 | h8545
  · rw [ite_t h8545] at h; refine Rn.t h8545 ?_
    refine Run.skip ?_
    refine Rn.c (mkE [(1, (V.fp (E_Graph.e x0))), (2, (i6 y8519))] 107) ?_
    refine Run.seq ?_
    refine Run.block ?_
    refine Rn.g ?_
    refine Ro.t 3 ?_
    obtain ⟨y8557, h8558, h⟩ := bind_some h
    refine Ro.p (idx_fz E_Array .i64 h8558) ?_
    refine Ro.t 2 ?_
    obtain ⟨y8559, h8560, h⟩ := bind_some h
    rcases tf y8559 with h8561 | h8561
    · subst h8561; rw [if_pos rfl] at h
      refine RunO.c1 (by kernel_rfl) (by kernel_rfl) (c91 h8560 _) ?_
      refine Ro.t 5 ?_
      obtain ⟨y8562, h8563, h⟩ := bind_some h
      refine Ro.p (idx_fz E_Array .i64 h8563) ?_
      refine Ro.t 2 ?_
      rcases tf (decide (y8562.fSize < (1 : Int))) with h8564 | h8564
      · rw [ite_t h8564] at h; refine Ro.p (bool_of h8564) ?_
        refine Ro.t 10 ?_
        refine Ro.d (mkE [(1, (V.fp (E_Graph.e x0))), (2, (i6 y8519)), (88, (V.bool true))] 18) ?_
        refine Run.condT (by kernel_rfl) ?_
        refine Rn.g ?_
        refine Ro.t 1 ?_
        refine Ro.d (mkE [(2, (V.bool false))] 109) ?_
        refine Run.ret ?_
        have h := Option.some.inj h; subst h
        show RR82 L _ _ _
        exact ⟨(V.bool false), (by kernel_rfl), (by kernel_rfl), hp⟩
      · rw [ite_f h8564] at h; refine Ro.p (bool_of h8564) ?_
        refine Ro.t 5 ?_
        obtain ⟨y8565, h8566, h⟩ := bind_some h
        refine Ro.p (idx_fz E_Array .i64 h8566) ?_
        refine Ro.t 4 ?_
        refine Ro.d (mkE [(1, (V.fp (E_Graph.e x0))), (2, (i6 y8519)), (88, (V.bool (decide (y8565.fSize > (256 : Int)))))] 18) ?_
        rcases tf (decide (y8565.fSize > (256 : Int))) with h8567 | h8567
        · rw [ite_t h8567] at h; refine Rn.t h8567 ?_
          refine Rn.g ?_
          refine Ro.t 1 ?_
          refine Ro.d (mkE [(2, (V.bool false))] 109) ?_
          refine Run.ret ?_
          have h := Option.some.inj h; subst h
          show RR82 L _ _ _
          exact ⟨(V.bool false), (by kernel_rfl), (by kernel_rfl), hp⟩
        · rw [ite_f h8567] at h; refine Rn.f h8567 ?_
          refine Run.skip ?_
          refine Run.clrE (ts := [2, 68, 69, 70, 71, 72, 73, 74, 75, 76, 77, 78, 79, 80, 81, 82, 83, 84, 85, 86, 87, 88, 89, 90, 91, 92, 93]) (b := (.rgn i82r32)) (Q := (stp [2, 61, 62, 63, 64, 65, 66, 67, 68, 69, 70, 71, 72, 73, 74, 75, 76, 77, 78, 79, 80, 81, 82, 83, 84, 85, 86, 87, 88, 89, 90, 91, 92, 93] (I82_2 x0 L) (RR82 L) (J82_2 x0 L) t)) (e' := (mkE [(1, (V.fp (E_Graph.e x0))), (2, (i6 y8519))] 107)) (by kernel_rfl) ?_
          refine Run.rgn ?_
          refine Ro.t 3 ?_
          refine RunO.nil ?_
          have h := Option.some.inj h; subst h
          show I82_2 x0 L _ _ _
          exact ⟨(by kernel_rfl), hp⟩
    · subst h8561; rw [if_neg (by decide)] at h
      refine RunO.c1 (by kernel_rfl) (by kernel_rfl) (c91 h8560 _) ?_
      refine Ro.t 19 ?_
      refine Ro.d (mkE [(1, (V.fp (E_Graph.e x0))), (2, (i6 y8519)), (88, (V.bool true))] 18) ?_
      refine Run.condT (by kernel_rfl) ?_
      refine Rn.g ?_
      refine Ro.t 1 ?_
      refine Ro.d (mkE [(2, (V.bool false))] 109) ?_
      refine Run.ret ?_
      have h := Option.some.inj h; subst h
      show RR82 L _ _ _
      exact ⟨(V.bool false), (by kernel_rfl), (by kernel_rfl), hp⟩
  · rw [ite_f h8545] at h; refine Rn.f h8545 ?_
    refine Run.exit ?_
    have h := Option.some.inj h; subst h
    show J82_2 x0 L () _ _ _
    exact ⟨rfl, (by kernel_rfl), hp⟩

abbrev I82_3 (x0 : T_Graph) (L : List Ob) : (Int) → List V → Heap → Prop := fun s e h => e = (mkE [(1, (V.fp (E_Graph.e x0))), (3, (i6 s))] 106) ∧ HP h (L)

abbrev J82_3 (x0 : T_Graph) (L : List Ob) : Unit → Nat → List V → Heap → Prop := fun a i e h => i = 4 ∧ clrEnv [1, 2, 5, 94, 95, 96, 97, 98, 99, 100, 101, 102, 103, 104, 105, 106, 107, 108, 109, 110, 111] e = (mkE [] 112) ∧ HP h (L)

def F82_3_b (x0 : T_Graph) (y8585 : Int) : Option (Stp (Int) Bool Unit) :=
  if (decide (y8585 < ((List.length x0.fParams : Nat) : Int))) then
    (part x0.fParams 0 y8585).bind fun y8611 =>
    (idx x0.fParams y8585).bind fun y8613 =>
    (F49 y8611 y8613).bind fun y8615 =>
    if (decide (y8615 ≥ (0 : Int))) then
      some (.ret false)
    else
      some (.next ((IntKind.i64.wrap (y8585 + (1 : Int)))))
  else
    some (.go ())

theorem w82_3_b {x0 : T_Graph} {y8585 : Int} {t : (Stp (Int) Bool Unit)} (h : F82_3_b x0 y8585 = some t) {H : Heap} {L : List Ob} (hp : HP H (L)) :
    Run T i82n50 (mkE [(1, (V.fp (E_Graph.e x0))), (3, (i6 y8585))] 106) H (stp [2, 94, 95, 96, 97, 98, 99, 100, 101, 102, 103, 104, 105, 106, 107, 108, 109, 110, 111] (I82_3 x0 L) (RR82 L) (J82_3 x0 L) t) := by
  unfold F82_3_b at h
  refine Run.seq ?_
  refine Rn.g ?_
  refine Ro.t 3 ?_
  refine Ro.p (len_fz (EI .i64) x0.fParams) ?_
  refine Ro.t 1 ?_
  refine Ro.d (mkE [(1, (V.fp (E_Graph.e x0))), (3, (i6 y8585)), (92, (V.bool (decide (y8585 < (ln x0.fParams)))))] 13) ?_
  rcases tf (decide (y8585 < (ln x0.fParams))) with h8603 | h8603
  · rw [ite_t h8603] at h; refine Rn.t h8603 ?_
    refine Run.skip ?_
    refine Rn.c (mkE [(1, (V.fp (E_Graph.e x0))), (3, (i6 y8585))] 106) ?_
    refine Run.seq ?_
    refine Run.block ?_
    refine Rn.g ?_
    refine Ro.t 3 ?_
    obtain ⟨y8611, h8612, h⟩ := bind_some h
    refine Ro.p (slc_fz0 (EI .i64) .i64 (by decide) h8612) ?_
    refine Ro.t 3 ?_
    obtain ⟨y8613, h8614, h⟩ := bind_some h
    refine Ro.p (idx_fz (EI .i64) .i64 h8614) ?_
    refine Ro.t 1 ?_
    obtain ⟨y8615, h8616, h⟩ := bind_some h
    refine RunO.c1 (by kernel_rfl) (by kernel_rfl) (c49 h8616 _) ?_
    refine Ro.t 1 ?_
    refine Ro.d (mkE [(1, (V.fp (E_Graph.e x0))), (3, (i6 y8585)), (105, (V.bool (decide (y8615 ≥ (0 : Int)))))] 0) ?_
    rcases tf (decide (y8615 ≥ (0 : Int))) with h8617 | h8617
    · rw [ite_t h8617] at h; refine Rn.t h8617 ?_
      refine Rn.g ?_
      refine Ro.t 1 ?_
      refine Ro.d (mkE [(2, (V.bool false))] 109) ?_
      refine Run.ret ?_
      have h := Option.some.inj h; subst h
      show RR82 L _ _ _
      exact ⟨(V.bool false), (by kernel_rfl), (by kernel_rfl), hp⟩
    · rw [ite_f h8617] at h; refine Rn.f h8617 ?_
      refine Run.skip ?_
      refine Run.clrE (ts := [2, 101, 102, 103, 104, 105, 106, 107, 108, 109, 110, 111]) (b := (.rgn i82r48)) (Q := (stp [2, 94, 95, 96, 97, 98, 99, 100, 101, 102, 103, 104, 105, 106, 107, 108, 109, 110, 111] (I82_3 x0 L) (RR82 L) (J82_3 x0 L) t)) (e' := (mkE [(1, (V.fp (E_Graph.e x0))), (3, (i6 y8585))] 106)) (by kernel_rfl) ?_
      refine Run.rgn ?_
      refine Ro.t 3 ?_
      refine RunO.nil ?_
      have h := Option.some.inj h; subst h
      show I82_3 x0 L _ _ _
      exact ⟨(by kernel_rfl), hp⟩
  · rw [ite_f h8603] at h; refine Rn.f h8603 ?_
    refine Run.exit ?_
    have h := Option.some.inj h; subst h
    show J82_3 x0 L () _ _ _
    exact ⟨rfl, (by kernel_rfl), hp⟩

def F82 (x0 : T_Graph) : Option Bool :=
  if (decide (((List.length x0.fBlocks : Nat) : Int) < (1 : Int))) then
    some false
  else
    if (decide (((List.length x0.fBlocks : Nat) : Int) > (1048576 : Int))) then
      some false
    else
      if (decide (((List.length x0.fVars : Nat) : Int) > (1048576 : Int))) then
        some false
      else
        if (decide (((List.length x0.fArrays : Nat) : Int) > (1048576 : Int))) then
          some false
        else
          if (decide (((List.length x0.fParams : Nat) : Int) > (8 : Int))) then
            some false
          else
            (F91 x0.fResult).bind fun y8451 =>
            if y8451 then
              (F86 x0 x0.fParams).bind fun y8454 =>
              if (!y8454) then
                some false
              else
                (iter (fun s : (Int) => F82_1_b x0 s) FUEL ((0 : Int))).bind fun o => match o with
                | .ret r => some r
                | .go () =>
                  (iter (fun s : (Int) => F82_2_b x0 s) FUEL ((0 : Int))).bind fun o => match o with
                  | .ret r => some r
                  | .go () =>
                    (iter (fun s : (Int) => F82_3_b x0 s) FUEL ((0 : Int))).bind fun o => match o with
                    | .ret r => some r
                    | .go () =>
                      some true
            else
              some false

theorem w82 {x0 : T_Graph} {r : Bool} (h : F82 x0 = some r) {H : Heap} {L : List Ob} (hp : HP H (L)) : Fn T 82 [(E_Graph.e x0)] H (Q82 L r) := by
  refine Fn.enterE t82 (e0 := (mkE [(0, (E_Graph.e x0))] 111)) (by kernel_rfl) ?_
  show Run T (.clr [] i82n60) _ _ (finE none [2] (Q82 L r))
  refine Rn.k (mkE [(0, (E_Graph.e x0))] 111) ?_
  unfold F82 at h
  refine Rn.g ?_
  refine Ro.t 2 ?_
  refine Ro.d (mkE [(1, (V.fp (E_Graph.e x0)))] 110) ?_
  refine Run.seq ?_
  refine Rn.g ?_
  refine Ro.t 2 ?_
  refine Ro.p (len_fz E_Block x0.fBlocks) ?_
  rcases tf (decide ((ln x0.fBlocks) < (1 : Int))) with h8446 | h8446
  · rw [ite_t h8446] at h; refine Ro.p (bool_of h8446) ?_
    refine Ro.t 37 ?_
    refine Ro.d (mkE [(1, (V.fp (E_Graph.e x0))), (44, (V.bool true))] 65) ?_
    refine Run.condT (by kernel_rfl) ?_
    refine Rn.g ?_
    refine Ro.t 1 ?_
    refine Ro.d (mkE [(2, (V.bool false))] 109) ?_
    refine Run.ret ?_
    have h := Option.some.inj h; subst h
    exact ⟨(V.bool false), (by kernel_rfl), (by kernel_rfl), hp⟩
  · rw [ite_f h8446] at h; refine Ro.p (bool_of h8446) ?_
    refine Ro.t 3 ?_
    refine Ro.p (len_fz E_Block x0.fBlocks) ?_
    rcases tf (decide ((ln x0.fBlocks) > (1048576 : Int))) with h8447 | h8447
    · rw [ite_t h8447] at h; refine Ro.p (bool_of h8447) ?_
      refine Ro.t 32 ?_
      refine Ro.d (mkE [(1, (V.fp (E_Graph.e x0))), (44, (V.bool true))] 65) ?_
      refine Run.condT (by kernel_rfl) ?_
      refine Rn.g ?_
      refine Ro.t 1 ?_
      refine Ro.d (mkE [(2, (V.bool false))] 109) ?_
      refine Run.ret ?_
      have h := Option.some.inj h; subst h
      exact ⟨(V.bool false), (by kernel_rfl), (by kernel_rfl), hp⟩
    · rw [ite_f h8447] at h; refine Ro.p (bool_of h8447) ?_
      refine Ro.t 4 ?_
      refine Ro.p (len_fz (EI .u8) x0.fVars) ?_
      rcases tf (decide ((ln x0.fVars) > (1048576 : Int))) with h8448 | h8448
      · rw [ite_t h8448] at h; refine Ro.p (bool_of h8448) ?_
        refine Ro.t 26 ?_
        refine Ro.d (mkE [(1, (V.fp (E_Graph.e x0))), (44, (V.bool true))] 65) ?_
        refine Run.condT (by kernel_rfl) ?_
        refine Rn.g ?_
        refine Ro.t 1 ?_
        refine Ro.d (mkE [(2, (V.bool false))] 109) ?_
        refine Run.ret ?_
        have h := Option.some.inj h; subst h
        exact ⟨(V.bool false), (by kernel_rfl), (by kernel_rfl), hp⟩
      · rw [ite_f h8448] at h; refine Ro.p (bool_of h8448) ?_
        refine Ro.t 4 ?_
        refine Ro.p (len_fz E_Array x0.fArrays) ?_
        rcases tf (decide ((ln x0.fArrays) > (1048576 : Int))) with h8449 | h8449
        · rw [ite_t h8449] at h; refine Ro.p (bool_of h8449) ?_
          refine Ro.t 20 ?_
          refine Ro.d (mkE [(1, (V.fp (E_Graph.e x0))), (44, (V.bool true))] 65) ?_
          refine Run.condT (by kernel_rfl) ?_
          refine Rn.g ?_
          refine Ro.t 1 ?_
          refine Ro.d (mkE [(2, (V.bool false))] 109) ?_
          refine Run.ret ?_
          have h := Option.some.inj h; subst h
          exact ⟨(V.bool false), (by kernel_rfl), (by kernel_rfl), hp⟩
        · rw [ite_f h8449] at h; refine Ro.p (bool_of h8449) ?_
          refine Ro.t 4 ?_
          refine Ro.p (len_fz (EI .i64) x0.fParams) ?_
          rcases tf (decide ((ln x0.fParams) > (8 : Int))) with h8450 | h8450
          · rw [ite_t h8450] at h; refine Ro.p (bool_of h8450) ?_
            refine Ro.t 14 ?_
            refine Ro.d (mkE [(1, (V.fp (E_Graph.e x0))), (44, (V.bool true))] 65) ?_
            refine Run.condT (by kernel_rfl) ?_
            refine Rn.g ?_
            refine Ro.t 1 ?_
            refine Ro.d (mkE [(2, (V.bool false))] 109) ?_
            refine Run.ret ?_
            have h := Option.some.inj h; subst h
            exact ⟨(V.bool false), (by kernel_rfl), (by kernel_rfl), hp⟩
          · rw [ite_f h8450] at h; refine Ro.p (bool_of h8450) ?_
            refine Ro.t 4 ?_
            obtain ⟨y8451, h8452, h⟩ := bind_some h
            rcases tf y8451 with h8453 | h8453
            · subst h8453; rw [if_pos rfl] at h
              refine RunO.c1 (by kernel_rfl) (by kernel_rfl) (c91 h8452 _) ?_
              refine Ro.t 6 ?_
              obtain ⟨y8454, h8455, h⟩ := bind_some h
              refine RunO.c1 (by kernel_rfl) (by kernel_rfl) (c86 h8455 _) ?_
              refine Ro.t 2 ?_
              refine Ro.d (mkE [(1, (V.fp (E_Graph.e x0))), (44, (V.bool (!y8454)))] 65) ?_
              rcases tf (!y8454) with h8456 | h8456
              · rw [ite_t h8456] at h; refine Rn.t h8456 ?_
                refine Rn.g ?_
                refine Ro.t 1 ?_
                refine Ro.d (mkE [(2, (V.bool false))] 109) ?_
                refine Run.ret ?_
                have h := Option.some.inj h; subst h
                exact ⟨(V.bool false), (by kernel_rfl), (by kernel_rfl), hp⟩
              · rw [ite_f h8456] at h; refine Rn.f h8456 ?_
                refine Run.skip ?_
                refine Rn.c (mkE [(1, (V.fp (E_Graph.e x0)))] 110) ?_
                refine Run.seq ?_
                refine Rn.g ?_
                refine Ro.t 1 ?_
                refine Ro.d (mkE [(1, (V.fp (E_Graph.e x0))), (1, (i6 (0 : Int)))] 108) ?_
                refine Run.block ?_
                obtain ⟨o, h8494, h⟩ := bind_some h
                refine (Run.iter (I := I82_1 x0 L) (RR := RR82 L) (J := J82_1 x0 L) (fun s e h' t hI hf => ?_) FUEL h8494 (by exact ⟨(by kernel_rfl), hp⟩)).mono ?_
                · obtain ⟨rfl, hp⟩ := hI; exact w82_1_b hf hp
                · rintro X e' H hq
                  cases o with
                  | ret r => cases X <;> first | exact hq.elim | (cases h; exact hq)
                  | go a => 
                    cases X with | nrm => exact hq.elim | ret => exact hq.elim | ext i => ?_
                    obtain ⟨rfl, he, hp⟩ := hq
                    dsimp only at h
                    refine Run.clrE (ts := [2, 3, 47, 48, 49, 50, 51, 52, 53, 54, 55, 56, 57, 58, 59, 60]) (b := i82n57) (Q := (finE none [2] (Q82 L r))) he ?_
                    refine Run.seq ?_
                    refine Rn.g ?_
                    refine Ro.t 1 ?_
                    refine Ro.d (mkE [(1, (V.fp (E_Graph.e x0))), (2, (i6 (0 : Int)))] 107) ?_
                    refine Run.block ?_
                    obtain ⟨o, h8568, h⟩ := bind_some h
                    refine (Run.iter (I := I82_2 x0 L) (RR := RR82 L) (J := J82_2 x0 L) (fun s e h' t hI hf => ?_) FUEL h8568 (by exact ⟨(by kernel_rfl), hp⟩)).mono ?_
                    · obtain ⟨rfl, hp⟩ := hI; exact w82_2_b hf hp
                    · rintro X e' H hq
                      cases o with
                      | ret r => cases X <;> first | exact hq.elim | (cases h; exact hq)
                      | go a => 
                        cases X with | nrm => exact hq.elim | ret => exact hq.elim | ext i => ?_
                        obtain ⟨rfl, he, hp⟩ := hq
                        dsimp only at h
                        refine Run.clrE (ts := [2, 4, 61, 62, 63, 64, 65, 66, 67, 68, 69, 70, 71, 72, 73, 74, 75, 76, 77, 78, 79, 80, 81, 82, 83, 84, 85, 86, 87, 88, 89, 90, 91, 92, 93]) (b := i82n56) (Q := (finE none [2] (Q82 L r))) he ?_
                        refine Run.seq ?_
                        refine Rn.g ?_
                        refine Ro.t 1 ?_
                        refine Ro.d (mkE [(1, (V.fp (E_Graph.e x0))), (3, (i6 (0 : Int)))] 106) ?_
                        refine Run.block ?_
                        obtain ⟨o, h8618, h⟩ := bind_some h
                        refine (Run.iter (I := I82_3 x0 L) (RR := RR82 L) (J := J82_3 x0 L) (fun s e h' t hI hf => ?_) FUEL h8618 (by exact ⟨(by kernel_rfl), hp⟩)).mono ?_
                        · obtain ⟨rfl, hp⟩ := hI; exact w82_3_b hf hp
                        · rintro X e' H hq
                          cases o with
                          | ret r => cases X <;> first | exact hq.elim | (cases h; exact hq)
                          | go a => 
                            cases X with | nrm => exact hq.elim | ret => exact hq.elim | ext i => ?_
                            obtain ⟨rfl, he, hp⟩ := hq
                            dsimp only at h
                            refine Run.clrE (ts := [1, 2, 5, 94, 95, 96, 97, 98, 99, 100, 101, 102, 103, 104, 105, 106, 107, 108, 109, 110, 111]) (b := i82n55) (Q := (finE none [2] (Q82 L r))) he ?_
                            refine Rn.g ?_
                            refine Ro.t 1 ?_
                            refine Ro.d (mkE [(2, (V.bool true))] 109) ?_
                            refine Run.ret ?_
                            have h := Option.some.inj h; subst h
                            exact ⟨(V.bool true), (by kernel_rfl), (by kernel_rfl), hp⟩
            · subst h8453; rw [if_neg (by decide)] at h
              refine RunO.c1 (by kernel_rfl) (by kernel_rfl) (c91 h8452 _) ?_
              refine Ro.t 9 ?_
              refine Ro.d (mkE [(1, (V.fp (E_Graph.e x0))), (44, (V.bool true))] 65) ?_
              refine Run.condT (by kernel_rfl) ?_
              refine Rn.g ?_
              refine Ro.t 1 ?_
              refine Ro.d (mkE [(2, (V.bool false))] 109) ?_
              refine Run.ret ?_
              have h := Option.some.inj h; subst h
              exact ⟨(V.bool false), (by kernel_rfl), (by kernel_rfl), hp⟩

theorem c82 {x0 : T_Graph} {r : Bool} (h : F82 x0 = some r) (s : Bool) : Fn T 82 [(E_Graph.e x0)] [] (fun v hh => deep s hh deepN v = some (EB.e r)) := by
  refine (w82 h HP.nil).mono ?_
  rintro v hh ⟨rfl, hp⟩
  exact EB.hd s hh 38 _ (.inr rfl)

/- smithy/smithyref07.inner -/
abbrev Q92 (L : List Ob) (r : Bool) : V → Heap → Prop := fun v h => v = EB.e r ∧ HP h (L)
abbrev RR92 (L : List Ob) (r : Bool) : List V → Heap → Prop := fun e h => endR none [4] (Q92 L r) e h

def F92 (x0 : Int) (x1 : Int) : Option Bool :=
  if (decide (x0 > (0 : Int))) then
    some (decide (x0 < x1))
  else
    some false

theorem w92 {x0 : Int} {x1 : Int} {r : Bool} (h : F92 x0 x1 = some r) {H : Heap} {L : List Ob} (hp : HP H (L)) : Fn T 92 [(i6 x0), (i6 x1)] H (Q92 L r) := by
  refine Fn.enterE t92 (e0 := (mkE [(0, (i6 x0)), (0, (i6 x1))] 10)) (by kernel_rfl) ?_
  show Run T (.clr [] i92n3) _ _ (finE none [4] (Q92 L r))
  refine Rn.k (mkE [(0, (i6 x0)), (0, (i6 x1))] 10) ?_
  unfold F92 at h
  refine Rn.g ?_
  refine Ro.t 1 ?_
  refine Ro.d (mkE [(0, (i6 x0)), (0, (i6 x1))] 10) ?_
  refine Rn.g ?_
  refine Ro.t 1 ?_
  rcases tf (decide (x0 > (0 : Int))) with h8630 | h8630
  · rw [ite_t h8630] at h; refine Ro.p (bool_of h8630) ?_
    refine Ro.t 6 ?_
    refine Ro.d (mkE [(4, (V.bool (decide (x0 < x1))))] 7) ?_
    refine Run.ret ?_
    have h := Option.some.inj h; subst h
    exact ⟨(V.bool (decide (x0 < x1))), (by kernel_rfl), (by kernel_rfl), hp⟩
  · rw [ite_f h8630] at h; refine Ro.p (bool_of h8630) ?_
    refine Ro.t 6 ?_
    refine Ro.d (mkE [(4, (V.bool false))] 7) ?_
    refine Run.ret ?_
    have h := Option.some.inj h; subst h
    exact ⟨(V.bool false), (by kernel_rfl), (by kernel_rfl), hp⟩

theorem c92 {x0 : Int} {x1 : Int} {r : Bool} (h : F92 x0 x1 = some r) (s : Bool) : Fn T 92 [(i6 x0), (i6 x1)] [] (fun v hh => deep s hh deepN v = some (EB.e r)) := by
  refine (w92 h HP.nil).mono ?_
  rintro v hh ⟨rfl, hp⟩
  exact EB.hd s hh 38 _ (.inr rfl)

/- smithy/smithyref07.end -/
abbrev Q83 (L : List Ob) (r : Bool) : V → Heap → Prop := fun v h => v = EB.e r ∧ HP h (L)
abbrev RR83 (L : List Ob) (r : Bool) : List V → Heap → Prop := fun e h => endR none [4] (Q83 L r) e h

def F83_j1 (x0 : T_Graph) (x1 : T_Term) (y8691 : Bool) : Option Bool :=
  if (x1.fKind == (1 : Int)) then
    (F92 x1.fTo.a0 ((List.length x0.fBlocks : Nat) : Int)).bind fun y8715 =>
    if y8715 then
      some (decide (x1 = (⟨(1 : Int), (0 : Int), (⟨x1.fTo.a0, (0 : Int)⟩ : T_2int), (0 : Int)⟩ : T_Term)))
    else
      some false
  else
    if (x1.fKind == (2 : Int)) then
      if y8691 then
        (F38 x1.fArg ((List.length x0.fVars : Nat) : Int)).bind fun y8720 =>
        if y8720 then
          (idx x0.fVars x1.fArg).bind fun y8723 =>
          if (y8723 == (1 : Int)) then
            some (x1.fTrap == (0 : Int))
          else
            some false
        else
          some false
      else
        some false
    else
      if (x1.fKind == (3 : Int)) then
        (F38 x1.fArg ((List.length x0.fVars : Nat) : Int)).bind fun y8727 =>
        if y8727 then
          (idx x0.fVars x1.fArg).bind fun y8730 =>
          if (y8730 == x0.fResult) then
            some (decide (x1 = (⟨(3 : Int), x1.fArg, (⟨(0 : Int), (0 : Int)⟩ : T_2int), (0 : Int)⟩ : T_Term)))
          else
            some false
        else
          some false
      else
        if (x1.fKind == (4 : Int)) then
          if (decide (x1.fTrap ≥ (1 : Int))) then
            if (decide (x1.fTrap ≤ (3 : Int))) then
              some (decide (x1 = (⟨(4 : Int), (0 : Int), (⟨(0 : Int), (0 : Int)⟩ : T_2int), x1.fTrap⟩ : T_Term)))
            else
              some false
          else
            some false
        else
          some false

theorem w83_j1 {x0 : T_Graph} {x1 : T_Term} {y8691 : Bool} {r : Bool} (h : F83_j1 x0 x1 y8691 = some r) {H : Heap} {L : List Ob} (hp : HP H (L)) :
    Run T i83n28 (mkE [(2, (V.fp (E_Graph.e x0))), (0, (V.fp (E_Term.e x1))), (1, (i6 (ln x0.fBlocks))), (0, (V.bool y8691))] 101) H (finE none [4] (Q83 L r)) := by
  unfold F83_j1 at h
  refine Run.seq ?_
  refine Rn.g ?_
  refine Ro.t 2 ?_
  refine Ro.d (mkE [(2, (V.fp (E_Graph.e x0))), (0, (V.fp (E_Term.e x1))), (1, (i6 (ln x0.fBlocks))), (0, (V.bool y8691)), (16, (V.int .u8 x1.fKind))] 84) ?_
  refine Run.block ?_
  refine Rn.g ?_
  refine Ro.t 2 ?_
  refine Ro.d (mkE [(2, (V.fp (E_Graph.e x0))), (0, (V.fp (E_Term.e x1))), (1, (i6 (ln x0.fBlocks))), (0, (V.bool y8691)), (16, (V.int .u8 x1.fKind)), (0, (V.bool (x1.fKind == (1 : Int))))] 83) ?_
  rcases tf (x1.fKind == (1 : Int)) with h8714 | h8714
  · rw [ite_t h8714] at h; refine Rn.t h8714 ?_
    refine Rn.g ?_
    refine Ro.t 4 ?_
    obtain ⟨y8715, h8716, h⟩ := bind_some h
    rcases tf y8715 with h8717 | h8717
    · subst h8717; rw [if_pos rfl] at h
      refine RunO.c1 (by kernel_rfl) (by kernel_rfl) (c92 h8716 _) ?_
      refine Ro.t 7 ?_
      refine Ro.p (eqs_Term false x1 (⟨(1 : Int), (0 : Int), (⟨x1.fTo.a0, (0 : Int)⟩ : T_2int), (0 : Int)⟩ : T_Term)) ?_
      refine Ro.t 2 ?_
      refine Ro.d (mkE [(4, (V.bool (decide (x1 = (⟨(1 : Int), (0 : Int), (⟨x1.fTo.a0, (0 : Int)⟩ : T_2int), (0 : Int)⟩ : T_Term)))))] 103) ?_
      refine Run.ret ?_
      have h := Option.some.inj h; subst h
      exact ⟨(V.bool (decide (x1 = (⟨(1 : Int), (0 : Int), (⟨x1.fTo.a0, (0 : Int)⟩ : T_2int), (0 : Int)⟩ : T_Term)))), (by kernel_rfl), (by kernel_rfl), hp⟩
    · subst h8717; rw [if_neg (by decide)] at h
      refine RunO.c1 (by kernel_rfl) (by kernel_rfl) (c92 h8716 _) ?_
      refine Ro.t 10 ?_
      refine Ro.d (mkE [(4, (V.bool false))] 103) ?_
      refine Run.ret ?_
      have h := Option.some.inj h; subst h
      exact ⟨(V.bool false), (by kernel_rfl), (by kernel_rfl), hp⟩
  · rw [ite_f h8714] at h; refine Rn.f h8714 ?_
    refine Rn.g ?_
    refine Ro.t 2 ?_
    refine Ro.d (mkE [(2, (V.fp (E_Graph.e x0))), (0, (V.fp (E_Term.e x1))), (2, (V.bool y8691)), (16, (V.int .u8 x1.fKind)), (16, (V.bool (x1.fKind == (2 : Int))))] 67) ?_
    rcases tf (x1.fKind == (2 : Int)) with h8718 | h8718
    · rw [ite_t h8718] at h; refine Rn.t h8718 ?_
      refine Rn.g ?_
      rcases tf y8691 with h8719 | h8719
      · rw [ite_t h8719] at h; refine Ro.p (bool_of h8719) ?_
        refine Ro.t 5 ?_
        refine Ro.p (len_fz (EI .u8) x0.fVars) ?_
        obtain ⟨y8720, h8721, h⟩ := bind_some h
        rcases tf y8720 with h8722 | h8722
        · subst h8722; rw [if_pos rfl] at h
          refine RunO.c1 (by kernel_rfl) (by kernel_rfl) (c38 h8721 _) ?_
          refine Ro.t 6 ?_
          obtain ⟨y8723, h8724, h⟩ := bind_some h
          refine Ro.p (idx_fz (EI .u8) .i64 h8724) ?_
          refine Ro.t 1 ?_
          rcases tf (y8723 == (1 : Int)) with h8725 | h8725
          · rw [ite_t h8725] at h; refine Ro.p (bool_of h8725) ?_
            refine Ro.t 7 ?_
            refine Ro.d (mkE [(4, (V.bool (x1.fTrap == (0 : Int))))] 103) ?_
            refine Run.ret ?_
            have h := Option.some.inj h; subst h
            exact ⟨(V.bool (x1.fTrap == (0 : Int))), (by kernel_rfl), (by kernel_rfl), hp⟩
          · rw [ite_f h8725] at h; refine Ro.p (bool_of h8725) ?_
            refine Ro.t 7 ?_
            refine Ro.d (mkE [(4, (V.bool false))] 103) ?_
            refine Run.ret ?_
            have h := Option.some.inj h; subst h
            exact ⟨(V.bool false), (by kernel_rfl), (by kernel_rfl), hp⟩
        · subst h8722; rw [if_neg (by decide)] at h
          refine RunO.c1 (by kernel_rfl) (by kernel_rfl) (c38 h8721 _) ?_
          refine Ro.t 16 ?_
          refine Ro.d (mkE [(4, (V.bool false))] 103) ?_
          refine Run.ret ?_
          have h := Option.some.inj h; subst h
          exact ⟨(V.bool false), (by kernel_rfl), (by kernel_rfl), hp⟩
      · rw [ite_f h8719] at h; refine Ro.p (bool_of h8719) ?_
        refine Ro.t 23 ?_
        refine Ro.d (mkE [(4, (V.bool false))] 103) ?_
        refine Run.ret ?_
        have h := Option.some.inj h; subst h
        exact ⟨(V.bool false), (by kernel_rfl), (by kernel_rfl), hp⟩
    · rw [ite_f h8718] at h; refine Rn.f h8718 ?_
      refine Rn.g ?_
      refine Ro.t 2 ?_
      refine Ro.d (mkE [(2, (V.fp (E_Graph.e x0))), (0, (V.fp (E_Term.e x1))), (19, (V.int .u8 x1.fKind)), (41, (V.bool (x1.fKind == (3 : Int))))] 42) ?_
      rcases tf (x1.fKind == (3 : Int)) with h8726 | h8726
      · rw [ite_t h8726] at h; refine Rn.t h8726 ?_
        refine Rn.g ?_
        refine Ro.t 4 ?_
        refine Ro.p (len_fz (EI .u8) x0.fVars) ?_
        obtain ⟨y8727, h8728, h⟩ := bind_some h
        rcases tf y8727 with h8729 | h8729
        · subst h8729; rw [if_pos rfl] at h
          refine RunO.c1 (by kernel_rfl) (by kernel_rfl) (c38 h8728 _) ?_
          refine Ro.t 5 ?_
          obtain ⟨y8730, h8731, h⟩ := bind_some h
          refine Ro.p (idx_fz (EI .u8) .i64 h8731) ?_
          refine Ro.t 3 ?_
          rcases tf (y8730 == x0.fResult) with h8732 | h8732
          · rw [ite_t h8732] at h; refine Ro.p (bool_of h8732) ?_
            refine Ro.t 6 ?_
            refine Ro.p (eqs_Term false x1 (⟨(3 : Int), x1.fArg, (⟨(0 : Int), (0 : Int)⟩ : T_2int), (0 : Int)⟩ : T_Term)) ?_
            refine Ro.t 2 ?_
            refine Ro.d (mkE [(4, (V.bool (decide (x1 = (⟨(3 : Int), x1.fArg, (⟨(0 : Int), (0 : Int)⟩ : T_2int), (0 : Int)⟩ : T_Term)))))] 103) ?_
            refine Run.ret ?_
            have h := Option.some.inj h; subst h
            exact ⟨(V.bool (decide (x1 = (⟨(3 : Int), x1.fArg, (⟨(0 : Int), (0 : Int)⟩ : T_2int), (0 : Int)⟩ : T_Term)))), (by kernel_rfl), (by kernel_rfl), hp⟩
          · rw [ite_f h8732] at h; refine Ro.p (bool_of h8732) ?_
            refine Ro.t 9 ?_
            refine Ro.d (mkE [(4, (V.bool false))] 103) ?_
            refine Run.ret ?_
            have h := Option.some.inj h; subst h
            exact ⟨(V.bool false), (by kernel_rfl), (by kernel_rfl), hp⟩
        · subst h8729; rw [if_neg (by decide)] at h
          refine RunO.c1 (by kernel_rfl) (by kernel_rfl) (c38 h8728 _) ?_
          refine Ro.t 19 ?_
          refine Ro.d (mkE [(4, (V.bool false))] 103) ?_
          refine Run.ret ?_
          have h := Option.some.inj h; subst h
          exact ⟨(V.bool false), (by kernel_rfl), (by kernel_rfl), hp⟩
      · rw [ite_f h8726] at h; refine Rn.f h8726 ?_
        refine Rn.g ?_
        refine Ro.t 2 ?_
        refine Ro.d (mkE [(3, (V.fp (E_Term.e x1))), (87, (V.bool (x1.fKind == (4 : Int))))] 16) ?_
        rcases tf (x1.fKind == (4 : Int)) with h8733 | h8733
        · rw [ite_t h8733] at h; refine Rn.t h8733 ?_
          refine Rn.g ?_
          refine Ro.t 2 ?_
          rcases tf (decide (x1.fTrap ≥ (1 : Int))) with h8734 | h8734
          · rw [ite_t h8734] at h; refine Ro.p (bool_of h8734) ?_
            refine Ro.t 3 ?_
            rcases tf (decide (x1.fTrap ≤ (3 : Int))) with h8735 | h8735
            · rw [ite_t h8735] at h; refine Ro.p (bool_of h8735) ?_
              refine Ro.t 6 ?_
              refine Ro.p (eqs_Term false x1 (⟨(4 : Int), (0 : Int), (⟨(0 : Int), (0 : Int)⟩ : T_2int), x1.fTrap⟩ : T_Term)) ?_
              refine Ro.t 2 ?_
              refine Ro.d (mkE [(4, (V.bool (decide (x1 = (⟨(4 : Int), (0 : Int), (⟨(0 : Int), (0 : Int)⟩ : T_2int), x1.fTrap⟩ : T_Term)))))] 103) ?_
              refine Run.ret ?_
              have h := Option.some.inj h; subst h
              exact ⟨(V.bool (decide (x1 = (⟨(4 : Int), (0 : Int), (⟨(0 : Int), (0 : Int)⟩ : T_2int), x1.fTrap⟩ : T_Term)))), (by kernel_rfl), (by kernel_rfl), hp⟩
            · rw [ite_f h8735] at h; refine Ro.p (bool_of h8735) ?_
              refine Ro.t 9 ?_
              refine Ro.d (mkE [(4, (V.bool false))] 103) ?_
              refine Run.ret ?_
              have h := Option.some.inj h; subst h
              exact ⟨(V.bool false), (by kernel_rfl), (by kernel_rfl), hp⟩
          · rw [ite_f h8734] at h; refine Ro.p (bool_of h8734) ?_
            refine Ro.t 13 ?_
            refine Ro.d (mkE [(4, (V.bool false))] 103) ?_
            refine Run.ret ?_
            have h := Option.some.inj h; subst h
            exact ⟨(V.bool false), (by kernel_rfl), (by kernel_rfl), hp⟩
        · rw [ite_f h8733] at h; refine Rn.f h8733 ?_
          refine Run.skip ?_
          refine Rn.c (mkE [] 108) ?_
          refine Rn.g ?_
          refine Ro.t 1 ?_
          refine Ro.d (mkE [(4, (V.bool false))] 103) ?_
          refine Run.ret ?_
          have h := Option.some.inj h; subst h
          exact ⟨(V.bool false), (by kernel_rfl), (by kernel_rfl), hp⟩

def F83 (x0 : T_Graph) (x1 : T_Term) : Option Bool :=
  (F92 x1.fTo.a0 ((List.length x0.fBlocks : Nat) : Int)).bind fun y8736 =>
  if y8736 then
    (F92 x1.fTo.a1 ((List.length x0.fBlocks : Nat) : Int)).bind fun y8739 =>
    F83_j1 x0 x1 (y8739)
  else
    F83_j1 x0 x1 (false)

theorem w83 {x0 : T_Graph} {x1 : T_Term} {r : Bool} (h : F83 x0 x1 = some r) {H : Heap} {L : List Ob} (hp : HP H (L)) : Fn T 83 [(E_Graph.e x0), (E_Term.e x1)] H (Q83 L r) := by
  refine Fn.enterE t83 (e0 := (mkE [(0, (E_Graph.e x0)), (0, (E_Term.e x1))] 106)) (by kernel_rfl) ?_
  show Run T (.clr [] i83n31) _ _ (finE none [4] (Q83 L r))
  refine Rn.k (mkE [(0, (E_Graph.e x0)), (0, (E_Term.e x1))] 106) ?_
  unfold F83 at h
  refine Rn.g ?_
  refine Ro.t 3 ?_
  refine Ro.d (mkE [(2, (V.fp (E_Graph.e x0))), (0, (V.fp (E_Term.e x1)))] 104) ?_
  refine Rn.g ?_
  refine Ro.t 2 ?_
  refine Ro.p (len_fz E_Block x0.fBlocks) ?_
  refine Ro.t 1 ?_
  refine Ro.d (mkE [(2, (V.fp (E_Graph.e x0))), (0, (V.fp (E_Term.e x1))), (1, (i6 (ln x0.fBlocks)))] 102) ?_
  refine Rn.g ?_
  refine Ro.t 4 ?_
  obtain ⟨y8736, h8737, h⟩ := bind_some h
  rcases tf y8736 with h8738 | h8738
  · subst h8738; rw [if_pos rfl] at h
    refine RunO.c1 (by kernel_rfl) (by kernel_rfl) (c92 h8737 _) ?_
    refine Ro.t 5 ?_
    obtain ⟨y8739, h8740, h⟩ := bind_some h
    refine RunO.c1 (by kernel_rfl) (by kernel_rfl) (c92 h8740 _) ?_
    refine Ro.t 2 ?_
    refine Ro.d (mkE [(2, (V.fp (E_Graph.e x0))), (0, (V.fp (E_Term.e x1))), (1, (i6 (ln x0.fBlocks))), (0, (V.bool y8739))] 101) ?_
    exact w83_j1 h hp
  · subst h8738; rw [if_neg (by decide)] at h
    refine RunO.c1 (by kernel_rfl) (by kernel_rfl) (c92 h8737 _) ?_
    refine Ro.t 8 ?_
    refine Ro.d (mkE [(2, (V.fp (E_Graph.e x0))), (0, (V.fp (E_Term.e x1))), (1, (i6 (ln x0.fBlocks))), (0, (V.bool false))] 101) ?_
    exact w83_j1 h hp

theorem c83 {x0 : T_Graph} {x1 : T_Term} {r : Bool} (h : F83 x0 x1 = some r) (s : Bool) : Fn T 83 [(E_Graph.e x0), (E_Term.e x1)] [] (fun v hh => deep s hh deepN v = some (EB.e r)) := by
  refine (w83 h HP.nil).mono ?_
  rintro v hh ⟨rfl, hp⟩
  exact EB.hd s hh 38 _ (.inr rfl)

/- smithy/smithyref07.plain -/
abbrev Q93 (L : List Ob) (r : Bool) : V → Heap → Prop := fun v h => v = EB.e r ∧ HP h (L)
abbrev RR93 (L : List Ob) (r : Bool) : List V → Heap → Prop := fun e h => endR none [2] (Q93 L r) e h

def F93_j3 (x0 : T_Ins) : Option Bool :=
  if (x0.fKind != (2 : Int)) then
    if (x0.fKind != (8 : Int)) then
      some true
    else
      some (((List.length x0.fArgs : Nat) : Int) == (0 : Int))
  else
    some (((List.length x0.fArgs : Nat) : Int) == (0 : Int))

theorem w93_j3 {x0 : T_Ins} {r : Bool} (h : F93_j3 x0 = some r) {H : Heap} {L : List Ob} (hp : HP H (L)) :
    Run T i93n9 (mkE [(1, (V.fp (E_Ins.e x0)))] 94) H (finE none [2] (Q93 L r)) := by
  unfold F93_j3 at h
  refine Rn.g ?_
  refine Ro.t 2 ?_
  rcases tf (x0.fKind != (2 : Int)) with h8878 | h8878
  · rw [ite_t h8878] at h; refine Ro.p (bool_of h8878) ?_
    refine Ro.t 3 ?_
    rcases tf (x0.fKind != (8 : Int)) with h8879 | h8879
    · rw [ite_t h8879] at h; refine Ro.p (bool_of h8879) ?_
      refine Ro.t 8 ?_
      refine Ro.d (mkE [(2, (V.bool true))] 93) ?_
      refine Run.ret ?_
      have h := Option.some.inj h; subst h
      exact ⟨(V.bool true), (by kernel_rfl), (by kernel_rfl), hp⟩
    · rw [ite_f h8879] at h; refine Ro.p (bool_of h8879) ?_
      refine Ro.t 4 ?_
      refine Ro.p (len_fz (EI .i64) x0.fArgs) ?_
      refine Ro.t 3 ?_
      refine Ro.d (mkE [(2, (V.bool ((ln x0.fArgs) == (0 : Int))))] 93) ?_
      refine Run.ret ?_
      have h := Option.some.inj h; subst h
      exact ⟨(V.bool ((ln x0.fArgs) == (0 : Int))), (by kernel_rfl), (by kernel_rfl), hp⟩
  · rw [ite_f h8878] at h; refine Ro.p (bool_of h8878) ?_
    refine Ro.t 8 ?_
    refine Ro.p (len_fz (EI .i64) x0.fArgs) ?_
    refine Ro.t 3 ?_
    refine Ro.d (mkE [(2, (V.bool ((ln x0.fArgs) == (0 : Int))))] 93) ?_
    refine Run.ret ?_
    have h := Option.some.inj h; subst h
    exact ⟨(V.bool ((ln x0.fArgs) == (0 : Int))), (by kernel_rfl), (by kernel_rfl), hp⟩

def F93_j2 (x0 : T_Ins) (y8845 : Bool) (y8847 : Bool) : Option Bool :=
  if y8845 then
    if (x0.fKind != (4 : Int)) then
      if (x0.fOp != (0 : Int)) then
        some false
      else
        if (x0.fKind != (2 : Int)) then
          if (x0.fBits != (0 : Int)) then
            some false
          else
            if y8847 then
              F93_j3 x0
            else
              if (x0.fRef != (0 : Int)) then
                some false
              else
                F93_j3 x0
        else
          if y8847 then
            F93_j3 x0
          else
            if (x0.fRef != (0 : Int)) then
              some false
            else
              F93_j3 x0
    else
      if (x0.fKind != (2 : Int)) then
        if (x0.fBits != (0 : Int)) then
          some false
        else
          if y8847 then
            F93_j3 x0
          else
            if (x0.fRef != (0 : Int)) then
              some false
            else
              F93_j3 x0
      else
        if y8847 then
          F93_j3 x0
        else
          if (x0.fRef != (0 : Int)) then
            some false
          else
            F93_j3 x0
  else
    if (x0.fDst != (0 : Int)) then
      some false
    else
      if (x0.fKind != (4 : Int)) then
        if (x0.fOp != (0 : Int)) then
          some false
        else
          if (x0.fKind != (2 : Int)) then
            if (x0.fBits != (0 : Int)) then
              some false
            else
              if y8847 then
                F93_j3 x0
              else
                if (x0.fRef != (0 : Int)) then
                  some false
                else
                  F93_j3 x0
          else
            if y8847 then
              F93_j3 x0
            else
              if (x0.fRef != (0 : Int)) then
                some false
              else
                F93_j3 x0
      else
        if (x0.fKind != (2 : Int)) then
          if (x0.fBits != (0 : Int)) then
            some false
          else
            if y8847 then
              F93_j3 x0
            else
              if (x0.fRef != (0 : Int)) then
                some false
              else
                F93_j3 x0
        else
          if y8847 then
            F93_j3 x0
          else
            if (x0.fRef != (0 : Int)) then
              some false
            else
              F93_j3 x0

theorem w93_j2 {x0 : T_Ins} {y8845 : Bool} {y8847 : Bool} {r : Bool} (h : F93_j2 x0 y8845 y8847 = some r) {H : Heap} {L : List Ob} (hp : HP H (L)) :
    Run T i93n10 (mkE [(1, (V.fp (E_Ins.e x0))), (1, (V.bool y8845)), (0, (V.bool y8847))] 91) H (finE none [2] (Q93 L r)) := by
  unfold F93_j2 at h
  refine Run.seq ?_
  refine Rn.g ?_
  rcases tf y8845 with h8880 | h8880
  · rw [ite_t h8880] at h; refine Ro.p (bool_of h8880) ?_
    refine Ro.t 9 ?_
    rcases tf (x0.fKind != (4 : Int)) with h8881 | h8881
    · rw [ite_t h8881] at h; refine Ro.p (bool_of h8881) ?_
      refine Ro.t 3 ?_
      rcases tf (x0.fOp != (0 : Int)) with h8882 | h8882
      · rw [ite_t h8882] at h; refine Ro.p (bool_of h8882) ?_
        refine Ro.t 21 ?_
        refine Ro.d (mkE [(1, (V.fp (E_Ins.e x0))), (79, (V.bool true))] 14) ?_
        refine Run.condT (by kernel_rfl) ?_
        refine Rn.g ?_
        refine Ro.t 1 ?_
        refine Ro.d (mkE [(2, (V.bool false))] 93) ?_
        refine Run.ret ?_
        have h := Option.some.inj h; subst h
        exact ⟨(V.bool false), (by kernel_rfl), (by kernel_rfl), hp⟩
      · rw [ite_f h8882] at h; refine Ro.p (bool_of h8882) ?_
        refine Ro.t 5 ?_
        rcases tf (x0.fKind != (2 : Int)) with h8883 | h8883
        · rw [ite_t h8883] at h; refine Ro.p (bool_of h8883) ?_
          refine Ro.t 3 ?_
          rcases tf (x0.fBits != (0 : Int)) with h8884 | h8884
          · rw [ite_t h8884] at h; refine Ro.p (bool_of h8884) ?_
            refine Ro.t 11 ?_
            refine Ro.d (mkE [(1, (V.fp (E_Ins.e x0))), (79, (V.bool true))] 14) ?_
            refine Run.condT (by kernel_rfl) ?_
            refine Rn.g ?_
            refine Ro.t 1 ?_
            refine Ro.d (mkE [(2, (V.bool false))] 93) ?_
            refine Run.ret ?_
            have h := Option.some.inj h; subst h
            exact ⟨(V.bool false), (by kernel_rfl), (by kernel_rfl), hp⟩
          · rw [ite_f h8884] at h; refine Ro.p (bool_of h8884) ?_
            refine Ro.t 3 ?_
            rcases tf y8847 with h8885 | h8885
            · rw [ite_t h8885] at h; refine Ro.p (bool_of h8885) ?_
              refine Ro.t 7 ?_
              refine Ro.d (mkE [(1, (V.fp (E_Ins.e x0))), (79, (V.bool false))] 14) ?_
              refine Run.condF (by kernel_rfl) ?_
              refine Run.skip ?_
              refine Rn.c (mkE [(1, (V.fp (E_Ins.e x0)))] 94) ?_
              exact w93_j3 h hp
            · rw [ite_f h8885] at h; refine Ro.p (bool_of h8885) ?_
              refine Ro.t 7 ?_
              refine Ro.d (mkE [(1, (V.fp (E_Ins.e x0))), (79, (V.bool (x0.fRef != (0 : Int))))] 14) ?_
              rcases tf (x0.fRef != (0 : Int)) with h8886 | h8886
              · rw [ite_t h8886] at h; refine Rn.t h8886 ?_
                refine Rn.g ?_
                refine Ro.t 1 ?_
                refine Ro.d (mkE [(2, (V.bool false))] 93) ?_
                refine Run.ret ?_
                have h := Option.some.inj h; subst h
                exact ⟨(V.bool false), (by kernel_rfl), (by kernel_rfl), hp⟩
              · rw [ite_f h8886] at h; refine Rn.f h8886 ?_
                refine Run.skip ?_
                refine Rn.c (mkE [(1, (V.fp (E_Ins.e x0)))] 94) ?_
                exact w93_j3 h hp
        · rw [ite_f h8883] at h; refine Ro.p (bool_of h8883) ?_
          refine Ro.t 7 ?_
          rcases tf y8847 with h8887 | h8887
          · rw [ite_t h8887] at h; refine Ro.p (bool_of h8887) ?_
            refine Ro.t 7 ?_
            refine Ro.d (mkE [(1, (V.fp (E_Ins.e x0))), (79, (V.bool false))] 14) ?_
            refine Run.condF (by kernel_rfl) ?_
            refine Run.skip ?_
            refine Rn.c (mkE [(1, (V.fp (E_Ins.e x0)))] 94) ?_
            exact w93_j3 h hp
          · rw [ite_f h8887] at h; refine Ro.p (bool_of h8887) ?_
            refine Ro.t 7 ?_
            refine Ro.d (mkE [(1, (V.fp (E_Ins.e x0))), (79, (V.bool (x0.fRef != (0 : Int))))] 14) ?_
            rcases tf (x0.fRef != (0 : Int)) with h8888 | h8888
            · rw [ite_t h8888] at h; refine Rn.t h8888 ?_
              refine Rn.g ?_
              refine Ro.t 1 ?_
              refine Ro.d (mkE [(2, (V.bool false))] 93) ?_
              refine Run.ret ?_
              have h := Option.some.inj h; subst h
              exact ⟨(V.bool false), (by kernel_rfl), (by kernel_rfl), hp⟩
            · rw [ite_f h8888] at h; refine Rn.f h8888 ?_
              refine Run.skip ?_
              refine Rn.c (mkE [(1, (V.fp (E_Ins.e x0)))] 94) ?_
              exact w93_j3 h hp
    · rw [ite_f h8881] at h; refine Ro.p (bool_of h8881) ?_
      refine Ro.t 9 ?_
      rcases tf (x0.fKind != (2 : Int)) with h8889 | h8889
      · rw [ite_t h8889] at h; refine Ro.p (bool_of h8889) ?_
        refine Ro.t 3 ?_
        rcases tf (x0.fBits != (0 : Int)) with h8890 | h8890
        · rw [ite_t h8890] at h; refine Ro.p (bool_of h8890) ?_
          refine Ro.t 11 ?_
          refine Ro.d (mkE [(1, (V.fp (E_Ins.e x0))), (79, (V.bool true))] 14) ?_
          refine Run.condT (by kernel_rfl) ?_
          refine Rn.g ?_
          refine Ro.t 1 ?_
          refine Ro.d (mkE [(2, (V.bool false))] 93) ?_
          refine Run.ret ?_
          have h := Option.some.inj h; subst h
          exact ⟨(V.bool false), (by kernel_rfl), (by kernel_rfl), hp⟩
        · rw [ite_f h8890] at h; refine Ro.p (bool_of h8890) ?_
          refine Ro.t 3 ?_
          rcases tf y8847 with h8891 | h8891
          · rw [ite_t h8891] at h; refine Ro.p (bool_of h8891) ?_
            refine Ro.t 7 ?_
            refine Ro.d (mkE [(1, (V.fp (E_Ins.e x0))), (79, (V.bool false))] 14) ?_
            refine Run.condF (by kernel_rfl) ?_
            refine Run.skip ?_
            refine Rn.c (mkE [(1, (V.fp (E_Ins.e x0)))] 94) ?_
            exact w93_j3 h hp
          · rw [ite_f h8891] at h; refine Ro.p (bool_of h8891) ?_
            refine Ro.t 7 ?_
            refine Ro.d (mkE [(1, (V.fp (E_Ins.e x0))), (79, (V.bool (x0.fRef != (0 : Int))))] 14) ?_
            rcases tf (x0.fRef != (0 : Int)) with h8892 | h8892
            · rw [ite_t h8892] at h; refine Rn.t h8892 ?_
              refine Rn.g ?_
              refine Ro.t 1 ?_
              refine Ro.d (mkE [(2, (V.bool false))] 93) ?_
              refine Run.ret ?_
              have h := Option.some.inj h; subst h
              exact ⟨(V.bool false), (by kernel_rfl), (by kernel_rfl), hp⟩
            · rw [ite_f h8892] at h; refine Rn.f h8892 ?_
              refine Run.skip ?_
              refine Rn.c (mkE [(1, (V.fp (E_Ins.e x0)))] 94) ?_
              exact w93_j3 h hp
      · rw [ite_f h8889] at h; refine Ro.p (bool_of h8889) ?_
        refine Ro.t 7 ?_
        rcases tf y8847 with h8893 | h8893
        · rw [ite_t h8893] at h; refine Ro.p (bool_of h8893) ?_
          refine Ro.t 7 ?_
          refine Ro.d (mkE [(1, (V.fp (E_Ins.e x0))), (79, (V.bool false))] 14) ?_
          refine Run.condF (by kernel_rfl) ?_
          refine Run.skip ?_
          refine Rn.c (mkE [(1, (V.fp (E_Ins.e x0)))] 94) ?_
          exact w93_j3 h hp
        · rw [ite_f h8893] at h; refine Ro.p (bool_of h8893) ?_
          refine Ro.t 7 ?_
          refine Ro.d (mkE [(1, (V.fp (E_Ins.e x0))), (79, (V.bool (x0.fRef != (0 : Int))))] 14) ?_
          rcases tf (x0.fRef != (0 : Int)) with h8894 | h8894
          · rw [ite_t h8894] at h; refine Rn.t h8894 ?_
            refine Rn.g ?_
            refine Ro.t 1 ?_
            refine Ro.d (mkE [(2, (V.bool false))] 93) ?_
            refine Run.ret ?_
            have h := Option.some.inj h; subst h
            exact ⟨(V.bool false), (by kernel_rfl), (by kernel_rfl), hp⟩
          · rw [ite_f h8894] at h; refine Rn.f h8894 ?_
            refine Run.skip ?_
            refine Rn.c (mkE [(1, (V.fp (E_Ins.e x0)))] 94) ?_
            exact w93_j3 h hp
  · rw [ite_f h8880] at h; refine Ro.p (bool_of h8880) ?_
    refine Ro.t 4 ?_
    rcases tf (x0.fDst != (0 : Int)) with h8895 | h8895
    · rw [ite_t h8895] at h; refine Ro.p (bool_of h8895) ?_
      refine Ro.t 30 ?_
      refine Ro.d (mkE [(1, (V.fp (E_Ins.e x0))), (79, (V.bool true))] 14) ?_
      refine Run.condT (by kernel_rfl) ?_
      refine Rn.g ?_
      refine Ro.t 1 ?_
      refine Ro.d (mkE [(2, (V.bool false))] 93) ?_
      refine Run.ret ?_
      have h := Option.some.inj h; subst h
      exact ⟨(V.bool false), (by kernel_rfl), (by kernel_rfl), hp⟩
    · rw [ite_f h8895] at h; refine Ro.p (bool_of h8895) ?_
      refine Ro.t 4 ?_
      rcases tf (x0.fKind != (4 : Int)) with h8896 | h8896
      · rw [ite_t h8896] at h; refine Ro.p (bool_of h8896) ?_
        refine Ro.t 3 ?_
        rcases tf (x0.fOp != (0 : Int)) with h8897 | h8897
        · rw [ite_t h8897] at h; refine Ro.p (bool_of h8897) ?_
          refine Ro.t 21 ?_
          refine Ro.d (mkE [(1, (V.fp (E_Ins.e x0))), (79, (V.bool true))] 14) ?_
          refine Run.condT (by kernel_rfl) ?_
          refine Rn.g ?_
          refine Ro.t 1 ?_
          refine Ro.d (mkE [(2, (V.bool false))] 93) ?_
          refine Run.ret ?_
          have h := Option.some.inj h; subst h
          exact ⟨(V.bool false), (by kernel_rfl), (by kernel_rfl), hp⟩
        · rw [ite_f h8897] at h; refine Ro.p (bool_of h8897) ?_
          refine Ro.t 5 ?_
          rcases tf (x0.fKind != (2 : Int)) with h8898 | h8898
          · rw [ite_t h8898] at h; refine Ro.p (bool_of h8898) ?_
            refine Ro.t 3 ?_
            rcases tf (x0.fBits != (0 : Int)) with h8899 | h8899
            · rw [ite_t h8899] at h; refine Ro.p (bool_of h8899) ?_
              refine Ro.t 11 ?_
              refine Ro.d (mkE [(1, (V.fp (E_Ins.e x0))), (79, (V.bool true))] 14) ?_
              refine Run.condT (by kernel_rfl) ?_
              refine Rn.g ?_
              refine Ro.t 1 ?_
              refine Ro.d (mkE [(2, (V.bool false))] 93) ?_
              refine Run.ret ?_
              have h := Option.some.inj h; subst h
              exact ⟨(V.bool false), (by kernel_rfl), (by kernel_rfl), hp⟩
            · rw [ite_f h8899] at h; refine Ro.p (bool_of h8899) ?_
              refine Ro.t 3 ?_
              rcases tf y8847 with h8900 | h8900
              · rw [ite_t h8900] at h; refine Ro.p (bool_of h8900) ?_
                refine Ro.t 7 ?_
                refine Ro.d (mkE [(1, (V.fp (E_Ins.e x0))), (79, (V.bool false))] 14) ?_
                refine Run.condF (by kernel_rfl) ?_
                refine Run.skip ?_
                refine Rn.c (mkE [(1, (V.fp (E_Ins.e x0)))] 94) ?_
                exact w93_j3 h hp
              · rw [ite_f h8900] at h; refine Ro.p (bool_of h8900) ?_
                refine Ro.t 7 ?_
                refine Ro.d (mkE [(1, (V.fp (E_Ins.e x0))), (79, (V.bool (x0.fRef != (0 : Int))))] 14) ?_
                rcases tf (x0.fRef != (0 : Int)) with h8901 | h8901
                · rw [ite_t h8901] at h; refine Rn.t h8901 ?_
                  refine Rn.g ?_
                  refine Ro.t 1 ?_
                  refine Ro.d (mkE [(2, (V.bool false))] 93) ?_
                  refine Run.ret ?_
                  have h := Option.some.inj h; subst h
                  exact ⟨(V.bool false), (by kernel_rfl), (by kernel_rfl), hp⟩
                · rw [ite_f h8901] at h; refine Rn.f h8901 ?_
                  refine Run.skip ?_
                  refine Rn.c (mkE [(1, (V.fp (E_Ins.e x0)))] 94) ?_
                  exact w93_j3 h hp
          · rw [ite_f h8898] at h; refine Ro.p (bool_of h8898) ?_
            refine Ro.t 7 ?_
            rcases tf y8847 with h8902 | h8902
            · rw [ite_t h8902] at h; refine Ro.p (bool_of h8902) ?_
              refine Ro.t 7 ?_
              refine Ro.d (mkE [(1, (V.fp (E_Ins.e x0))), (79, (V.bool false))] 14) ?_
              refine Run.condF (by kernel_rfl) ?_
              refine Run.skip ?_
              refine Rn.c (mkE [(1, (V.fp (E_Ins.e x0)))] 94) ?_
              exact w93_j3 h hp
            · rw [ite_f h8902] at h; refine Ro.p (bool_of h8902) ?_
              refine Ro.t 7 ?_
              refine Ro.d (mkE [(1, (V.fp (E_Ins.e x0))), (79, (V.bool (x0.fRef != (0 : Int))))] 14) ?_
              rcases tf (x0.fRef != (0 : Int)) with h8903 | h8903
              · rw [ite_t h8903] at h; refine Rn.t h8903 ?_
                refine Rn.g ?_
                refine Ro.t 1 ?_
                refine Ro.d (mkE [(2, (V.bool false))] 93) ?_
                refine Run.ret ?_
                have h := Option.some.inj h; subst h
                exact ⟨(V.bool false), (by kernel_rfl), (by kernel_rfl), hp⟩
              · rw [ite_f h8903] at h; refine Rn.f h8903 ?_
                refine Run.skip ?_
                refine Rn.c (mkE [(1, (V.fp (E_Ins.e x0)))] 94) ?_
                exact w93_j3 h hp
      · rw [ite_f h8896] at h; refine Ro.p (bool_of h8896) ?_
        refine Ro.t 9 ?_
        rcases tf (x0.fKind != (2 : Int)) with h8904 | h8904
        · rw [ite_t h8904] at h; refine Ro.p (bool_of h8904) ?_
          refine Ro.t 3 ?_
          rcases tf (x0.fBits != (0 : Int)) with h8905 | h8905
          · rw [ite_t h8905] at h; refine Ro.p (bool_of h8905) ?_
            refine Ro.t 11 ?_
            refine Ro.d (mkE [(1, (V.fp (E_Ins.e x0))), (79, (V.bool true))] 14) ?_
            refine Run.condT (by kernel_rfl) ?_
            refine Rn.g ?_
            refine Ro.t 1 ?_
            refine Ro.d (mkE [(2, (V.bool false))] 93) ?_
            refine Run.ret ?_
            have h := Option.some.inj h; subst h
            exact ⟨(V.bool false), (by kernel_rfl), (by kernel_rfl), hp⟩
          · rw [ite_f h8905] at h; refine Ro.p (bool_of h8905) ?_
            refine Ro.t 3 ?_
            rcases tf y8847 with h8906 | h8906
            · rw [ite_t h8906] at h; refine Ro.p (bool_of h8906) ?_
              refine Ro.t 7 ?_
              refine Ro.d (mkE [(1, (V.fp (E_Ins.e x0))), (79, (V.bool false))] 14) ?_
              refine Run.condF (by kernel_rfl) ?_
              refine Run.skip ?_
              refine Rn.c (mkE [(1, (V.fp (E_Ins.e x0)))] 94) ?_
              exact w93_j3 h hp
            · rw [ite_f h8906] at h; refine Ro.p (bool_of h8906) ?_
              refine Ro.t 7 ?_
              refine Ro.d (mkE [(1, (V.fp (E_Ins.e x0))), (79, (V.bool (x0.fRef != (0 : Int))))] 14) ?_
              rcases tf (x0.fRef != (0 : Int)) with h8907 | h8907
              · rw [ite_t h8907] at h; refine Rn.t h8907 ?_
                refine Rn.g ?_
                refine Ro.t 1 ?_
                refine Ro.d (mkE [(2, (V.bool false))] 93) ?_
                refine Run.ret ?_
                have h := Option.some.inj h; subst h
                exact ⟨(V.bool false), (by kernel_rfl), (by kernel_rfl), hp⟩
              · rw [ite_f h8907] at h; refine Rn.f h8907 ?_
                refine Run.skip ?_
                refine Rn.c (mkE [(1, (V.fp (E_Ins.e x0)))] 94) ?_
                exact w93_j3 h hp
        · rw [ite_f h8904] at h; refine Ro.p (bool_of h8904) ?_
          refine Ro.t 7 ?_
          rcases tf y8847 with h8908 | h8908
          · rw [ite_t h8908] at h; refine Ro.p (bool_of h8908) ?_
            refine Ro.t 7 ?_
            refine Ro.d (mkE [(1, (V.fp (E_Ins.e x0))), (79, (V.bool false))] 14) ?_
            refine Run.condF (by kernel_rfl) ?_
            refine Run.skip ?_
            refine Rn.c (mkE [(1, (V.fp (E_Ins.e x0)))] 94) ?_
            exact w93_j3 h hp
          · rw [ite_f h8908] at h; refine Ro.p (bool_of h8908) ?_
            refine Ro.t 7 ?_
            refine Ro.d (mkE [(1, (V.fp (E_Ins.e x0))), (79, (V.bool (x0.fRef != (0 : Int))))] 14) ?_
            rcases tf (x0.fRef != (0 : Int)) with h8909 | h8909
            · rw [ite_t h8909] at h; refine Rn.t h8909 ?_
              refine Rn.g ?_
              refine Ro.t 1 ?_
              refine Ro.d (mkE [(2, (V.bool false))] 93) ?_
              refine Run.ret ?_
              have h := Option.some.inj h; subst h
              exact ⟨(V.bool false), (by kernel_rfl), (by kernel_rfl), hp⟩
            · rw [ite_f h8909] at h; refine Rn.f h8909 ?_
              refine Run.skip ?_
              refine Rn.c (mkE [(1, (V.fp (E_Ins.e x0)))] 94) ?_
              exact w93_j3 h hp

def F93_j1 (x0 : T_Ins) (y8845 : Bool) : Option Bool :=
  if (decide (x0.fKind ≥ (6 : Int))) then
    F93_j2 x0 y8845 ((decide (x0.fKind ≤ (9 : Int))))
  else
    F93_j2 x0 y8845 (false)

theorem w93_j1 {x0 : T_Ins} {y8845 : Bool} {r : Bool} (h : F93_j1 x0 y8845 = some r) {H : Heap} {L : List Ob} (hp : HP H (L)) :
    Run T i93n11 (mkE [(1, (V.fp (E_Ins.e x0))), (1, (V.bool y8845))] 92) H (finE none [2] (Q93 L r)) := by
  unfold F93_j1 at h
  refine Rn.g ?_
  refine Ro.t 2 ?_
  rcases tf (decide (x0.fKind ≥ (6 : Int))) with h8910 | h8910
  · rw [ite_t h8910] at h; refine Ro.p (bool_of h8910) ?_
    refine Ro.t 6 ?_
    refine Ro.d (mkE [(1, (V.fp (E_Ins.e x0))), (1, (V.bool y8845)), (0, (V.bool (decide (x0.fKind ≤ (9 : Int)))))] 91) ?_
    exact w93_j2 h hp
  · rw [ite_f h8910] at h; refine Ro.p (bool_of h8910) ?_
    refine Ro.t 6 ?_
    refine Ro.d (mkE [(1, (V.fp (E_Ins.e x0))), (1, (V.bool y8845)), (0, (V.bool false))] 91) ?_
    exact w93_j2 h hp

def F93 (x0 : T_Ins) : Option Bool :=
  if (x0.fKind == (1 : Int)) then
    F93_j1 x0 (true)
  else
    if (x0.fKind == (2 : Int)) then
      F93_j1 x0 (true)
    else
      if (x0.fKind == (3 : Int)) then
        F93_j1 x0 (true)
      else
        if (x0.fKind == (4 : Int)) then
          F93_j1 x0 (true)
        else
          if (x0.fKind == (5 : Int)) then
            F93_j1 x0 (true)
          else
            if (x0.fKind == (6 : Int)) then
              F93_j1 x0 (true)
            else
              F93_j1 x0 ((x0.fKind == (9 : Int)))

theorem w93 {x0 : T_Ins} {r : Bool} (h : F93 x0 = some r) {H : Heap} {L : List Ob} (hp : HP H (L)) : Fn T 93 [(E_Ins.e x0)] H (Q93 L r) := by
  refine Fn.enterE t93 (e0 := (mkE [(0, (E_Ins.e x0))] 95)) (by kernel_rfl) ?_
  show Run T (.clr [] i93n13) _ _ (finE none [2] (Q93 L r))
  refine Rn.k (mkE [(0, (E_Ins.e x0))] 95) ?_
  unfold F93 at h
  refine Rn.g ?_
  refine Ro.t 2 ?_
  refine Ro.d (mkE [(1, (V.fp (E_Ins.e x0)))] 94) ?_
  refine Rn.g ?_
  refine Ro.t 2 ?_
  rcases tf (x0.fKind == (1 : Int)) with h8911 | h8911
  · rw [ite_t h8911] at h; refine Ro.p (bool_of h8911) ?_
    refine Ro.t 31 ?_
    refine Ro.d (mkE [(1, (V.fp (E_Ins.e x0))), (1, (V.bool true))] 92) ?_
    exact w93_j1 h hp
  · rw [ite_f h8911] at h; refine Ro.p (bool_of h8911) ?_
    refine Ro.t 3 ?_
    rcases tf (x0.fKind == (2 : Int)) with h8912 | h8912
    · rw [ite_t h8912] at h; refine Ro.p (bool_of h8912) ?_
      refine Ro.t 27 ?_
      refine Ro.d (mkE [(1, (V.fp (E_Ins.e x0))), (1, (V.bool true))] 92) ?_
      exact w93_j1 h hp
    · rw [ite_f h8912] at h; refine Ro.p (bool_of h8912) ?_
      refine Ro.t 4 ?_
      rcases tf (x0.fKind == (3 : Int)) with h8913 | h8913
      · rw [ite_t h8913] at h; refine Ro.p (bool_of h8913) ?_
        refine Ro.t 22 ?_
        refine Ro.d (mkE [(1, (V.fp (E_Ins.e x0))), (1, (V.bool true))] 92) ?_
        exact w93_j1 h hp
      · rw [ite_f h8913] at h; refine Ro.p (bool_of h8913) ?_
        refine Ro.t 4 ?_
        rcases tf (x0.fKind == (4 : Int)) with h8914 | h8914
        · rw [ite_t h8914] at h; refine Ro.p (bool_of h8914) ?_
          refine Ro.t 17 ?_
          refine Ro.d (mkE [(1, (V.fp (E_Ins.e x0))), (1, (V.bool true))] 92) ?_
          exact w93_j1 h hp
        · rw [ite_f h8914] at h; refine Ro.p (bool_of h8914) ?_
          refine Ro.t 4 ?_
          rcases tf (x0.fKind == (5 : Int)) with h8915 | h8915
          · rw [ite_t h8915] at h; refine Ro.p (bool_of h8915) ?_
            refine Ro.t 12 ?_
            refine Ro.d (mkE [(1, (V.fp (E_Ins.e x0))), (1, (V.bool true))] 92) ?_
            exact w93_j1 h hp
          · rw [ite_f h8915] at h; refine Ro.p (bool_of h8915) ?_
            refine Ro.t 4 ?_
            rcases tf (x0.fKind == (6 : Int)) with h8916 | h8916
            · rw [ite_t h8916] at h; refine Ro.p (bool_of h8916) ?_
              refine Ro.t 7 ?_
              refine Ro.d (mkE [(1, (V.fp (E_Ins.e x0))), (1, (V.bool true))] 92) ?_
              exact w93_j1 h hp
            · rw [ite_f h8916] at h; refine Ro.p (bool_of h8916) ?_
              refine Ro.t 7 ?_
              refine Ro.d (mkE [(1, (V.fp (E_Ins.e x0))), (1, (V.bool (x0.fKind == (9 : Int))))] 92) ?_
              exact w93_j1 h hp

theorem c93 {x0 : T_Ins} {r : Bool} (h : F93 x0 = some r) (s : Bool) : Fn T 93 [(E_Ins.e x0)] [] (fun v hh => deep s hh deepN v = some (EB.e r)) := by
  refine (w93 h HP.nil).mono ?_
  rintro v hh ⟨rfl, hp⟩
  exact EB.hd s hh 38 _ (.inr rfl)

end Go.Eng.Gra
