/- Order, by hand over its walk (no condition beyond those stated). -/
import Derived.Test.YtfkakbipedafiaaDoorGreO
import Derived.Test.YtfkakbipedafiaaDoorGreO3
namespace Go.Eng.Gra
open Go Go.Eng
set_option linter.unusedSectionVars false
set_option linter.unusedVariables false
set_option linter.unusedSimpArgs false
set_option maxRecDepth 20000

/-- what Order answers -/
def orderV (g : T_Graph) : Option (List Int) :=
  if g.fBlocks.length = 0 then some [] else
    (made 1 false ((List.length g.fBlocks : Nat) : Int)).bind fun met =>
    (walkV g.fBlocks (g.fBlocks.length + 1) 0 (met, [])).bind fun s => F36 s.2
theorem more_len {α : Type} {by_ : Nat} {l r o : List α} (h : more by_ l r = some o) : o = l ++ r ∧ (l.length + r.length) * by_ ≤ 140737488355328 := by
  unfold more at h
  split at h
  · rename_i hc; cases h; exact ⟨rfl, hc⟩
  · cases h
theorem walk_len {bs : List T_Block} {n : Nat} {i : Int} {s0 s : WS} (h : walkV bs (n + 1) i s0 = some s) : s.2.length ≤ 140737488355328 := by
  unfold walkV at h
  obtain ⟨met1, hm1, h⟩ := bind_some h
  obtain ⟨b, hb, h⟩ := bind_some h
  obtain ⟨s1, h1, h⟩ := bind_some h
  obtain ⟨s2, h2, h⟩ := bind_some h
  obtain ⟨o, hmore, rfl⟩ := Option.map_eq_some_iff.1 h
  obtain ⟨rfl, hc⟩ := more_len hmore
  simp only [List.length_append]
  omega
theorem order14 {x0 : T_Graph} {r : List Int} (h : orderV x0 = some r) : Fn T 14 [(E_Graph.e x0)] [] (fun v hh => deep false hh deepN v = some ((EL (EI .i64)).e r)) := by
  unfold orderV at h
  refine Fn.enterE t14 (e0 := mkE [(0, E_Graph.e x0)] 19) (by kernel_rfl) ?_
  show Run T (.clr [] i14n21) _ _ (finE none [2] _)
  refine Rn.k (mkE [(0, E_Graph.e x0)] 19) ?_
  refine Rn.g ?_
  refine Ro.t 2 ?_
  refine Ro.d (mkE [(1, .fp (E_Graph.e x0))] 18) ?_
  refine Run.seq ?_
  refine Rn.g ?_
  refine Ro.t 2 ?_
  refine Ro.p (len_fz E_Block x0.fBlocks) ?_
  by_cases h0 : x0.fBlocks.length = 0
  · rw [if_pos h0] at h
    cases h
    refine Ro.p (u := .bool true) (v := some (.bool (decide (((List.length x0.fBlocks : Nat) : Int) = 0)))) (by rw [decide_eq_true (by omega)]) ?_
    refine Ro.d (mkE [(1, .fp (E_Graph.e x0)), (7, .bool true)] 10) ?_
    refine Run.condT (by kernel_rfl) ?_
    refine Run.nowR 30 (cs := none) (res := [2]) (v := .nils) (H' := []) (by kernel_rfl) rfl (fun e h hh => hh)
  rw [if_neg h0] at h
  obtain ⟨met, hmade, h⟩ := bind_some h
  obtain ⟨s, hw, h⟩ := bind_some h
  refine Ro.p (u := .bool false) (v := some (.bool (decide (((List.length x0.fBlocks : Nat) : Int) = 0)))) (by rw [decide_eq_false (by omega)]) ?_
  refine Ro.d (mkE [(1, .fp (E_Graph.e x0)), (7, .bool false)] 10) ?_
  refine Run.condF (by kernel_rfl) ?_
  refine Run.skip ?_
  refine Rn.c (mkE [(1, .fp (E_Graph.e x0))] 18) ?_
  refine Rn.g ?_
  refine Ro.t 2 ?_
  refine Ro.p (len_fz E_Block x0.fBlocks) ?_
  refine RunO.mks1 EB HP.nil (by kernel_rfl) (a := false) (n := ((List.length x0.fBlocks : Nat) : Int)) (l := met) (by kernel_rfl) (by kernel_rfl) (by kernel_rfl) (by kernel_rfl) (by kernel_rfl) hmade ?_
  intro b H hp
  refine RunO.alloc hp (by kernel_rfl) ?_
  intro bm H hp
  refine RunO.st hp (by kernel_rfl) 0 (off := 0) (v := slv EB.z EB.ag met.length (some (b, 0))) (cs' := [slv EB.z EB.ag met.length (some (b, 0))]) rfl (by kernel_rfl) (by kernel_rfl) (by kernel_rfl) ?_
  intro H hp
  refine Ro.d (mkE [(1, .fp (E_Graph.e x0)), (1, .ptr bm 0 0)] 16) ?_
  refine Run.seq (Run.rgn ?_)
  refine RunO.alloc hp (by kernel_rfl) ?_
  intro bo H hp
  refine Ro.d (mkE [(1, .fp (E_Graph.e x0)), (1, .ptr bm 0 0), (0, .ptr bo 0 0)] 15) ?_
  refine Run.seq (Run.rgn ?_)
  refine RunO.alloc hp (by kernel_rfl) ?_
  intro bw H hp
  refine Ro.d (mkE [(1, .fp (E_Graph.e x0)), (1, .ptr bm 0 0), (0, .ptr bo 0 0), (0, .ptr bw 0 0)] 14) ?_
  refine Rn.g ?_
  refine Ro.t 1 ?_
  refine RunO.st hp (by kernel_rfl) 0 (off := 0) (v := .fn 35 (caps35 bm bw bo (E_Graph.e x0))) (cs' := [.fn 35 (caps35 bm bw bo (E_Graph.e x0))]) rfl (by kernel_rfl) (by kernel_rfl) (by kernel_rfl) ?_
  intro H hp
  refine Ro.d (mkE [(4, .ptr bo 0 0), (0, .ptr bw 0 0)] 14) ?_
  -- the heap in the walk's order
  have hp := hp.non
  have hp := hp.pick 2 rfl
  have hp := hp.pick 2 rfl
  have hp := hp.pick 4 rfl
  have hp := hp.pick 4 rfl
  have hp : HP H (obs bm bw bo (E_Graph.e x0) (some (b, 0)) met none [] []) := hp
  refine Rn.g ?_
  refine Ro.p (hp.ld 2 (off := 0) (n := none) (v := .fn 35 (caps35 bm bw bo (E_Graph.e x0))) rfl rfl) ?_
  refine RunO.h1 (n := 35) (caps := caps35 bm bw bo (E_Graph.e x0)) (us := .int .i64 0 :: caps35 bm bw bo (E_Graph.e x0)) (by kernel_rfl) (by kernel_rfl) (by kernel_rfl) ?_
  refine (walk35 x0 bm bw bo (some (b, 0)) _ 0 (met, []) s hw H none [] hp).mono ?_
  rintro v H ⟨oo, hp⟩
  refine Ro.d (mkE [(4, .ptr bo 0 0)] 15) ?_
  refine Rn.g ?_
  refine Ro.p (hp.ld 3 (off := 0) (n := none) (v := slv 1 false s.2.length oo) rfl rfl) ?_
  have hp := hp.pick 4 rfl
  refine RunO.h1 (n := 36) (caps := []) (us := [slv 1 false s.2.length oo]) (by kernel_rfl) (by kernel_rfl) (by kernel_rfl) ?_
  refine (w36 h hp).mono ?_
  rintro v H ⟨q, rfl, hp⟩
  refine Ro.d (mkE [(4, .ptr bo 0 0)] 15) ?_
  refine Rn.g ?_
  refine Ro.p (hp.ld 4 (off := 0) (n := none) (v := slv 1 false s.2.length oo) rfl rfl) ?_
  refine Ro.t 1 ?_
  refine Ro.d (mkE [(2, slv 1 false s.2.length oo)] 17) ?_
  refine Run.ret ⟨slv 1 false s.2.length oo, by kernel_rfl, ?_⟩
  have hl : r.length = s.2.length := by
    have h2 := F36_is s.2 (walk_len hw)
    rw [h2] at h; cases h; simp
  rw [← hl]
  exact own_deep (EI .i64) hp 0 rfl false (.inl rfl) 36
end Go.Eng.Gra
