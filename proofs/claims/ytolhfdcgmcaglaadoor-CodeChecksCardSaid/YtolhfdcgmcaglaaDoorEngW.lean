/- Functions of this seat, run on unknown values by the rules of the small machine (no condition beyond those stated). -/
import Derived.Test.YtolhfdcgmcaglaaDoorEngSUp
namespace Go.Eng
open Go
set_option linter.unusedSectionVars false
set_option linter.unusedVariables false
set_option linter.unusedSimpArgs false
theorem snoc_of {α : Type} {l : List α} (h : 0 < l.length) : ∃ r x,l = r ++ [x] :=
  ⟨l.take (l.length - 1),l[l.length - 1],by
    have := (List.take_append_getElem (l := l) (i := l.length - 1) (by omega)).symm;rw [show l.length - 1 + 1 = l.length by omega,List.take_length] at this
    simpa using this⟩
theorem rdB_0 (g : Nat) (c : List V) (r : Heap) : rdB ((g,c) :: r) 0 g = some c := by simp [rdB]
theorem rdB_s (x : Nat × List V) (r : Heap) (n g : Nat) : rdB (x :: r) (n + 1) g = rdB r n g := by simp [rdB]
theorem app_blk {H : Heap} {b g : Nat} {cs : List V} {len z by_ : Nat} {ag : Bool} {x : V} (h : rdB H b g = some cs) (hcs : len * z ≤ cs.length) (hx : x.cells.length = z) (hc : x.cells.all V.isCell = true) (hl : (len + 1) * by_ ≤ 140737488355328) :
    appV H (.sl b g 0 len z ag) (.fz [x]) z ag by_ = some (.sl b (g + 1) 0 (len + 1) z ag,H.set b (g + 1,cs.take (len * z) ++ x.cells)) := by
  have h1 : newCells H (.fz [x]) z = some (x.cells,1) := by simp [newCells,hdOk,hx]
  simp only [appV,h1,Option.bind_some,hc,Bool.not_true,Bool.false_eq_true,if_false,h];rw [if_pos ⟨trivial,by omega,hl⟩,List.drop_zero]
theorem app_new {H : Heap} {z by_ : Nat} {ag : Bool} {x : V} (hx : x.cells.length = z) (hc : x.cells.all V.isCell = true) (hl : by_ ≤ 140737488355328) : appV H .nils (.fz [x]) z ag by_ = some (.sl H.length 0 0 1 z ag,H ++ [(0,x.cells)]) := by
  have h1 : newCells H (.fz [x]) z = some (x.cells,1) := by simp [newCells,hdOk,hx]
  simp only [appV,h1,Option.bind_some,hc,Bool.not_true,Bool.false_eq_true,if_false];rw [if_pos (by omega),if_neg (by omega)]
theorem app_lst {α : Type} {f : α → V} {H : Heap} {b g : Nat} {l : List α} {junk : List V} {by_ : Nat} {x : V} (a : α) (h : rdB H b g = some (l.map f ++ junk)) (hx : x = f a) (hc : (f a).isCell = true) (hag : (f a).isAg = false) (hl : (l.length + 1) * by_ ≤ 140737488355328) :
    appV H (.sl b g 0 l.length 1 false) (.fz [x]) 1 false by_ = some (.sl b (g + 1) 0 (l.length + 1) 1 false,H.set b (g + 1,(l ++ [a]).map f)) := by
  subst hx;have hcc : (f a).cells = [f a] := by
    cases hfa : f a <;> first | rfl | (rw [hfa] at hag; cases hag)
  rw [app_blk h (by simp) (by rw [hcc]; rfl) (by rw [hcc]; simp [hc]) hl];have e : (List.map f l ++ junk).take (l.length * 1) = l.map f := by rw [Nat.mul_one]; exact List.take_left' (by simp)
  rw [e,hcc,List.map_append,List.map_singleton]
theorem idx_sl {b g len : Nat} {ag : Bool} {i : Nat} (h : i < len) : idxaV (.sl b g 0 len 1 ag) (.int .i64 (i : Int)) 1 ag = some (.ptr b g i) := by
  simp only [idxaV];rw [if_pos ⟨by omega,by omega,trivial,trivial⟩,Int.toNat_natCast,Nat.mul_one,Nat.zero_add]
theorem slc_pop {b g len : Nat} {z : Nat} {ag : Bool} (hz : z ≠ 0) {x : Int} (hx : x = (len : Int)) : slcV (.sl b g 0 (len + 1) z ag) none (some (.int .i64 x)) z = some (.sl b g 0 len z ag) := by
  subst hx;simp only [slcV,bndV,Option.bind_some,Int.toNat_natCast];rw [if_pos (by omega)];simp only [Option.bind_some];rw [if_pos ⟨hz,by omega,by omega,trivial⟩]
  simp
theorem ld_at {H : Heap} {b g i : Nat} {cs : List V} {v : V} (h : rdB H b g = some cs) (hv : cs[i]? = some v) : ldV H (.ptr b g i) none = some v := by simp [ldV,h,takeSh,hv]
theorem ld_lst {α : Type} {f : α → V} {H : Heap} {b g i : Nat} {l : List α} {junk : List V} {a : α} (h : rdB H b g = some (l.map f ++ junk)) (hv : l[i]? = some a) : ldV H (.ptr b g i) none = some (f a) := by
  refine ld_at h ?_;have : i < l.length := (List.getElem?_eq_some_iff.mp hv).1;rw [List.getElem?_append_left (by simpa using this),List.getElem?_map,hv]; rfl
theorem st_at {H : Heap} {b g i : Nat} {cs : List V} {v : V} (h : rdB H b g = some cs) (hi : i < cs.length) (hv : v.isCell = true) : stV H (.ptr b g i) v none = some (H.set b (g,cs.set i v)) := by
  have h1 : v.cells.length = 1 := by cases v <;> first | rfl | cases hv
  simp only [stV,h,Option.bind_some,fitsSh,hv,Bool.true_and,h1];rw [if_pos (by simp; omega)]
theorem st_lst {α : Type} {f : α → V} {H : Heap} {b g i : Nat} {l : List α} (a : α) (h : rdB H b g = some (l.map f)) (hi : i < l.length) (hv : (f a).isCell = true) : stV H (.ptr b g i) (f a) none = some (H.set b (g,(l.set i a).map f)) := by
  rw [st_at h (by simpa using hi) hv,List.map_set]
theorem mks_lst {α : Type} {f : α → V} {H : Heap} {n by_ : Nat} (a : α) (hb : by_ ≤ 64) (hn : n ≤ 1048576) : mksV H 1 false [f a] by_ (.int .i64 (n : Int)) (.int .i64 (n : Int)) = some (.sl H.length 0 0 n 1 false,H ++ [(0,(List.replicate n a).map f)]) := by
  have h1 : (n : Int) * ((by_ : Nat) : Int) ≤ 140737488355328 := by
    have : n * by_ ≤ 1048576 * 64 := Nat.mul_le_mul hn hb;have e : (n : Int) * (by_ : Int) = ((n * by_ : Nat) : Int) := by simp
    rw [e]; omega
  have e : ∀ n,(List.replicate n [f a]).flatten = (List.replicate n a).map f := by
    intro n
    induction n with
    | zero => rfl
    | succ n ih => rw [List.replicate_succ,List.flatten_cons,ih]; rfl
  simp only [mksV,Int.toNat_natCast,e];rw [if_pos ⟨by omega,by omega,h1,by omega⟩]
theorem bsl_one {H : Heap} {x : V} {z : Nat} {ag : Bool} {zero : V} (h0 : okEl z ag zero = true) (h1 : okEl z ag x = true) (hc : x.cells.all V.isCell = true) (hf : V.free deepN x = true) : bslV H z ag 1 zero [(0,x)] true = some (.fz [x],H) := by
  simp [bslV,h0,h1,hc,hf,setParts]
theorem bsl_i64 {H : Heap} {z : Int} {x : Int} : (bslV H 1 false 1 (.int .i64 z) [(0,.int .i64 x)] true).map (·.1) = some (.fz [.int .i64 x]) := rfl
theorem deep_lst {α : Type} {f : α → V} {strict : Bool} {H : Heap} {c g : Nat} {r : List α} (hf : ∀ a ∈ r,deep strict H 39 (f a) = some (f a)) (hag : ∀ a,(f a).isAg = false) (h : rdB H c g = some (r.map f)) : deep strict H deepN (.sl c g 0 r.length 1 false) = some (.fz (r.map f)) := by
  show deep strict H (39 + 1) _ = _;rw [deep_sl,h,Option.bind_some,if_pos (by simp),List.drop_zero,rows_one r.length (r.map f) (by simp),List.map_map];simp only [Function.comp_def];rw [omap_map (fun x : α => [f x]) (drow (deep strict H 39) false) f r (fun a ha => by rw [drow_one,hf a ha,Option.bind_some,hag a]; rfl)]
  rfl
theorem deep_map {α : Type} {f u : α → V} {strict : Bool} {H : Heap} {n c g : Nat} {r : List α} (hf : ∀ a ∈ r,deep strict H n (f a) = some (u a)) (hag : ∀ a,(u a).isAg = false) (h : rdB H c g = some (r.map f)) : deep strict H (n + 1) (.sl c g 0 r.length 1 false) = some (.fz (r.map u)) := by
  rw [deep_sl,h,Option.bind_some,if_pos (by simp),List.drop_zero,rows_one r.length (r.map f) (by simp),List.map_map];simp only [Function.comp_def];rw [omap_map (fun x : α => [f x]) (drow (deep strict H n) false) u r (fun a ha => by rw [drow_one,hf a ha,Option.bind_some,hag a]; rfl)]
  rfl
theorem idx_lst {α : Type} {f : α → V} {l : List α} {i : Nat} (hi : i < l.length) (hf : ∀ a,okEl 1 false (f a) = true) : idxaV (.fz (l.map f)) (.int .i64 (i : Int)) 1 false = some (.fp (f l[i])) := by
  refine idxaV_fz (by omega) ?_ (hf _);rw [Int.toNat_natCast,List.getElem?_map,List.getElem?_eq_getElem hi]; rfl
end Go.Eng
