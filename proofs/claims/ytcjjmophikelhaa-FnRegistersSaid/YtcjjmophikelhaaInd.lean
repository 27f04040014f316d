/-
  slices.Insert of one member: its contract. No conditions but those in the statements.
-/
import Derived.Test.YtcjjmophikelhaaInc
import Derived.Test.YtcjjmophikelhaaEa
set_option linter.unusedVariables false
set_option linter.unusedSimpArgs false
namespace Go.Proofs.Ytcjjmophikelhaa
open Go.AE Go.Lib Go.RowKit

def cells5 (r : List Int) : List Value := (List.range 5).map fun j => Value.int .i64 (r.getD j 0)
def flat : List (List Int) → List Value
  | [] => []
  | r :: xss => cells5 r ++ flat xss
theorem cells5_len (r : List Int) : (cells5 r).length = 5 := by simp [cells5]
theorem flat_len : ∀ xss, (flat xss).length = xss.length * 5
  | [] => rfl
  | r :: xss => by rw [flat, List.length_append, cells5_len, flat_len xss, List.length_cons]; omega
theorem flat_append : ∀ xss yss, flat (xss ++ yss) = flat xss ++ flat yss
  | [], _ => rfl
  | r :: xss, yss => by rw [List.cons_append, flat, flat, flat_append xss yss, List.append_assoc]
theorem flat_get : ∀ (xss : List (List Int)) (i j : Nat), i < xss.length → j < 5 → (flat xss)[i * 5 + j]? = some (.int .i64 ((xss.getD i []).getD j 0))
  | [], i, _, h, _ => absurd h (Nat.not_lt_zero i)
  | r :: xss, 0, j, _, hj => by
    rw [flat, List.getElem?_append_left (by rw [cells5_len]; omega)]
    simp [cells5, hj]
  | r :: xss, i + 1, j, h, hj => by
    rw [flat, List.getElem?_append_right (by rw [cells5_len]; omega), cells5_len, show (i + 1) * 5 + j - 5 = i * 5 + j by omega, flat_get xss i j (Nat.lt_of_succ_lt_succ h) hj]
    rfl
theorem flat_of {xss : List (List Int)} {arr : Array Value} (hl : xss.length * 5 ≤ arr.size) (h : ∀ i, i < xss.length → ∀ j, j < 5 → arr.getD (i * 5 + j) undef = .int .i64 ((xss.getD i []).getD j 0)) : arr.toList.take (xss.length * 5) = flat xss := by
  apply List.ext_getElem?
  intro p
  by_cases hp : p < xss.length * 5
  · have hi : p / 5 < xss.length := by omega
    have hj : p % 5 < 5 := Nat.mod_lt _ (by decide)
    have he : p / 5 * 5 + p % 5 = p := by omega
    have h1 := h _ hi _ hj
    have h2 := flat_get xss _ _ hi hj
    rw [he] at h1 h2
    rw [h2, List.getElem?_take, if_pos hp, ← h1, Array.getElem?_toList, Array.getD_eq_getD_getElem?, Array.getElem?_eq_getElem (by omega)]
    rfl
  · rw [List.getElem?_eq_none (by simp; omega), List.getElem?_eq_none (by rw [flat_len]; omega)]
theorem flat_to {xss : List (List Int)} {arr : Array Value} (h : arr.toList.take (xss.length * 5) = flat xss) (i : Nat) (hi : i < xss.length) (j : Nat) (hj : j < 5) : arr.getD (i * 5 + j) undef = .int .i64 ((xss.getD i []).getD j 0) := by
  have h2 := flat_get xss i j hi hj
  rw [← h, List.getElem?_take, if_pos (by omega), Array.getElem?_toList] at h2
  rw [Array.getD_eq_getD_getElem?, h2]
  rfl
theorem flat_ins (xss : List (List Int)) (i : Nat) (hi : i ≤ xss.length) (r : List Int) : flat (insL xss i r) = (flat xss).take (i * 5) ++ flat [r] ++ (flat xss).drop (i * 5) := by
  have h1 : flat xss = flat (xss.take i) ++ flat (xss.drop i) := by rw [← flat_append, List.take_append_drop]
  have h2 : (flat (xss.take i)).length = i * 5 := by rw [flat_len, List.length_take, Nat.min_eq_left hi]
  rw [insL, flat_append, flat_append, h1, ← h2, List.take_left, List.drop_left]
theorem cells5_one : ∀ {r : List Int} {u : Value}, u ∈ cells5 r → u.oneCell' = true := fun h => by
  simp only [cells5, List.mem_map] at h
  obtain ⟨j, _, rfl⟩ := h
  rfl
theorem flat_one : ∀ {xss : List (List Int)} {u : Value}, u ∈ flat xss → u.oneCell' = true
  | [], _, h => by cases h
  | r :: xss, u, h => by
    rw [flat] at h
    rcases List.mem_append.1 h with h | h
    · exact cells5_one h
    · exact flat_one h
theorem data_inv {β : Nat → Option Nat} {n : Nat} {S : Nat → Prop} {w : World} {r : Nat} {xss : List (List Int)} (h : BlkR β n S w (some r) (DMember xss)) :
    ∃ arr e, w.heap[r]? = some (.cells arr e (0, 0)) ∧ xss.length * 5 ≤ arr.size ∧ arr.toList.take (xss.length * 5) = flat xss := by
  cases h with
  | data r arr e d hh hl h => exact ⟨arr, e, hh, hl, flat_of hl h⟩
theorem args3 {β : Nat → Option Nat} {n m : Nat} {S : Nat → Prop} {w : World} {i : Int} {vs : Array Value} (h0 : 0 < m) (hl : ([.sl 0 5 m, I i, .sl 1 5 1] : List AV).length = vs.size) (hv : ∀ k c, ([.sl 0 5 m, I i, .sl 1 5 1] : List AV)[k]? = some c → VR β n S w c (vs.getD k undef)) :
    ∃ r c r2 c2, β 0 = some r ∧ β 1 = some r2 ∧ m ≤ c ∧ c ≤ maxLen ∧ (∃ arr e fz, w.heap[r]? = some (.cells arr e fz) ∧ c * 5 ≤ arr.size) ∧ vs = #[.slice (some ⟨r, 0, none⟩) m c, .int .i64 i, .slice (some ⟨r2, 0, none⟩) 1 c2] := by
  rcases (hv 0 _ rfl).sl_inv with ⟨h1, _⟩ | ⟨r, c, arr, e, _, hβ, hc, hm, ⟨fz, hh⟩, hs, e0⟩
  · omega
  rcases (hv 2 _ rfl).sl_inv with ⟨h1, _⟩ | ⟨r2, c2, arr2, e', _, hβ2, _, _, _, _, e2⟩
  · omega
  have e1 := (hv 1 _ rfl).v_inv.1
  have hl : vs.size = 3 := hl.symm
  refine ⟨r, c, r2, c2, hβ, hβ2, hc, hm, ⟨arr, e, fz, hh, hs⟩, ?_⟩
  apply Array.ext
  · simp [hl]
  · intro k g1 g2
    have hk : k < 3 := by simpa using g2
    rcases (show k = 0 ∨ k = 1 ∨ k = 2 by omega) with rfl | rfl | rfl
    · rw [Array.getD_eq_getD_getElem?, Array.getElem?_eq_getElem g1] at e0; simpa using e0
    · rw [Array.getD_eq_getD_getElem?, Array.getElem?_eq_getElem g1] at e1; simpa using e1
    · rw [Array.getD_eq_getD_getElem?, Array.getElem?_eq_getElem g1] at e2; simpa using e2
theorem insL_end (xss : List (List Int)) (r : List Int) : insL xss xss.length r = xss ++ [r] := by simp [insL]
set_option maxRecDepth 100000 in
theorem insert_in (xss : List (List Int)) (row : List Int) (i : Nat) (hi : i < xss.length) (hx : xss.length ≤ 1048576) : CallA Try.prog G 40 [.sl 0 5 xss.length, I i, .sl 1 5 1] [DMember xss, DMember [row]]
    (fun v J => v = .sl 2 5 (xss.length + 1) ∧ J = [.dead, DMember [row], DMember (insL xss i row)]) :=
  ⟨⟨_, Try.func40, by kernel_rfl, by kernel_rfl⟩, fun β S w vs hr hl hv => by
    obtain ⟨r, c, r2, c2, hβ, hβ2, hc, hm, ⟨arr', e', fz', hh', hcs⟩, rfl⟩ := args3 (by omega) hl hv
    have hb := hr.blk 0 _ rfl
    have hb2 := hr.blk 1 _ rfl
    rw [hβ] at hb
    rw [hβ2] at hb2
    obtain ⟨arr, e, hh, hs, hf⟩ := data_inv hb
    obtain ⟨arr2, e2, hh2, hs2, hf2⟩ := data_inv hb2
    have hcs : c * 5 ≤ arr.size := by rw [hh] at hh'; cases hh'; exact hcs
    have hne : r2 ≠ r := fun e => absurd (hr.sep 1 0 _ _ r2 rfl rfl (by simp) (by simp) hβ2 (e ▸ hβ)) (by decide)
    have hnl : (insL xss i row).length = xss.length + 1 := insL_len _ _ _
    have hrow : ∀ a : Array Value, a.toList.take ((xss.length + 1) * 5) = arr.toList.take (i * 5) ++ arr2.toList.take 5 ++ (arr.toList.take (xss.length * 5)).drop (i * 5) → a.toList.take ((insL xss i row).length * 5) = flat (insL xss i row) := fun a ha => by
      have h5 : arr2.toList.take 5 = flat [row] := hf2
      have hti : arr.toList.take (i * 5) = (flat xss).take (i * 5) := by rw [← hf, List.take_take, Nat.min_eq_left (by omega)]
      rw [hnl, ha, flat_ins xss i (by omega), h5, hti, hf]
    have h1c : ∀ u ∈ arr.toList.take (xss.length * 5), u.oneCell' = true := fun u hu => flat_one (hf ▸ hu)
    have h1v : ∀ u ∈ arr2.toList.take 5, u.oneCell' = true := fun u hu => flat_one (xss := [row]) (hf2 ▸ hu)
    by_cases hroom : xss.length + 1 ≤ c
    · refine (insert_shift r xss.length c i r2 c2 arr arr2 e e2 w hi hroom hm hne hh hcs hh2 hs2 h1c h1v).mono fun ex w' ⟨a, he, hw', hsz, hta⟩ => ?_
      have hd : w.drew.heap[r]? = some (.cells arr e (0, 0)) := hh
      have hself : (w.drew.setRow r a).heap[r]? = some (.cells a e (0, 0)) := setRow_heap w.drew r _ _ _ _ hd
      have h0 := (HS.start hr).cl (Cl.of_below (Below.drew (Below.refl _ w)))
      have h1 := h0.write (k := 0) (b' := DMember (insL xss i row)) rfl (by simp) hβ hd hsz
        (.data r a e _ hself (by show (insL xss i row).length * 5 ≤ a.size; rw [hnl]; omega) (fun i' hi' j hj => flat_to (hrow a hta) i' hi' j hj))
      have h2 := h1.1.move (k := 0) (b := DMember (insL xss i row)) rfl (by simp)
      subst hw'
      exact ⟨_, S, _, _, _, he, ⟨rfl, rfl⟩, .sl 2 5 _ r c (by simp) (upd_same _ _ _ |>.trans hβ) hroom hm a e ⟨_, hself⟩ (by omega), h2.1⟩
    · refine (insert_grow r xss.length c i r2 c2 arr arr2 e e2 w hi hc (by omega) hx hh hcs hh2 hs2 h1c h1v).mono fun ex w' ⟨a, c', he, hcl, hnew, hc1, hc2, hsz, hta⟩ => ?_
      have h1 := (HS.start hr).kill 0
      have h2 := h1.push hcl (q := some w.heap.size) (b := DMember (insL xss i row)) (fun r hr => by cases hr; exact Nat.le_refl _)
        (.data _ a _ _ hnew (by show (insL xss i row).length * 5 ≤ a.size; rw [hnl]; omega) (fun i' hi' j hj => flat_to (hrow a hta) i' hi' j hj))
      exact ⟨_, S, _, _, _, he, ⟨rfl, rfl⟩, .sl 2 5 _ w.heap.size c' (by simp) (upd_same _ _ _) hc1 hc2 a _ ⟨_, hnew⟩ hsz, h2.1⟩⟩
attribute [local irreducible] CallA LoopA DrawA CallQ arithK quoK remK eqK
set_option maxRecDepth 100000 in
theorem insert_end (xss : List (List Int)) (row : List Int) (hx : xss.length ≤ 1048576) : CallA Try.prog G 40 [.sl 0 5 xss.length, I xss.length, .sl 1 5 1] [DMember xss, DMember [row]]
    (fun v J => v = .sl 2 5 (xss.length + 1) ∧ J = [.dead, DMember [row], DMember (xss ++ [row])]) := by
  refine CallA.ends (callA_of_body hT Try.func40 rfl ?_)
  repeat' (first | (intro h; first | contradiction | omega | (conv => whnf) | skip) | (refine And.intro ?_ ?_) | (refine arith_ok ⟨by omega, by omega⟩ ?_) | (first | (refine draw_quiet hT mixed (by decide +kernel) ?_) | (refine draw_hard hT mixed (by decide +kernel) ?_)) | fail)
  all_goals first | rfl | omega | (simp only [List.length_cons, List.length_nil]; omega) | skip
  all_goals (first | (refine ⟨[some 2], .sl 2 5 (xss.length + 1), [.dead, DMember [row], DMember (xss ++ [row])], ?_, ?_, ?_⟩; all_goals (repeat' (first | exact rfl | exact trivial | (with_reducible assumption) | refine And.intro ?_ ?_)); all_goals (first | omega | assumption | ((repeat' (first | simp | exact rfl | exact trivial | (with_reducible assumption) | refine And.intro ?_ ?_ | omega | assumption)); done)); done) | (refine ⟨[some 0, some 1, some 2], .sl 2 5 (xss.length + 1), [.dead, DMember [row], DMember (xss ++ [row])], ?_, ?_, ?_⟩; all_goals (repeat' (first | exact rfl | exact trivial | (with_reducible assumption) | refine And.intro ?_ ?_)); all_goals (first | omega | assumption); done) | trace_state)
theorem insert_call (xss : List (List Int)) (row : List Int) (i : Nat) (hi : i ≤ xss.length) (hx : xss.length ≤ 1048576) : CallA Try.prog G 40 [.sl 0 5 xss.length, I i, .sl 1 5 1] [DMember xss, DMember [row]]
    (fun v J => v = .sl 2 5 (xss.length + 1) ∧ J = [.dead, DMember [row], DMember (insL xss i row)]) := by
  by_cases h : i = xss.length
  · subst h; rw [insL_end]; exact insert_end xss row hx
  · exact insert_in xss row i (by omega) hx
end Go.Proofs.Ytcjjmophikelhaa
