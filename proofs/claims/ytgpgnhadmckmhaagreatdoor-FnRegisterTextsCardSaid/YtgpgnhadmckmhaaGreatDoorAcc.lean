/-
  Which texts are texts of statutes: plain facts, no program in sight. No conditions but those in the statements.
-/
import Derived.Test.YtgpgnhadmckmhaaGreatDoorStc
set_option linter.unusedVariables false
set_option linter.unusedSimpArgs false
namespace Go.Proofs.YtgpgnhadmckmhaaGreatDoor
open Go.AE Go.Lib

theorem itoa_free {n : Int} {c : UInt8} (h : c ≠ 45) (h2 : ¬ dgt c) : c ∉ itoa n := fun hm => by
  rcases itoa_bytes hm with h3 | h3
  · exact h h3
  · exact h2 h3
theorem join_mem {b : UInt8} {sep : List UInt8} : ∀ {ws : List (List UInt8)}, b ∈ join ws sep → b ∈ sep ∨ ∃ w ∈ ws, b ∈ w
  | [], h => by simp [join_nil] at h
  | [x], h => by rw [join_one] at h; exact .inr ⟨x, by simp, h⟩
  | x :: y :: r, h => by
    rw [join_cons2, List.mem_append, List.mem_append] at h
    rcases h with h | h | h
    · exact .inr ⟨x, by simp, h⟩
    · exact .inl h
    · rcases join_mem h with h | ⟨w, hw, h⟩
      · exact .inl h
      · exact .inr ⟨w, List.mem_cons_of_mem _ hw, h⟩
theorem sp_ints {c : UInt8} (h1 : c ≠ 45) (h2 : ¬ dgt c) {r : List Int} (h : r ≠ []) : sp c (join (r.map itoa) [c]) = r.map itoa :=
  sp_join (by simpa using h) fun w hw => by
    obtain ⟨x, _, rfl⟩ := List.mem_map.1 hw
    exact itoa_free h1 h2
theorem sp_rt {r : List Int} (h : r ≠ []) : sp 44 (rt r) = r.map itoa := sp_ints (by decide) (by decide) h
theorem rt_free (r : List Int) : (59 : UInt8) ∉ rt r := fun hm => by
  rcases join_mem hm with h | ⟨w, hw, h⟩
  · exact absurd h (by decide)
  · obtain ⟨x, _, rfl⟩ := List.mem_map.1 hw
    exact itoa_free (by decide) (by decide) h
theorem sp_stx {xss : List (List Int)} (h : xss ≠ []) : sp 59 (stx xss) = xss.map rt :=
  sp_join (by simpa using h) fun w hw => by
    obtain ⟨x, _, rfl⟩ := List.mem_map.1 hw
    exact rt_free x
theorem map_itoa_inj : ∀ {xs ys : List Int}, xs.map itoa = ys.map itoa → xs = ys
  | [], [], _ => rfl
  | [], _ :: _, h => by simp at h
  | _ :: _, [], h => by simp at h
  | x :: r, y :: q, h => by
    rw [List.map_cons, List.map_cons] at h
    injection h with h1 h2
    rw [itoa_inj h1, map_itoa_inj h2]
theorem len_ne {r : List Int} (h : r.length = 6) : r ≠ [] := fun e => by rw [e] at h; cases h
theorem rt_inj {r q : List Int} (h : r.length = 6) (h' : q.length = 6) (e : rt r = rt q) : r = q := map_itoa_inj (by rw [← sp_rt (len_ne h), ← sp_rt (len_ne h'), e])
/-- A rule's numbers with blanks. -/
def jb (r : List Int) : List UInt8 := join (r.map itoa) [32]
theorem jb_inj {r q : List Int} (h : r.length = 6) (h' : q.length = 6) (e : jb r = jb q) : r = q := map_itoa_inj (by
  rw [← sp_ints (c := 32) (by decide) (by decide) (len_ne h), ← sp_ints (c := 32) (by decide) (by decide) (len_ne h')]
  exact congrArg (sp 32) e)
theorem maps_inj {f : List Int → List UInt8} (hf : ∀ {r q : List Int}, r.length = 6 → q.length = 6 → f r = f q → r = q) : ∀ {xss yss : List (List Int)}, (∀ r ∈ xss, r.length = 6) → (∀ r ∈ yss, r.length = 6) → xss.map f = yss.map f → xss = yss
  | [], [], _, _, _ => rfl
  | [], _ :: _, _, _, h => by simp at h
  | _ :: _, [], _, _, h => by simp at h
  | x :: r, y :: q, h1, h2, h => by
    rw [List.map_cons, List.map_cons] at h
    injection h with h3 h4
    rw [hf (h1 x (by simp)) (h2 y (by simp)) h3, maps_inj hf (fun w hw => h1 w (by simp [hw])) (fun w hw => h2 w (by simp [hw])) h4]
theorem blank_rt (r : List Int) : replaceAll (rt r) [44] [32] = jb r := by
  rw [replaceAll_map (by decide)]
  unfold rt jb
  induction r with
  | nil => rfl
  | cons x r ih =>
    have hk : (itoa x).map (fun b => if b = 44 then 32 else b) = itoa x := by
      conv => rhs; rw [← List.map_id (itoa x)]
      refine List.map_congr_left fun b hb => if_neg ?_
      rintro rfl
      rcases itoa_bytes hb with h | h
      · exact absurd h (by decide)
      · exact absurd h.1 (by decide)
    cases r with
    | nil => simpa [join_one] using hk
    | cons y r =>
      rw [List.map_cons, List.map_cons, join_cons2, join_cons2, List.map_append, List.map_append, hk]
      rw [List.map_cons] at ih
      rw [ih]
      rfl
/-- A text of valid statutes. -/
def Acc (s : List UInt8) (xss : List (List Int)) : Prop := (∀ r ∈ xss, r.length = 6) ∧ areRl xss ∧ s = stx xss
theorem Acc.sp {s : List UInt8} {xss : List (List Int)} (h : Acc s xss) : Go.AE.sp 59 s = xss.map rt := by
  rw [h.2.2]
  refine sp_stx fun e => ?_
  have := h.2.1.2.1
  rw [e] at this
  cases this
theorem Acc.uniq {s : List UInt8} {x y : List (List Int)} (h : Acc s x) (h' : Acc s y) : x = y := maps_inj rt_inj h.1 h'.1 (by rw [← h.sp, ← h'.sp])
open Classical in
noncomputable def RS (s : List UInt8) : List (List Int) := if h : ∃ x, Acc s x then h.choose else []
open Classical in
noncomputable def CS (s : List UInt8) : Int := if ∃ x, Acc s x then 0 else 6
theorem RS_yes {s : List UInt8} {x : List (List Int)} (h : Acc s x) : RS s = x ∧ CS s = 0 := by
  have he : ∃ x, Acc s x := ⟨x, h⟩
  refine ⟨?_, if_pos he⟩
  unfold RS
  rw [dif_pos he]
  exact he.choose_spec.uniq h
theorem RS_no {s : List UInt8} (h : ∀ x, ¬ Acc s x) : RS s = [] ∧ CS s = 6 := by
  have he : ¬ ∃ x, Acc s x := fun ⟨x, hx⟩ => h x hx
  exact ⟨dif_neg he, if_neg he⟩
theorem RS_row (s : List UInt8) : (∀ r ∈ RS s, r.length = 6) ∧ (RS s).length ≤ 20 := by
  by_cases he : ∃ x, Acc s x
  · obtain ⟨x, hx⟩ := he
    rw [(RS_yes hx).1]
    exact ⟨hx.1, hx.2.1.2.2⟩
  · rw [(RS_no fun x hx => he ⟨x, hx⟩).1]
    exact ⟨fun r hr => (by cases hr), Nat.zero_le _⟩
/-- A number of at most thirteen digits. -/
def sm (n : Int) : Prop := -9999999999999 ≤ n ∧ n ≤ 9999999999999
theorem rowL_in {r : List Int} (hl : r.length = 6) (h : rowL r) : ∀ x ∈ r, 0 ≤ x ∧ x ≤ 150 := by
  intro x hx
  obtain ⟨a, b, c, d, e, f, rfl⟩ := lenRule hl
  have h' : rowRl a b c d e f := h
  unfold rowRl at h'
  simp only [List.mem_cons, List.not_mem_nil, or_false] at hx
  omega
/-- The parts read so far. -/
structure Rd (f : List Int → List UInt8) (ps : List (List UInt8)) (i : Nat) (out : List (List Int)) : Prop where
  le : i ≤ ps.length
  len : out.length = i
  eq : ps.take i = out.map f
  row : ∀ r ∈ out, r.length = 6
theorem Rd.start (f : List Int → List UInt8) (ps : List (List UInt8)) : Rd f ps 0 [] := ⟨Nat.zero_le _, rfl, by simp, fun r h => by cases h⟩
theorem Rd.next {f : List Int → List UInt8} {ps : List (List UInt8)} {i : Nat} {out : List (List Int)} (h : Rd f ps i out) (hi : i < ps.length) {r : List Int} (hr : r.length = 6) (he : ps.getD i [] = f r) : Rd f ps (i + 1) (out ++ [r]) :=
  ⟨hi, by rw [List.length_append, h.len]; rfl, by rw [take_snoc [] hi, h.eq, he, List.map_append]; rfl, fun q hq => by
    rcases List.mem_append.1 hq with hq | hq
    · exact h.row q hq
    · obtain rfl := List.mem_singleton.1 hq
      exact hr⟩
theorem Rd.all {f : List Int → List UInt8} {ps : List (List UInt8)} {out : List (List Int)} (h : Rd f ps ps.length out) : ps = out.map f := by rw [← h.eq, take_all (Nat.le_refl _)]
/-- The reference has read all parts. -/
theorem Rd.acc {s : List UInt8} {out : List (List Int)} (h : Rd rt (Go.AE.sp 59 s) (Go.AE.sp 59 s).length out) (ha : areRl out) : Acc s out :=
  ⟨h.row, ha, by
    conv => lhs; rw [← join_sp 59 s, h.all]
    rfl⟩
theorem Rd.nacc {s : List UInt8} {out : List (List Int)} (h : Rd rt (Go.AE.sp 59 s) (Go.AE.sp 59 s).length out) (ha : ¬ areRl out) (x : List (List Int)) : ¬ Acc s x := fun hx => by
  have e : x = out := maps_inj rt_inj hx.1 h.row (by rw [← hx.sp, ← h.all])
  exact ha (e ▸ hx.2.1)
theorem Acc.part {s : List UInt8} {x : List (List Int)} (h : Acc s x) {i : Nat} (hi : i < (Go.AE.sp 59 s).length) : ∃ r ∈ x, (Go.AE.sp 59 s).getD i [] = rt r ∧ i < x.length := by
  have hl : i < x.length := by rw [h.sp, List.length_map] at hi; exact hi
  refine ⟨x.getD i [], getD_mem hl, ?_, hl⟩
  rw [h.sp, List.getD_eq_getElem?_getD, List.getElem?_map, List.getD_eq_getElem?_getD, List.getElem?_eq_getElem hl]
  rfl
/-- A part that the reference cannot read. -/
theorem nacc_spec {s : List UInt8} {i : Nat} (hi : i < (Go.AE.sp 59 s).length) (h : ∀ xs : List Int, (∀ x ∈ xs, sm x) → Go.AE.sp 44 ((Go.AE.sp 59 s).getD i []) = xs.map itoa → xs.length ≠ 6) (x : List (List Int)) : ¬ Acc s x := fun hx => by
  obtain ⟨r, hr, he, _⟩ := hx.part hi
  refine h r (fun y hy => ?_) (by rw [he, sp_rt (len_ne (hx.1 r hr))]) (hx.1 r hr)
  have := rowL_in (hx.1 r hr) (hx.2.1.1 r hr) y hy
  unfold sm
  omega
theorem part_rt {p : List UInt8} {xs : List Int} (h : Go.AE.sp 44 p = xs.map itoa) : p = rt xs := by
  rw [← join_sp 44 p, h]; rfl
end Go.Proofs.YtgpgnhadmckmhaaGreatDoor
