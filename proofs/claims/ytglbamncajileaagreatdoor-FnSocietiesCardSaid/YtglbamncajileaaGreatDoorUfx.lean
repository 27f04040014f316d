/-
  Societies drawn from bytes; holdings and tables that are alike. The law on societies. No conditions but those in the statements.
-/
import Derived.Test.YtglbamncajileaaGreatDoorNe
import Derived.Test.YtglbamncajileaaGreatDoorUrk
import Derived.Test.YtglbamncajileaaGreatDoorUxc
import Derived.Test.YtglbamncajileaaGreatDoorUro
import Derived.Test.YtglbamncajileaaGreatDoorUrz
set_option linter.unusedVariables false
set_option linter.unusedSimpArgs false
set_option maxRecDepth 100000
set_option maxHeartbeats 8000000
namespace Go.Proofs.YtglbamncajileaaGreatDoor
open Go.AE Go.Lib
section
attribute [local irreducible] CallA LoopA DrawA CallQ arithK quoK remK eqK
attribute [local irreducible] srcOk okP okT rowB
theorem likeHold_ret (xss : List (List Int)) (hn : xss.length ≤ 1048576) : Rt 27 [Rh xss, Rh xss] (Bo true) := by
 refine bZ Tryz.func27 ?_
 repeat' (conv => whnf); first | (intro h; try exact nZ) | apply And.intro | refine dZ ?_ | refine sZ ?_ | fail
 all_goals try exact rZ
 refine loop_rule hT (fun i : Nat => i ≤ xss.length) 26 0 [0, 1, 5] (fun i => [Rh xss, Rh xss, I i]) (fun _ => []) (fun i => xss.length - i) (0) (Nat.le_of_ble_eq_true rfl) ?_ ?_ ?_
 · exact Nat.zero_le _
 · (exact endH1 [])
 · intro i h1
   repeat' (conv => whnf); first | (intro h; try exact nZ) | apply And.intro | refine dZ ?_ | refine sZ ?_ | fail
   all_goals try exact rZ
   all_goals ((conv => whnf); first | (refine ⟨i + 1, by omega, ?_, by omega⟩; (exact endH1 [])))
theorem likeTab_ret (f : Int) (ls : List Int) (hn : ls.length ≤ 1048576) : Rt 26 [Tb f ls, Tb f ls] (Bo true) := by
 refine bZ Tryz.func26 ?_
 have hl := likeInts_ret ls ls (by omega)
 rw [decide_eq_true rfl] at hl
 repeat' (conv => whnf); first | (intro h; try exact nZ) | apply And.intro | refine dZ ?_ | refine sZ ?_ | refine Ret.uA (hl) ?_ | refine Ret.uQ (hl) ?_ | fail
 all_goals first | exact rZ
abbrev SoX (x : (Int × List Int × Int) × List (List Int) × Int) (i j : Nat) : AV := .agg [I x.1.1, .sl i 1 x.1.2.1.length, I x.1.2.2, .sl j 7 x.2.1.length, I x.2.2]
theorem ends_is {v : AV} {H : List Blk} (f : Int) (ls : List Int) (r : Int) (hp : List (List Int)) (d : Int) (sel : List (Option Nat)) (h1 : vmV 0 sel v (.agg [I f, .sl 0 1 ls.length, I r, .sl 1 7 hp.length, I d])) (h2 : heapM 0 sel H [Di ls, Dh hp]) (h3 : ls.length ≤ 27 ∧ hp.length ≤ 40) :
   ∃ sel v' J, vmV 0 sel v v' ∧ heapM 0 sel H J ∧ (∃ (x : (Int × List Int × Int) × List (List Int) × Int) (a' s' : Int), v' = SoX x 0 1 ∧ J = [Di x.1.2.1, Dh x.2.1] ∧ (x.1.2.1.length ≤ 27 ∧ x.2.1.length ≤ 40) ∧ a' = 0 ∧ s' = 0) :=
 ⟨sel, _, _, h1, h2, ((f, ls, r), hp, d), 0, 0, rfl, rfl, h3, rfl, rfl⟩
theorem drawIS_call (code : List Int) (hn : code.length ≤ 2305843009213693952) (hb : bytesOk code) : Ca 24 [Rb code] [] (fun v J => ∃ (x : (Int × List Int × Int) × List (List Int) × Int) (a' s' : Int), v = SoX x 0 1 ∧ J = [Di x.1.2.1, Dh x.2.1] ∧ (x.1.2.1.length ≤ 27 ∧ x.2.1.length ≤ 40) ∧ a' = 0 ∧ s' = 0) := by
 refine cZ Tryz.func24 ?_
 repeat' (conv => whnf); first | (intro h; try exact nZ) | apply And.intro | refine sZ ?_ | (refine CallA.gE [] (l01From_call code hn hb) ?_; rintro x a2 s2 ⟨_, hs⟩; (try conv => whnf)) | (refine CallA.gE [1] (l17Draw_call code hn hb _ _ ‹srcOk code _ _›) ?_; rintro ⟨⟨f, ls, r⟩, hp⟩ a2 s2 ⟨⟨⟨hf, hl, hr⟩, hh, hw⟩, hs⟩; (try conv => whnf); dsimp only at hf hl hr hh hw) | (refine CallA.gR [1] (l21DrawFund_call code hn hb _ _ ‹srcOk code _ _›) ?_; rintro z a2 s2 ⟨hz, hs⟩; (try conv => whnf)) | fail
 all_goals try exact rZ
 all_goals ((conv => whnf); first | (apply ends_is f ls r hp z [some 2, some 3]; all_goals (repeat' first | exact rfl | exact trivial | (with_reducible assumption) | apply And.intro); all_goals (first | omega | assumption); done))
end
section
attribute [local irreducible] CallA LoopA DrawA CallQ arithK quoK remK eqK
attribute [local irreducible] stN ouN lnS enN
theorem lawSS_ret (code : List Int) (hn : code.length ≤ 9223372036854775807) (hb : bytesOk code) : Rt 6 [Rb code] (Bo true) := by
 refine bZ Tryz.func6 ?_
 have hbig := big_ret code
 by_cases hb0 : (4096 : Int) < code.length
 · rw [decide_eq_true hb0] at hbig
   repeat' (conv => whnf); first | (intro h; try exact nZ) | apply And.intro | refine sZ ?_ | refine Ret.uA (hbig) ?_ | fail
   all_goals first | exact rZ
 rw [decide_eq_false hb0] at hbig
 have hd := drawSA_call code (by omega) hb
 have hdx := drawIS_call code (by omega) hb
 have hnew := implNew_call
 have hF0 := implSoc_ret F0.f F0.ls F0.r F0.hs F0.d (by decide) (by decide)
 rw [decide_eq_true ⟨F0_ok.pf, F0_ok.fd⟩] at hF0
 repeat' (conv => whnf); first | (intro h; try exact nZ) | apply And.intro | refine sZ ?_ | refine Ret.uA (hbig) ?_ | (refine CallA.gE [] (hd) ?_; rintro x a s hx; (try conv => whnf)) | fail
 all_goals try exact rZ
 obtain ⟨x, rfl⟩ := B_ex x
 rw [B_size] at hx
 have hsz := B_size x
 have hF0h : (F0.hs.length : Int) = 0 := rfl
 have hF0f := F0_ok.fit
 by_cases hf : fitS x
 · have hi := implSA_ok nx x hf
   have hs := specSA_ok nx x hf
   have hok := enN_ok nx x hf
   obtain ⟨F, hF⟩ : ∃ F, F = enN nx x := ⟨_, rfl⟩
   rw [← hF] at hs hi hok
   have hfit := hok.fit
   have hhb := hok.hb
   have he1 := likeTab_ret F.f F.ls hok.nb
   have he2 := likeHold_ret F.hs (by omega)
   have hI := implSoc_ret F.f F.ls F.r F.hs F.d hok.nb (by omega)
   rw [decide_eq_true ⟨hok.pf, hok.fd⟩] at hI
   repeat' (conv => whnf); first | (intro h; try exact nZ) | apply And.intro | refine dZ ?_ | refine sZ ?_ | refine CallA.gM [] (hi) ?_ | refine gZ [] (hs) ?_ | (refine CallA.gE [] (hdx) ?_; rintro ⟨⟨f, ls, r⟩, hp, d⟩ a s ⟨hq, _⟩; (try conv => whnf); dsimp only at hq; have hxi := implSoc_ret f ls r hp d (by omega) (by omega); have hxs := specSoc_ret f ls r hp d (by omega) (by omega)) | refine CallA.gM [] (hnew) ?_ | refine Ret.uA (he1) ?_ | refine Ret.uQ (he1) ?_ | refine Ret.uA (he2) ?_ | refine Ret.uQ (he2) ?_ | refine Ret.uA (hxi) ?_ | refine Ret.uQ (hxi) ?_ | refine Ret.uA (hxs) ?_ | refine Ret.uQ (hxs) ?_ | refine Ret.uA (hF0) ?_ | refine Ret.uQ (hF0) ?_ | refine Ret.uA (hI) ?_ | refine Ret.uQ (hI) ?_ | fail
   all_goals first | exact rZ
 · have hi := implSA_bad x (by omega) hf
   have hs := specSA_bad x (by omega) hf
   have he1 := likeTab_ret 0 [] (by decide)
   have he2 := likeHold_ret [] (by decide)
   repeat' (conv => whnf); first | (intro h; try exact nZ) | apply And.intro | refine dZ ?_ | refine sZ ?_ | refine CallA.gM [] (hi) ?_ | refine CallA.gM [] (hs) ?_ | (refine CallA.gE [] (hdx) ?_; rintro ⟨⟨f, ls, r⟩, hp, d⟩ a s ⟨hq, _⟩; (try conv => whnf); dsimp only at hq; have hxi := implSoc_ret f ls r hp d (by omega) (by omega); have hxs := specSoc_ret f ls r hp d (by omega) (by omega)) | refine CallA.gM [] (hnew) ?_ | refine Ret.uA (he1) ?_ | refine Ret.uQ (he1) ?_ | refine Ret.uA (he2) ?_ | refine Ret.uQ (he2) ?_ | refine Ret.uA (hxi) ?_ | refine Ret.uQ (hxi) ?_ | refine Ret.uA (hxs) ?_ | refine Ret.uQ (hxs) ?_ | refine Ret.uA (hF0) ?_ | refine Ret.uQ (hF0) ?_ | fail
   all_goals first | exact rZ
end
end Go.Proofs.YtglbamncajileaaGreatDoor
