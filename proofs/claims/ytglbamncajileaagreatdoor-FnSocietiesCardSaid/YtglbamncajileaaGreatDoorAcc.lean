/-
  Numerals as the reference writes them: what the functions return. Contracts of the library, laid at this program by the kit's own tool. The library's functions on strings as contracts of the abstract evaluator: each is the kit's contract, brought in. Numbers joined: what the functions return. Which texts are texts of numbers: plain facts, no program in sight. No conditions but those in the statements.
-/
import Derived.Test.YtglbamncajileaaGreatDoorIn
import Derived.Test.YtglbamncajileaaGreatDoorAeC
import Derived.Lib.ItoaLen
import Derived.Shelf.Strings.Builder1
import Derived.Shelf.Strings.Builder2
import Derived.Shelf.Strings.OnBuilder
import Derived.Shelf.Small.Wraps
import Derived.Shelf.LaysM
import Derived.Shelf.Strconv.Itoa4
import Derived.Shelf.LaysC
import Derived.Shelf.Strconv.ParseIntPublic10
import Derived.Shelf.Strings.Prefix
import Derived.Shelf.Strings.Split
import Derived.Shelf.Strings.Replace
import Derived.Test.YtglbamncajileaaGreatDoorProg
import Derived.Lib.AppendIntMem
import Derived.Lib.SmallJoins
import Derived.Lib.SplitLaws
set_option linter.unusedVariables false
set_option linter.unusedSimpArgs false
set_option maxRecDepth 100000
set_option maxHeartbeats 1000000
namespace Go.Proofs.YtglbamncajileaaGreatDoor
open Go.AE Go.Lib
attribute [local irreducible] CallA LoopA DrawA CallQ arithK quoK remK eqK
abbrev B (l : List UInt8) : ByteArray := ⟨l.toArray⟩
abbrev Sv (l : List UInt8) : AV := .v (.string (B l))
abbrev Dstr (ws : List (List UInt8)) : Blk := .data (.strs (ws.map B))
abbrev Rstr (ws : List (List UInt8)) : AV := .ro (.strs (ws.map B))
theorem strs_getD (ws : List (List UInt8)) (i : Nat) : (ws.map B).getD i ByteArray.empty = B (ws.getD i []) := by
 rw [List.getD_eq_getElem?_getD, List.getElem?_map, List.getD_eq_getElem?_getD]
 cases ws[i]? <;> rfl
theorem B_app (a b : List UInt8) : B a ++ B b = B (a ++ b) := by
 apply ByteArray.ext
 simp
theorem B_size (l : List UInt8) : (B l).size = l.length := rfl
theorem B_inj {a b : List UInt8} : B a = B b ↔ a = b := by
 constructor
 · intro h
   have := congrArg (fun x : ByteArray => x.data.toList) h
   simpa using this
 · rintro rfl; rfl
theorem B_extract (l : List UInt8) (i j : Nat) : (B l).extract i j = B ((l.take j).drop i) := by
 apply ByteArray.ext
 simp [ByteArray.data_extract, List.drop_take]
theorem byteAt_B (l : List UInt8) (i : Nat) : byteAt (B l) i = ((l.getD i 0).toNat : Int) := rfl
theorem bytesOf_one (x : Int) : bytesOf [x] = B [UInt8.ofNat x.toNat] := rfl
theorem sv {a b : ByteArray} (h : a = b) : AV.v (.string a) = AV.v (.string b) := by rw [h]
theorem B_ex (s : ByteArray) : ∃ l, s = B l := ⟨s.data.toList, by apply ByteArray.ext; simp⟩
theorem dec_len {u : Nat} (h : u ≤ 9223372036854775807) : (decDigits u).length ≤ 20 := by rw [decDigits_length]; exact nDigits_le20 u (by omega)
theorem dec_big {u : Nat} (h : ¬ u < 10) : decDigits u = decDigits (u / 10) ++ [UInt8.ofNat (48 + u % 10)] := by rw [decDigits, dif_neg h]
theorem l01Dec_ret (u : Nat) : u ≤ 9223372036854775807 → Rt 62 [I (u : Int)] (Sv (decDigits u)) := by
 induction u using Nat.strongRecOn with
 | _ u ih =>
   intro hu
   refine bZ Tryz.func62 ?_
   by_cases h10 : u < 10
   · repeat' (conv => whnf); first | (intro h; try exact nZ) | apply And.intro | refine sZ ?_ | fail
     all_goals first | (show 1 = _; rfl) | omega | ((conv => whnf); refine sv ?_; show bytesOf [48 + (u : Int)] = _; rw [bytesOf_one, decDigits_one h10]; congr 3)
   · have hi : Rt 62 [I ((u : Int) / 10)] (Sv (decDigits (u / 10))) := by
       have := ih (u / 10) (by omega) (by omega)
       rwa [show ((u / 10 : Nat) : Int) = (u : Int) / 10 by omega] at this
     have hl := dec_len (u := u / 10) (by omega)
     have hl1 := B_size (decDigits (u / 10))
     have hl2 : (bytesOf [48 + (u : Int) % 10]).size = 1 := rfl
     repeat' (conv => whnf); first | (intro h; try exact nZ) | apply And.intro | refine sZ ?_ | (refine Ret.go (hi) rfl rfl ?_) | fail
     all_goals first | (show 1 = _; rfl) | omega | (show (B (decDigits (u / 10))).size + (bytesOf [48 + (u : Int) % 10]).size ≤ _; omega) | ((conv => whnf); refine sv ?_; show B (decDigits (u / 10)) ++ bytesOf [48 + (u : Int) % 10] = _; rw [bytesOf_one, B_app, dec_big h10, show (48 + (u : Int) % 10).toNat = 48 + u % 10 by omega])
abbrev okI (n : Int) : Prop := -9223372036854775807 ≤ n ∧ n ≤ 9223372036854775807
theorem itoa_len {n : Int} (h : okI n) : (itoa n).length ≤ 21 := itoa_length_le n (by omega) (by omega)
theorem l01Number_ret (n : Int) (h : okI n) : Rt 63 [I n] (Sv (itoa n)) := by
 refine bZ Tryz.func63 ?_
 by_cases hn : n < 0
 · have hi : Rt 62 [I (0 - n)] (Sv (decDigits n.natAbs)) := by
     have := l01Dec_ret n.natAbs (by omega)
     rwa [show ((n.natAbs : Nat) : Int) = 0 - n by omega] at this
   have hl := dec_len (u := n.natAbs) (by omega)
   have hl1 := B_size (decDigits n.natAbs)
   repeat' (conv => whnf); first | (intro h; try exact nZ) | apply And.intro | refine sZ ?_ | (refine Ret.go (hi) rfl rfl ?_) | fail
   all_goals first | omega | (show 1 + (B (decDigits n.natAbs)).size ≤ _; omega) | ((conv => whnf); refine sv ?_; show B [45] ++ B (decDigits n.natAbs) = _; rw [B_app, itoa_minus hn]; rfl)
 · have hi : Rt 62 [I n] (Sv (decDigits n.toNat)) := by
     have := l01Dec_ret n.toNat (by omega)
     rwa [show ((n.toNat : Nat) : Int) = n by omega] at this
   repeat' (conv => whnf); first | (intro h; try exact nZ) | apply And.intro | refine sZ ?_ | (refine Ret.go (hi) rfl rfl ?_) | fail
   all_goals first | omega | ((conv => whnf); refine sv ?_; rw [itoa_nat (by omega)])
def jn (xs : List Int) (by_ : List UInt8) (i : Nat) : List UInt8 := join ((xs.take i).map itoa) by_
theorem join_snoc (ws : List (List UInt8)) (w sep : List UInt8) (h : ws ≠ []) : join (ws ++ [w]) sep = join ws sep ++ sep ++ w := by
 cases ws with
 | nil => exact absurd rfl h
 | cons x r =>
   rw [List.cons_append, join_cons, join_cons]
   simp [joinTail]
theorem jn_one {xs : List Int} {s : List UInt8} (h : 0 < xs.length) : jn xs s 1 = itoa (xs.getD 0 0) := by
 unfold jn
 rw [show (1 : Nat) = 0 + 1 from rfl, take_snoc 0 h, List.take_zero, List.nil_append, List.map_cons, List.map_nil, join_one]
theorem jn_next {xs : List Int} {s : List UInt8} {i : Nat} (h0 : 0 < i) (h : i < xs.length) : jn xs s (i + 1) = jn xs s i ++ s ++ itoa (xs.getD i 0) := by
 unfold jn
 rw [take_snoc 0 h, List.map_append, List.map_cons, List.map_nil, join_snoc]
 intro e
 have : ((xs.take i).map itoa).length = 0 := by rw [e]; rfl
 rw [List.length_map, List.length_take] at this
 omega
theorem jn_len {xs : List Int} {s : List UInt8} (hx : ∀ x ∈ xs, okI x) (hs : s.length ≤ 8) : ∀ i, i ≤ xs.length → (jn xs s i).length ≤ 29 * i
 | 0, _ => by simp [jn, join_nil]
 | 1, h => by
   rw [jn_one (by omega)]
   have := itoa_len (hx _ (getD_mem (d := (0 : Int)) (show 0 < xs.length by omega)))
   omega
 | i + 2, h => by
   rw [jn_next (by omega) (by omega), List.length_append, List.length_append]
   have := jn_len hx hs (i + 1) (by omega)
   have := itoa_len (hx _ (getD_mem (d := (0 : Int)) (show i + 1 < xs.length by omega)))
   omega
theorem jn_zero (xs : List Int) (s : List UInt8) : jn xs s 0 = [] := by simp [jn, join_nil]
theorem jn_all (xs : List Int) (s : List UInt8) : jn xs s xs.length = join (xs.map itoa) s := by unfold jn; rw [take_all (Nat.le_refl _)]
attribute [local irreducible] jn
theorem l01Join_ret (xs : List Int) (s : List UInt8) (hn : xs.length ≤ 1048576) (hx : ∀ x ∈ xs, okI x) (hs : s.length ≤ 8) : Rt 112 [Ri xs, Sv s] (Sv (join (xs.map itoa) s)) := by
 refine bZ Tryz.func112 ?_
 repeat' (conv => whnf); first | (intro h; try exact nZ) | apply And.intro | refine sZ ?_ | fail
 all_goals try exact rZ
 refine loop_rule hT (fun i : Nat => i ≤ xs.length) 26 0 [0, 1, 5, 6] (fun i => [Ri xs, Sv s, Sv (jn xs s i), I i]) (fun _ => []) (fun i => xs.length - i) (0) (Nat.le_of_ble_eq_true rfl) ?_ ?_ ?_
 · exact Nat.zero_le _
 · first | (refine ⟨rfl, [], ?_, ?_⟩; (repeat' first | apply And.intro | exact xZ | (rw [jn_zero]; rfl) | fail); done)
 · intro i h1
   by_cases hi : i < xs.length
   · have hxi := hx _ (getD_mem (d := (0 : Int)) hi)
     have hnum := l01Number_ret (xs.getD ((i : Int)).toNat 0) hxi
     have hl := jn_len hx hs i h1
     have hl1 := B_size (jn xs s i)
     have hl2 := itoa_len hxi
     have hl3 := B_size s
     have hl4 : (B (itoa (xs.getD ((i : Int)).toNat 0))).size ≤ 21 := hl2
     by_cases h0 : 0 < i
     · have hj := jn_next (s := s) h0 hi
       have hl5 : (B (jn xs s i) ++ B s).size = (jn xs s i).length + s.length := by rw [B_app, B_size, List.length_append]
       repeat' (conv => whnf); first | (intro h; try exact nZ) | apply And.intro | refine sZ ?_ | (refine Ret.go (hnum) rfl rfl ?_) | fail
       all_goals first | exact rZ | (show _ < xs.length; omega) | skip
       all_goals ((conv => whnf); first | (refine ⟨i + 1, by omega, ?_, by omega⟩; (refine ⟨rfl, [], ?_, ?_⟩; (repeat' first | apply And.intro | exact xZ | (rw [hj, B_app, B_app]) | fail); done)))
     · obtain rfl : i = 0 := by omega
       have hj := jn_one (s := s) hi
       repeat' (conv => whnf); first | (intro h; try exact nZ) | apply And.intro | refine sZ ?_ | (refine Ret.go (hnum) rfl rfl ?_) | fail
       all_goals first | exact rZ | (show _ < xs.length; omega) | skip
       all_goals ((conv => whnf); first | (refine ⟨0 + 1, by omega, ?_, by omega⟩; (refine ⟨rfl, [], ?_, ?_⟩; (repeat' first | apply And.intro | exact xZ | (rw [show 0 + 1 = 1 from rfl, hj, jn_zero, B_app]; rfl) | fail); done)))
   · obtain rfl : i = xs.length := by omega
     repeat' (conv => whnf); first | (intro h; try exact nZ) | apply And.intro | refine sZ ?_ | fail
     all_goals first | exact rZ | ((conv => whnf); refine sv ?_; rw [jn_all])
end Go.Proofs.YtglbamncajileaaGreatDoor
namespace Go.Proofs
open Go.Shelf
def Tryz.lays156_ren : Go.Shelf.Ren := ⟨fun | 156 => 193 | 165 => 259 | 166 => 260 | 169 => 261 | 240 => 306 | 241 => 307 | 276 => 320 | 277 => 321 | n => n, fun | 31 => 22 | 9 => 9 | 3 => 3 | 4 => 4 | 0 => 0 | 20 => 20 | 72 => 250 | 76 => 252 | 70 => 248 | 37 => 28 | 75 => 116 | 127 => 290 | 164 => 303 | 5 => 5 | 80 => 167 | n => n, fun | n => n⟩
theorem Tryz.lays156 : Go.Proofs.Lays.n156 Tryz.prog Tryz.lays156_ren := {
 mixed := by kernel_rfl
 f156 := Tryz.func193.trans (congrArg some (by kernel_rfl))
 f165 := Tryz.func259.trans (congrArg some (by kernel_rfl))
 f166 := Tryz.func260.trans (congrArg some (by kernel_rfl))
 f169 := Tryz.func261.trans (congrArg some (by kernel_rfl))
 f240 := Tryz.func306.trans (congrArg some (by kernel_rfl))
 f241 := Tryz.func307.trans (congrArg some (by kernel_rfl))
 f276 := Tryz.func320.trans (congrArg some (by kernel_rfl))
 f277 := Tryz.func321.trans (congrArg some (by kernel_rfl))
 t0 := Tryz.underlying0
 a0 := Tryz.isAgg0
 z0 := Tryz.sizeOf0
 v0 := Tryz.zeroValue0
 t3 := Tryz.underlying3
 a3 := Tryz.isAgg3
 z3 := Tryz.sizeOf3
 v3 := Tryz.zeroValue3
 t4 := Tryz.underlying4
 a4 := Tryz.isAgg4
 z4 := Tryz.sizeOf4
 v4 := Tryz.zeroValue4
 t9 := Tryz.underlying9
 a9 := Tryz.isAgg9
 z9 := Tryz.sizeOf9
 v9 := Tryz.zeroValue9
 t20 := Tryz.underlying20
 a20 := Tryz.isAgg20
 z20 := Tryz.sizeOf20
 v20 := Tryz.zeroValue20
 t31 := Tryz.underlying22
 a31 := Tryz.isAgg22
 z31 := Tryz.sizeOf22
 v31 := Tryz.zeroValue22
 t37 := Tryz.underlying28
 a37 := Tryz.isAgg28
 z37 := Tryz.sizeOf28
 v37 := Tryz.zeroValue28
 t70 := Tryz.underlying248
 a70 := Tryz.isAgg248
 z70 := Tryz.sizeOf248
 v70 := Tryz.zeroValue248
 t72 := Tryz.underlying250
 a72 := Tryz.isAgg250
 z72 := Tryz.sizeOf250
 v72 := Tryz.zeroValue250
 t75 := Tryz.underlying116
 a75 := Tryz.isAgg116
 z75 := Tryz.sizeOf116
 v75 := Tryz.zeroValue116
 t76 := Tryz.underlying252
 a76 := Tryz.isAgg252
 z76 := Tryz.sizeOf252
 v76 := Tryz.zeroValue252
 t127 := Tryz.underlying290
 a127 := Tryz.isAgg290
 z127 := Tryz.sizeOf290
 v127 := Tryz.zeroValue290
 t164 := Tryz.underlying303
 a164 := Tryz.isAgg303
 z164 := Tryz.sizeOf303
 v164 := Tryz.zeroValue303 }
theorem Tryz.Builder_Extra_156 : Builder.Extra Tryz.prog Tryz.lays156_ren := {
 sizeBuilder := by kernel_rfl
 liesBuilder := by kernel_rfl
 t5 := Tryz.underlying5
 a5 := Tryz.isAgg5
 z5 := Tryz.sizeOf5
 v5 := Tryz.zeroValue5
 infoByte := by kernel_rfl
 cellsByte := by kernel_rfl
 sizeByte := by kernel_rfl
 neB5 := by decide }
open Go.RowKit in
theorem Tryz.strings_Join_none (a : Option Addr) (c : Nat) (sep : ByteArray) (w : World) :
   Calls Tryz.prog 193 #[.slice a 0 c, .string sep] w fun e w' => e = .returned (.string ⟨#[]⟩) ∧ w' = w := Any.strings_Join_none Tryz.lays156 Tryz.Builder_Extra_156 a c sep w
open Go.RowKit in
theorem Tryz.strings_Join (bk o c : Nat) (xs : List ByteArray) (sep : ByteArray) (w : World) (hcells : ∀ (j : Nat) x, xs[j]? = some x → w.cell? ⟨bk, o + j, none⟩ = some (.string x)) (hbk : bk < w.heap.size) (hN : xs.length ≤ 140737488355328) (hcap : xs.length ≤ c) (hlen : (Lib.join (xs.map (·.data.toList)) sep.data.toList).length ≤ 140737488355328) :
   Calls Tryz.prog 193 #[.slice (some ⟨bk, o, none⟩) xs.length c, .string sep] w fun e w' => e = .returned (.string ⟨(Lib.join (xs.map (·.data.toList)) sep.data.toList).toArray⟩) ∧ Below w.heap.size w w' := Any.strings_Join Tryz.lays156 Tryz.Builder_Extra_156 bk o c xs sep w hcells hbk hN hcap hlen
def Tryz.lays104_ren : Go.Shelf.Ren := ⟨fun | 104 => 65 | 211 => 91 | 207 => 153 | n => n, fun | 9 => 9 | 4 => 4 | 24 => 87 | 3 => 3 | n => n, fun | n => n⟩
theorem Tryz.lays104 : Go.Proofs.Lays.n104 Tryz.prog Tryz.lays104_ren := {
 mixed := by kernel_rfl
 f104 := Tryz.func65.trans (congrArg some (by kernel_rfl))
 f207 := Tryz.func153.trans (congrArg some (by kernel_rfl))
 f211 := Tryz.func91.trans (congrArg some (by kernel_rfl))
 t3 := Tryz.underlying3
 a3 := Tryz.isAgg3
 z3 := Tryz.sizeOf3
 v3 := Tryz.zeroValue3
 t4 := Tryz.underlying4
 a4 := Tryz.isAgg4
 z4 := Tryz.sizeOf4
 v4 := Tryz.zeroValue4
 t9 := Tryz.underlying9
 a9 := Tryz.isAgg9
 z9 := Tryz.sizeOf9
 v9 := Tryz.zeroValue9
 t24 := Tryz.underlying87
 a24 := Tryz.isAgg87
 z24 := Tryz.sizeOf87
 v24 := Tryz.zeroValue87 }
open Go.RowKit in
theorem Tryz.strings_CutSuffix (s p : ByteArray) (w : World) (hs : s.size ≤ 9223372036854775807) :
   Calls Tryz.prog 65 #[.string s, .string p] w fun e w' => e = .returned (.tuple #[.string ⟨(Lib.trimSuffix s.data.toList p.data.toList).toArray⟩, .bool (Lib.hasSuffix s.data.toList p.data.toList)]) ∧ w' = w := Any.strings_CutSuffix Tryz.lays104 s p w hs
def Tryz.laysM173_ren : Go.Shelf.Ren := ⟨fun | 173 => 131 | 246 => 191 | 283 => 254 | 284 => 255 | 285 => 256 | 286 => 257 | 129 => 302 | 317 => 301 | 318 => 303 | 319 => 304 | 320 => 305 | 337 => 318 | 338 => 319 | n => n, fun | 2 => 2 | 3 => 3 | 9 => 9 | 4 => 4 | 171 => 243 | 0 => 0 | 53 => 217 | 37 => 28 | 5 => 5 | 173 => 246 | 212 => 286 | 51 => 282 | 20 => 20 | 213 => 287 | 46 => 220 | 232 => 307 | 233 => 308 | n => n, fun | 17 => 5 | 18 => 8 | 19 => 9 | n => n⟩
theorem Tryz.laysM173 : Go.Proofs.LaysM.n173 Tryz.prog Tryz.laysM173_ren := {
 mixed := by kernel_rfl
 f129 := Tryz.func302.trans (congrArg some (by kernel_rfl))
 f173 := Tryz.func131.trans (congrArg some (by kernel_rfl))
 f246 := Tryz.func191.trans (congrArg some (by kernel_rfl))
 f283 := Tryz.func254.trans (congrArg some (by kernel_rfl))
 f284 := Tryz.func255.trans (congrArg some (by kernel_rfl))
 f285 := Tryz.func256.trans (congrArg some (by kernel_rfl))
 f286 := Tryz.func257.trans (congrArg some (by kernel_rfl))
 f317 := Tryz.func301.trans (congrArg some (by kernel_rfl))
 f318 := Tryz.func303.trans (congrArg some (by kernel_rfl))
 f319 := Tryz.func304.trans (congrArg some (by kernel_rfl))
 f320 := Tryz.func305.trans (congrArg some (by kernel_rfl))
 f337 := Tryz.func318.trans (congrArg some (by kernel_rfl))
 f338 := Tryz.func319.trans (congrArg some (by kernel_rfl))
 t0 := Tryz.underlying0
 a0 := Tryz.isAgg0
 z0 := Tryz.sizeOf0
 v0 := Tryz.zeroValue0
 t2 := Tryz.underlying2
 a2 := Tryz.isAgg2
 z2 := Tryz.sizeOf2
 v2 := Tryz.zeroValue2
 t3 := Tryz.underlying3
 a3 := Tryz.isAgg3
 z3 := Tryz.sizeOf3
 v3 := Tryz.zeroValue3
 t4 := Tryz.underlying4
 a4 := Tryz.isAgg4
 z4 := Tryz.sizeOf4
 v4 := Tryz.zeroValue4
 t5 := Tryz.underlying5
 a5 := Tryz.isAgg5
 z5 := Tryz.sizeOf5
 v5 := Tryz.zeroValue5
 t9 := Tryz.underlying9
 a9 := Tryz.isAgg9
 z9 := Tryz.sizeOf9
 v9 := Tryz.zeroValue9
 t20 := Tryz.underlying20
 a20 := Tryz.isAgg20
 z20 := Tryz.sizeOf20
 v20 := Tryz.zeroValue20
 t37 := Tryz.underlying28
 a37 := Tryz.isAgg28
 z37 := Tryz.sizeOf28
 v37 := Tryz.zeroValue28
 t46 := Tryz.underlying220
 a46 := Tryz.isAgg220
 z46 := Tryz.sizeOf220
 v46 := Tryz.zeroValue220
 t51 := Tryz.underlying282
 a51 := Tryz.isAgg282
 z51 := Tryz.sizeOf282
 v51 := Tryz.zeroValue282
 t53 := Tryz.underlying217
 a53 := Tryz.isAgg217
 z53 := Tryz.sizeOf217
 v53 := Tryz.zeroValue217
 t171 := Tryz.underlying243
 a171 := Tryz.isAgg243
 z171 := Tryz.sizeOf243
 v171 := Tryz.zeroValue243
 t173 := Tryz.underlying246
 a173 := Tryz.isAgg246
 z173 := Tryz.sizeOf246
 v173 := Tryz.zeroValue246
 t212 := Tryz.underlying286
 a212 := Tryz.isAgg286
 z212 := Tryz.sizeOf286
 v212 := Tryz.zeroValue286
 t213 := Tryz.underlying287
 a213 := Tryz.isAgg287
 z213 := Tryz.sizeOf287
 t232 := Tryz.underlying307
 a232 := Tryz.isAgg307
 z232 := Tryz.sizeOf307
 v232 := Tryz.zeroValue307
 t233 := Tryz.underlying308
 a233 := Tryz.isAgg308
 z233 := Tryz.sizeOf308
 v233 := Tryz.zeroValue308
 g17 := by kernel_rfl
 g18 := by kernel_rfl
 g19 := by kernel_rfl
 i0 := by kernel_rfl
 i2 := by kernel_rfl
 i3 := by kernel_rfl
 i4 := by kernel_rfl
 i5 := by kernel_rfl
 i9 := by kernel_rfl
 i20 := by kernel_rfl
 i37 := by kernel_rfl
 i46 := by kernel_rfl
 i51 := by kernel_rfl
 i53 := by kernel_rfl
 i171 := by kernel_rfl
 i173 := by kernel_rfl
 i212 := by kernel_rfl
 i232 := by kernel_rfl
 i233 := by kernel_rfl
 m17 := by kernel_rfl
 m18 := by kernel_rfl
 m19 := by kernel_rfl }
open Go.RowKit Go.Sort Go.Lib in
theorem Tryz.strconv_FormatInt_10 (n : Int) (h0 : -9223372036854775808 ≤ n) (h1 : n ≤ 9223372036854775807) (w : World) (htab : Lib.TabIs Tryz.prog w "internal/strconv.uint64pow10" .u64 Lib.pow10Tab) :
   Calls Tryz.prog 131 #[.int .i64 n, .int .i64 10] w fun e w' => e = .returned (.string ⟨(Lib.itoa n).toArray⟩) ∧ ∃ k os, w' = grow (w.drewN k) os := Any.strconv_FormatInt_10 Tryz.laysM173 n h0 h1 w htab
def Tryz.laysC174_ren : Go.Shelf.Ren := ⟨fun | 174 => 92 | 247 => 154 | 245 => 155 | 287 => 219 | 279 => 220 | 280 => 221 | 281 => 222 | 282 => 223 | 321 => 284 | 322 => 285 | 316 => 286 | 171 => 288 | 205 => 287 | 243 => 317 | 246 => 191 | 283 => 254 | 284 => 255 | 285 => 256 | 286 => 257 | 129 => 302 | 317 => 301 | 318 => 303 | 319 => 304 | 320 => 305 | 337 => 318 | 338 => 319 | n => n, fun | 9 => 9 | 3 => 3 | 2 => 2 | 75 => 116 | 85 => 117 | 4 => 4 | 167 => 216 | 5 => 5 | 53 => 217 | 175 => 218 | 46 => 220 | 168 => 221 | 37 => 28 | 0 => 0 | 210 => 273 | 21 => 21 | 127 => 290 | 145 => 301 | 143 => 299 | 171 => 243 | 173 => 246 | 212 => 286 | 51 => 282 | 20 => 20 | 213 => 287 | 232 => 307 | 233 => 308 | 80 => 167 | n => n, fun | 15 => 1 | 16 => 2 | 17 => 5 | 18 => 8 | 19 => 9 | n => n⟩
theorem Tryz.laysC174 : Go.Proofs.LaysC.n174 Tryz.prog Tryz.laysC174_ren := {
 mixed := by kernel_rfl
 f129 := Tryz.func302.trans (congrArg some (by kernel_rfl))
 f171 := Tryz.func288.trans (congrArg some (by kernel_rfl))
 f174 := Tryz.func92.trans (congrArg some (by kernel_rfl))
 f205 := Tryz.func287.trans (congrArg some (by kernel_rfl))
 f243 := Tryz.func317.trans (congrArg some (by kernel_rfl))
 f245 := Tryz.func155.trans (congrArg some (by kernel_rfl))
 f246 := Tryz.func191.trans (congrArg some (by kernel_rfl))
 f247 := Tryz.func154.trans (congrArg some (by kernel_rfl))
 f279 := Tryz.func220.trans (congrArg some (by kernel_rfl))
 f280 := Tryz.func221.trans (congrArg some (by kernel_rfl))
 f281 := Tryz.func222.trans (congrArg some (by kernel_rfl))
 f282 := Tryz.func223.trans (congrArg some (by kernel_rfl))
 f283 := Tryz.func254.trans (congrArg some (by kernel_rfl))
 f284 := Tryz.func255.trans (congrArg some (by kernel_rfl))
 f285 := Tryz.func256.trans (congrArg some (by kernel_rfl))
 f286 := Tryz.func257.trans (congrArg some (by kernel_rfl))
 f287 := Tryz.func219.trans (congrArg some (by kernel_rfl))
 f316 := Tryz.func286.trans (congrArg some (by kernel_rfl))
 f317 := Tryz.func301.trans (congrArg some (by kernel_rfl))
 f318 := Tryz.func303.trans (congrArg some (by kernel_rfl))
 f319 := Tryz.func304.trans (congrArg some (by kernel_rfl))
 f320 := Tryz.func305.trans (congrArg some (by kernel_rfl))
 f321 := Tryz.func284.trans (congrArg some (by kernel_rfl))
 f322 := Tryz.func285.trans (congrArg some (by kernel_rfl))
 f337 := Tryz.func318.trans (congrArg some (by kernel_rfl))
 f338 := Tryz.func319.trans (congrArg some (by kernel_rfl))
 t0 := Tryz.underlying0
 a0 := Tryz.isAgg0
 z0 := Tryz.sizeOf0
 v0 := Tryz.zeroValue0
 t2 := Tryz.underlying2
 a2 := Tryz.isAgg2
 z2 := Tryz.sizeOf2
 v2 := Tryz.zeroValue2
 t3 := Tryz.underlying3
 a3 := Tryz.isAgg3
 z3 := Tryz.sizeOf3
 v3 := Tryz.zeroValue3
 t4 := Tryz.underlying4
 a4 := Tryz.isAgg4
 z4 := Tryz.sizeOf4
 v4 := Tryz.zeroValue4
 t5 := Tryz.underlying5
 a5 := Tryz.isAgg5
 z5 := Tryz.sizeOf5
 v5 := Tryz.zeroValue5
 t9 := Tryz.underlying9
 a9 := Tryz.isAgg9
 z9 := Tryz.sizeOf9
 v9 := Tryz.zeroValue9
 t20 := Tryz.underlying20
 a20 := Tryz.isAgg20
 z20 := Tryz.sizeOf20
 v20 := Tryz.zeroValue20
 t21 := Tryz.underlying21
 a21 := Tryz.isAgg21
 z21 := Tryz.sizeOf21
 v21 := Tryz.zeroValue21
 t37 := Tryz.underlying28
 a37 := Tryz.isAgg28
 z37 := Tryz.sizeOf28
 v37 := Tryz.zeroValue28
 t46 := Tryz.underlying220
 a46 := Tryz.isAgg220
 z46 := Tryz.sizeOf220
 v46 := Tryz.zeroValue220
 t51 := Tryz.underlying282
 a51 := Tryz.isAgg282
 z51 := Tryz.sizeOf282
 v51 := Tryz.zeroValue282
 t53 := Tryz.underlying217
 a53 := Tryz.isAgg217
 z53 := Tryz.sizeOf217
 v53 := Tryz.zeroValue217
 t75 := Tryz.underlying116
 a75 := Tryz.isAgg116
 z75 := Tryz.sizeOf116
 v75 := Tryz.zeroValue116
 t85 := Tryz.underlying117
 a85 := Tryz.isAgg117
 z85 := Tryz.sizeOf117
 v85 := Tryz.zeroValue117
 t127 := Tryz.underlying290
 a127 := Tryz.isAgg290
 z127 := Tryz.sizeOf290
 v127 := Tryz.zeroValue290
 t143 := Tryz.underlying299
 a143 := Tryz.isAgg299
 z143 := Tryz.sizeOf299
 v143 := Tryz.zeroValue299
 t145 := Tryz.underlying301
 a145 := Tryz.isAgg301
 z145 := Tryz.sizeOf301
 v145 := Tryz.zeroValue301
 t167 := Tryz.underlying216
 a167 := Tryz.isAgg216
 z167 := Tryz.sizeOf216
 v167 := Tryz.zeroValue216
 t168 := Tryz.underlying221
 a168 := Tryz.isAgg221
 z168 := Tryz.sizeOf221
 v168 := Tryz.zeroValue221
 t171 := Tryz.underlying243
 a171 := Tryz.isAgg243
 z171 := Tryz.sizeOf243
 v171 := Tryz.zeroValue243
 t173 := Tryz.underlying246
 a173 := Tryz.isAgg246
 z173 := Tryz.sizeOf246
 v173 := Tryz.zeroValue246
 t175 := Tryz.underlying218
 a175 := Tryz.isAgg218
 z175 := Tryz.sizeOf218
 v175 := Tryz.zeroValue218
 t210 := Tryz.underlying273
 a210 := Tryz.isAgg273
 z210 := Tryz.sizeOf273
 v210 := Tryz.zeroValue273
 t212 := Tryz.underlying286
 a212 := Tryz.isAgg286
 z212 := Tryz.sizeOf286
 v212 := Tryz.zeroValue286
 t213 := Tryz.underlying287
 a213 := Tryz.isAgg287
 z213 := Tryz.sizeOf287
 t232 := Tryz.underlying307
 a232 := Tryz.isAgg307
 z232 := Tryz.sizeOf307
 v232 := Tryz.zeroValue307
 t233 := Tryz.underlying308
 a233 := Tryz.isAgg308
 z233 := Tryz.sizeOf308
 v233 := Tryz.zeroValue308
 g15 := by kernel_rfl
 g16 := by kernel_rfl
 g17 := by kernel_rfl
 g18 := by kernel_rfl
 g19 := by kernel_rfl
 t80 := Tryz.underlying167
 a80 := Tryz.isAgg167
 z80 := Tryz.sizeOf167
 v80 := Tryz.zeroValue167
 i0 := by kernel_rfl
 i2 := by kernel_rfl
 i3 := by kernel_rfl
 i4 := by kernel_rfl
 i5 := by kernel_rfl
 i9 := by kernel_rfl
 i20 := by kernel_rfl
 i21 := by kernel_rfl
 i37 := by kernel_rfl
 i46 := by kernel_rfl
 i51 := by kernel_rfl
 i53 := by kernel_rfl
 i75 := by kernel_rfl
 i80 := by kernel_rfl
 i85 := by kernel_rfl
 i127 := by kernel_rfl
 i143 := by kernel_rfl
 i145 := by kernel_rfl
 i167 := by kernel_rfl
 i168 := by kernel_rfl
 i171 := by kernel_rfl
 i173 := by kernel_rfl
 i175 := by kernel_rfl
 i210 := by kernel_rfl
 i212 := by kernel_rfl
 i232 := by kernel_rfl
 i233 := by kernel_rfl
 m15 := by kernel_rfl
 m16 := by kernel_rfl
 m17 := by kernel_rfl
 m18 := by kernel_rfl
 m19 := by kernel_rfl
 c0 := by kernel_rfl
 c2 := by kernel_rfl
 c3 := by kernel_rfl
 c4 := by kernel_rfl
 c5 := by kernel_rfl
 c9 := by kernel_rfl
 c20 := by kernel_rfl
 c21 := by kernel_rfl
 c37 := by kernel_rfl
 c46 := by kernel_rfl
 c51 := by kernel_rfl
 c53 := by kernel_rfl
 c75 := by kernel_rfl
 c80 := by kernel_rfl
 c85 := by kernel_rfl
 c127 := by kernel_rfl
 c143 := by kernel_rfl
 c145 := by kernel_rfl
 c167 := by kernel_rfl
 c168 := by kernel_rfl
 c171 := by kernel_rfl
 c173 := by kernel_rfl
 c175 := by kernel_rfl
 c210 := by kernel_rfl
 c212 := by kernel_rfl
 c213 := by kernel_rfl
 c232 := by kernel_rfl
 c233 := by kernel_rfl }
open Go.RowKit in
theorem Tryz.strconv_ParseInt_10_at64_ok (s : ByteArray) (hmax : s.size ≤ 9223372036854775806) (v : Int) (h : Lib.parseIntB 64 s.data.toList = .ok v) (w : World) :
   Calls Tryz.prog 92 #[.string s, .int .i64 10, .int .i64 64] w fun e w' => e = .returned (.tuple #[.int .i64 v, .nilIface]) ∧ (w' = w ∨ ∃ t, w' = Lib.bytesWorld w 5 t) := Any.strconv_ParseInt_10_at64_ok Tryz.laysC174 s hmax v h w
open Go.RowKit in
theorem Tryz.strconv_ParseInt_10_at64_syntax (s : ByteArray) (hlim : s.size ≤ 281474976710656) (h : Lib.parseIntB 64 s.data.toList = Lib.parseIntB 64 []) (ev : Value) (w : World) (hv : w.cell? ⟨1, 0, none⟩ = some ev) (hev : ev = .nilIface ∨ ∃ te pe, ev = .iface te pe) :
   Calls Tryz.prog 92 #[.string s, .int .i64 10, .int .i64 64] w fun e w' => ∃ N, e = .returned (.tuple #[.int .i64 (0), .iface 221 (.pointer (some ⟨N, 0, none⟩))]) ∧ w.heap.size ≤ N ∧ w'.heap[N]? = some (.cells #[.string ⟨#[80, 97, 114, 115, 101, 73, 110, 116]⟩, .string s, ev] 273 (0, 0)) ∧ Below w.heap.size w w' := Any.strconv_ParseInt_10_at64_syntax Tryz.laysC174 s hlim h ev w hv hev
open Go.RowKit in
theorem Tryz.strconv_ParseInt_10_at64_range (s : ByteArray) (hlim : s.size ≤ 281474976710656) (h : Lib.parseIntB 64 s.data.toList = .range) (ev : Value) (w : World) (hv : w.cell? ⟨2, 0, none⟩ = some ev) (hev : ev = .nilIface ∨ ∃ te pe, ev = .iface te pe) :
   Calls Tryz.prog 92 #[.string s, .int .i64 10, .int .i64 64] w fun e w' => ∃ N, e = .returned (.tuple #[.int .i64 (Lib.intSat 64 s.data.toList), .iface 221 (.pointer (some ⟨N, 0, none⟩))]) ∧ w.heap.size ≤ N ∧ w'.heap[N]? = some (.cells #[.string ⟨#[80, 97, 114, 115, 101, 73, 110, 116]⟩, .string s, ev] 273 (0, 0)) ∧ Below w.heap.size w w' := Any.strconv_ParseInt_10_at64_range Tryz.laysC174 s hlim h ev w hv hev
def Tryz.lays101_ren : Go.Shelf.Ren := ⟨fun | 101 => 93 | 208 => 156 | 206 => 224 | n => n, fun | 9 => 9 | 4 => 4 | 3 => 3 | n => n, fun | n => n⟩
theorem Tryz.lays101 : Go.Proofs.Lays.n101 Tryz.prog Tryz.lays101_ren := {
 mixed := by kernel_rfl
 f101 := Tryz.func93.trans (congrArg some (by kernel_rfl))
 f206 := Tryz.func224.trans (congrArg some (by kernel_rfl))
 f208 := Tryz.func156.trans (congrArg some (by kernel_rfl))
 t3 := Tryz.underlying3
 a3 := Tryz.isAgg3
 z3 := Tryz.sizeOf3
 v3 := Tryz.zeroValue3
 t4 := Tryz.underlying4
 a4 := Tryz.isAgg4
 z4 := Tryz.sizeOf4
 v4 := Tryz.zeroValue4
 t9 := Tryz.underlying9
 a9 := Tryz.isAgg9
 z9 := Tryz.sizeOf9
 v9 := Tryz.zeroValue9 }
open Go.RowKit Go.Lib in
theorem Tryz.strings_TrimPrefix (s p : ByteArray) (w : World) :
   Calls Tryz.prog 93 #[.string s, .string p] w fun e w' => e = .returned (.string ⟨(Lib.trimPrefix s.data.toList p.data.toList).toArray⟩) ∧ w' = w := Any.strings_TrimPrefix Tryz.lays101 s p w
def Tryz.lays146_ren : Go.Shelf.Ren := ⟨fun | 146 => 58 | 221 => 86 | 268 => 128 | 138 => 129 | 143 => 130 | 195 => 187 | 197 => 188 | 218 => 189 | 219 => 190 | 260 => 249 | 217 => 250 | 225 => 251 | 224 => 252 | 267 => 253 | 266 => 299 | 314 => 300 | n => n, fun | 9 => 9 | 31 => 22 | 3 => 3 | 4 => 4 | 0 => 0 | 105 => 197 | 21 => 21 | 5 => 5 | 46 => 220 | 119 => 278 | 139 => 281 | 138 => 280 | 146 => 283 | 51 => 282 | n => n, fun | 1 => 0 | 3 => 3 | 4 => 4 | n => n⟩
theorem Tryz.lays146 : Go.Proofs.Lays.n146 Tryz.prog Tryz.lays146_ren := {
 mixed := by kernel_rfl
 f138 := Tryz.func129.trans (congrArg some (by kernel_rfl))
 f143 := Tryz.func130.trans (congrArg some (by kernel_rfl))
 f146 := Tryz.func58.trans (congrArg some (by kernel_rfl))
 f195 := Tryz.func187.trans (congrArg some (by kernel_rfl))
 f197 := Tryz.func188.trans (congrArg some (by kernel_rfl))
 f217 := Tryz.func250.trans (congrArg some (by kernel_rfl))
 f218 := Tryz.func189.trans (congrArg some (by kernel_rfl))
 f219 := Tryz.func190.trans (congrArg some (by kernel_rfl))
 f221 := Tryz.func86.trans (congrArg some (by kernel_rfl))
 f224 := Tryz.func252.trans (congrArg some (by kernel_rfl))
 f225 := Tryz.func251.trans (congrArg some (by kernel_rfl))
 f260 := Tryz.func249.trans (congrArg some (by kernel_rfl))
 f266 := Tryz.func299.trans (congrArg some (by kernel_rfl))
 f267 := Tryz.func253.trans (congrArg some (by kernel_rfl))
 f268 := Tryz.func128.trans (congrArg some (by kernel_rfl))
 f314 := Tryz.func300.trans (congrArg some (by kernel_rfl))
 t0 := Tryz.underlying0
 a0 := Tryz.isAgg0
 z0 := Tryz.sizeOf0
 v0 := Tryz.zeroValue0
 t3 := Tryz.underlying3
 a3 := Tryz.isAgg3
 z3 := Tryz.sizeOf3
 v3 := Tryz.zeroValue3
 t4 := Tryz.underlying4
 a4 := Tryz.isAgg4
 z4 := Tryz.sizeOf4
 v4 := Tryz.zeroValue4
 t5 := Tryz.underlying5
 a5 := Tryz.isAgg5
 z5 := Tryz.sizeOf5
 v5 := Tryz.zeroValue5
 t9 := Tryz.underlying9
 a9 := Tryz.isAgg9
 z9 := Tryz.sizeOf9
 v9 := Tryz.zeroValue9
 t21 := Tryz.underlying21
 a21 := Tryz.isAgg21
 z21 := Tryz.sizeOf21
 v21 := Tryz.zeroValue21
 t31 := Tryz.underlying22
 a31 := Tryz.isAgg22
 z31 := Tryz.sizeOf22
 v31 := Tryz.zeroValue22
 t46 := Tryz.underlying220
 a46 := Tryz.isAgg220
 z46 := Tryz.sizeOf220
 v46 := Tryz.zeroValue220
 t51 := Tryz.underlying282
 a51 := Tryz.isAgg282
 z51 := Tryz.sizeOf282
 v51 := Tryz.zeroValue282
 t105 := Tryz.underlying197
 a105 := Tryz.isAgg197
 z105 := Tryz.sizeOf197
 v105 := Tryz.zeroValue197
 t119 := Tryz.underlying278
 a119 := Tryz.isAgg278
 z119 := Tryz.sizeOf278
 t138 := Tryz.underlying280
 a138 := Tryz.isAgg280
 z138 := Tryz.sizeOf280
 v138 := Tryz.zeroValue280
 t139 := Tryz.underlying281
 a139 := Tryz.isAgg281
 z139 := Tryz.sizeOf281
 v139 := Tryz.zeroValue281
 t146 := Tryz.underlying283
 a146 := Tryz.isAgg283
 z146 := Tryz.sizeOf283
 v146 := Tryz.zeroValue283
 g1 := by kernel_rfl
 g3 := by kernel_rfl
 g4 := by kernel_rfl }
open Go.RowKit Go.Lib in
theorem Tryz.strings_Split (s sep : ByteArray) (m : Int) (w : World) (hs : s.size < 4294967281) (hm : w.cell? ⟨0, 0, none⟩ = some (.int .i64 m)) (h1 : 1 ≤ sep.size) :
   Calls Tryz.prog 58 #[.string s, .string sep] w fun e w' =>
     e = .returned (.slice (some ⟨w.heap.size, 0, none⟩) (Lib.countB s sep + 1) (Lib.countB s sep + 1)) ∧ w' = w.alloc (.cells ((Lib.splitB sep 0 (Lib.countB s sep) s).map Value.string).toArray 9) := Any.strings_Split Tryz.lays146 (by kernel_rfl) s sep m w hs hm h1
def Tryz.lays155_ren : Go.Shelf.Ren := ⟨fun | 155 => 264 | 154 => 309 | 138 => 129 | 165 => 259 | 143 => 130 | 166 => 260 | 197 => 188 | 169 => 261 | 195 => 187 | 218 => 189 | 240 => 306 | 241 => 307 | 219 => 190 | 260 => 249 | 276 => 320 | 277 => 321 | 217 => 250 | 225 => 251 | 224 => 252 | 267 => 253 | 266 => 299 | 314 => 300 | n => n, fun | 9 => 9 | 3 => 3 | 4 => 4 | 72 => 250 | 0 => 0 | 76 => 252 | 105 => 197 | 21 => 21 | 5 => 5 | 70 => 248 | 20 => 20 | 37 => 28 | 75 => 116 | 127 => 290 | 164 => 303 | 46 => 220 | 119 => 278 | 139 => 281 | 138 => 280 | 146 => 283 | 51 => 282 | 80 => 167 | n => n, fun | 1 => 0 | 3 => 3 | 4 => 4 | n => n⟩
theorem Tryz.lays155 : Go.Proofs.Lays.n155 Tryz.prog Tryz.lays155_ren := {
 mixed := by kernel_rfl
 f138 := Tryz.func129.trans (congrArg some (by kernel_rfl))
 f143 := Tryz.func130.trans (congrArg some (by kernel_rfl))
 f154 := Tryz.func309.trans (congrArg some (by kernel_rfl))
 f155 := Tryz.func264.trans (congrArg some (by kernel_rfl))
 f165 := Tryz.func259.trans (congrArg some (by kernel_rfl))
 f166 := Tryz.func260.trans (congrArg some (by kernel_rfl))
 f169 := Tryz.func261.trans (congrArg some (by kernel_rfl))
 f195 := Tryz.func187.trans (congrArg some (by kernel_rfl))
 f197 := Tryz.func188.trans (congrArg some (by kernel_rfl))
 f217 := Tryz.func250.trans (congrArg some (by kernel_rfl))
 f218 := Tryz.func189.trans (congrArg some (by kernel_rfl))
 f219 := Tryz.func190.trans (congrArg some (by kernel_rfl))
 f224 := Tryz.func252.trans (congrArg some (by kernel_rfl))
 f225 := Tryz.func251.trans (congrArg some (by kernel_rfl))
 f240 := Tryz.func306.trans (congrArg some (by kernel_rfl))
 f241 := Tryz.func307.trans (congrArg some (by kernel_rfl))
 f260 := Tryz.func249.trans (congrArg some (by kernel_rfl))
 f266 := Tryz.func299.trans (congrArg some (by kernel_rfl))
 f267 := Tryz.func253.trans (congrArg some (by kernel_rfl))
 f276 := Tryz.func320.trans (congrArg some (by kernel_rfl))
 f277 := Tryz.func321.trans (congrArg some (by kernel_rfl))
 f314 := Tryz.func300.trans (congrArg some (by kernel_rfl))
 t0 := Tryz.underlying0
 a0 := Tryz.isAgg0
 z0 := Tryz.sizeOf0
 v0 := Tryz.zeroValue0
 t3 := Tryz.underlying3
 a3 := Tryz.isAgg3
 z3 := Tryz.sizeOf3
 v3 := Tryz.zeroValue3
 t4 := Tryz.underlying4
 a4 := Tryz.isAgg4
 z4 := Tryz.sizeOf4
 v4 := Tryz.zeroValue4
 t5 := Tryz.underlying5
 a5 := Tryz.isAgg5
 z5 := Tryz.sizeOf5
 v5 := Tryz.zeroValue5
 t9 := Tryz.underlying9
 a9 := Tryz.isAgg9
 z9 := Tryz.sizeOf9
 v9 := Tryz.zeroValue9
 t20 := Tryz.underlying20
 a20 := Tryz.isAgg20
 z20 := Tryz.sizeOf20
 v20 := Tryz.zeroValue20
 t21 := Tryz.underlying21
 a21 := Tryz.isAgg21
 z21 := Tryz.sizeOf21
 v21 := Tryz.zeroValue21
 t37 := Tryz.underlying28
 a37 := Tryz.isAgg28
 z37 := Tryz.sizeOf28
 v37 := Tryz.zeroValue28
 t46 := Tryz.underlying220
 a46 := Tryz.isAgg220
 z46 := Tryz.sizeOf220
 v46 := Tryz.zeroValue220
 t51 := Tryz.underlying282
 a51 := Tryz.isAgg282
 z51 := Tryz.sizeOf282
 v51 := Tryz.zeroValue282
 t70 := Tryz.underlying248
 a70 := Tryz.isAgg248
 z70 := Tryz.sizeOf248
 v70 := Tryz.zeroValue248
 t72 := Tryz.underlying250
 a72 := Tryz.isAgg250
 z72 := Tryz.sizeOf250
 v72 := Tryz.zeroValue250
 t75 := Tryz.underlying116
 a75 := Tryz.isAgg116
 z75 := Tryz.sizeOf116
 v75 := Tryz.zeroValue116
 t76 := Tryz.underlying252
 a76 := Tryz.isAgg252
 z76 := Tryz.sizeOf252
 v76 := Tryz.zeroValue252
 t105 := Tryz.underlying197
 a105 := Tryz.isAgg197
 z105 := Tryz.sizeOf197
 v105 := Tryz.zeroValue197
 t119 := Tryz.underlying278
 a119 := Tryz.isAgg278
 z119 := Tryz.sizeOf278
 t127 := Tryz.underlying290
 a127 := Tryz.isAgg290
 z127 := Tryz.sizeOf290
 v127 := Tryz.zeroValue290
 t138 := Tryz.underlying280
 a138 := Tryz.isAgg280
 z138 := Tryz.sizeOf280
 v138 := Tryz.zeroValue280
 t139 := Tryz.underlying281
 a139 := Tryz.isAgg281
 z139 := Tryz.sizeOf281
 v139 := Tryz.zeroValue281
 t146 := Tryz.underlying283
 a146 := Tryz.isAgg283
 z146 := Tryz.sizeOf283
 v146 := Tryz.zeroValue283
 t164 := Tryz.underlying303
 a164 := Tryz.isAgg303
 z164 := Tryz.sizeOf303
 v164 := Tryz.zeroValue303
 g1 := by kernel_rfl
 g3 := by kernel_rfl
 g4 := by kernel_rfl }
theorem Tryz.Builder_Extra_155 : Builder.Extra Tryz.prog Tryz.lays155_ren := {
 sizeBuilder := by kernel_rfl
 liesBuilder := by kernel_rfl
 t5 := Tryz.underlying5
 a5 := Tryz.isAgg5
 z5 := Tryz.sizeOf5
 v5 := Tryz.zeroValue5
 infoByte := by kernel_rfl
 cellsByte := by kernel_rfl
 sizeByte := by kernel_rfl
 neB5 := by decide }
open Go.RowKit Go.Lib in
theorem Tryz.strings_ReplaceAll (s old new : ByteArray) (m : Int) (w : World) (hs : s.size < 4294967281) (hm : w.cell? ⟨0, 0, none⟩ = some (.int .i64 m)) (h1 : 1 ≤ old.size) (hlen : s.size + Lib.countB s old * new.size ≤ 140737488355328) :
   Calls Tryz.prog 264 #[.string s, .string old, .string new] w fun e w' =>
     e = .returned (.string ⟨(Lib.replaceAll s.data.toList old.data.toList new.data.toList).toArray⟩) ∧ Below w.heap.size w w' := Any.strings_ReplaceAll Tryz.lays155 Tryz.Builder_Extra_155 s old new m w hs hm h1 hlen
end Go.Proofs
namespace Go.Proofs.YtglbamncajileaaGreatDoor
open Go.AE Go.Lib Go.RowKit
theorem B_all (ws : List (List UInt8)) : (ws.map B).map (·.data.toList) = ws := by
 rw [List.map_map]
 exact List.map_id'' (fun l => rfl) ws
theorem B_of : ∀ (xs : List ByteArray), xs = (xs.map (·.data.toList)).map B
 | [] => rfl
 | x :: r => by
   rw [List.map_cons, List.map_cons, ← B_of r]
theorem formatInt_ret (n : Int) (h : -9223372036854775808 ≤ n ∧ n ≤ 9223372036854775807) : Rt 131 [I n, I 10] (Sv (itoa n)) :=
 ret_of_calls1 (xs := [.int .i64 n, .int .i64 10]) (x := .string (B (itoa n))) rfl ⟨_, Tryz.func131, by kernel_rfl, by kernel_rfl⟩ fun S w hw => by
   obtain ⟨e, fz, hg⟩ := hw.ints (g := 5) rfl
   have ht : Go.Lib.TabIs Tryz.prog w "internal/strconv.uint64pow10" .u64 Go.Lib.pow10Tab := by
     have hn : Go.Program.globalNamed Tryz.prog "internal/strconv.uint64pow10" = some 5 := by kernel_rfl
     show Go.World.var? Tryz.prog w _ = _
     unfold Go.World.var?
     rw [hn]
     show (match w.heap[5]? with | some (.cells cs _ _) => some cs | _ => none) = _
     rw [hg]
   exact (Tryz.strconv_FormatInt_10 n h.1 h.2 w ht).mono fun e w' ⟨h1, k, os, h2⟩ => ⟨h1, h2 ▸ Cl.of_below (Go.Lib.below_grow _ w (Nat.le_refl _) k os)⟩
theorem join_ret (ws : List (List UInt8)) (sep : List UInt8) (hn : ws.length ≤ 140737488355328) (hl : (join ws sep).length ≤ 140737488355328) : Rt 193 [Rstr ws, Sv sep] (Sv (join ws sep)) :=
 ret_of_strs (y := .string (B sep)) (x := .string (B (join ws sep))) rfl ⟨_, Tryz.func193, by kernel_rfl, by kernel_rfl⟩
   (fun he w a cap => by
     obtain rfl : ws = [] := by simpa using he
     exact (Tryz.strings_Join_none a cap (B sep) w).mono fun e w' ⟨h1, h2⟩ => ⟨h1, h2 ▸ Cl.of_below (Below.refl _ _)⟩)
   fun w b off cap hp hb hc hcell => by
     have hx := Tryz.strings_Join b off cap (ws.map B) (B sep) w (fun j x hj => hcell j x hj) hb (by simpa using hn) (by simpa using hc) (by rw [B_all]; exact hl)
     rw [B_all] at hx
     exact hx.mono fun e w' ⟨h1, h2⟩ => ⟨h1, Cl.of_below h2⟩
theorem splitB_sp (c : UInt8) (l : List UInt8) : splitB (B [c]) 0 (countB (B l) (B [c])) (B l) = (sp c l).map B := by
 have h := splitB_data (B [c]) 0 (countB (B l) (B [c])) (B l)
 rw [B_of (splitB _ _ _ _), h]
 congr 1
 exact splitK_sp c l
theorem split_call (l : List UInt8) (c : UInt8) (hn : l.length ≤ 4294967280) : Ca 58 [Sv l, Sv [c]] [] (fun v J => v = .sl 0 1 ((sp c l).map B).length ∧ J = [Dstr (sp c l)]) :=
 call_strs (xs := [.string (B l), .string (B [c])]) ⟨_, Tryz.func58, by kernel_rfl, by kernel_rfl⟩ (by rw [List.length_map, sp_len]; have := List.count_le_length (a := c) (l := l); unfold maxLen; omega) fun S w hw => by
   obtain ⟨u, hu, hi⟩ := hw.cell (g := 0) rfl
   obtain ⟨m, rfl⟩ : ∃ m, u = .int .i64 m := by
     unfold isI64 at hi
     split at hi
     · exact ⟨_, rfl⟩
     · cases hi
   refine (Tryz.strings_Split (B l) (B [c]) m w (by rw [B_size]; omega) hu (Nat.le_refl _)).mono fun e w' ⟨h1, h2⟩ => ⟨9, ?_, ?_⟩
   · rw [h1, List.length_map, sp_len, show countB (B l) (B [c]) = l.count c from count_one c l]
   · rw [h2, splitB_sp]
theorem replaceAll_ret (l : List UInt8) (a b : UInt8) (hn : l.length ≤ 1048576000) : Rt 264 [Sv l, Sv [a], Sv [b]] (Sv (replaceAll l [a] [b])) :=
 ret_of_calls1 (xs := [.string (B l), .string (B [a]), .string (B [b])]) (x := .string (B (replaceAll l [a] [b]))) rfl ⟨_, Tryz.func264, by kernel_rfl, by kernel_rfl⟩ fun S w hw => by
   obtain ⟨u, hu, hi⟩ := hw.cell (g := 0) rfl
   obtain ⟨m, rfl⟩ : ∃ m, u = .int .i64 m := by
     unfold isI64 at hi
     split at hi
     · exact ⟨_, rfl⟩
     · cases hi
   have hc := countB_le (B [a]) (Nat.le_refl _) (B l).size (B l) (Nat.le_refl _)
   have hz := B_size l
   refine (Tryz.strings_ReplaceAll (B l) (B [a]) (B [b]) m w (by omega) hu (Nat.le_refl _) (by rw [show (B [b]).size = 1 from rfl]; omega)).mono fun e w' ⟨h1, h2⟩ => ⟨h1, Cl.of_below h2⟩
theorem cutSuffix_ret (l p : List UInt8) (hn : l.length ≤ 9223372036854775807) : Rt 65 [Sv l, Sv p] (.tup [Sv (trimSuffix l p), .v (.bool (hasSuffix l p))]) :=
 ret_of_calls1 (xs := [.string (B l), .string (B p)]) (x := .tuple #[.string (B (trimSuffix l p)), .bool (hasSuffix l p)]) rfl ⟨_, Tryz.func65, by kernel_rfl, by kernel_rfl⟩ fun S w hw =>
   (Tryz.strings_CutSuffix (B l) (B p) w hn).mono fun e w' ⟨h1, h2⟩ => ⟨h1, h2 ▸ Cl.of_below (Below.refl _ _)⟩
theorem trimPrefix_ret (l p : List UInt8) : Rt 93 [Sv l, Sv p] (Sv (trimPrefix l p)) :=
 ret_of_calls1 (xs := [.string (B l), .string (B p)]) (x := .string (B (trimPrefix l p))) rfl ⟨_, Tryz.func93, by kernel_rfl, by kernel_rfl⟩ fun S w hw =>
   (Tryz.strings_TrimPrefix (B l) (B p) w).mono fun e w' ⟨h1, h2⟩ => ⟨h1, h2 ▸ Cl.of_below (Below.refl _ _)⟩
theorem parse_ok (l : List UInt8) (hn : l.length ≤ 281474976710656) (v : Int) (h : parseIntB 64 l = .ok v) : Ret Tryz.prog G2 92 [Sv l, I 10, I 64] (.tup [I v, .v .nilIface]) :=
 ret_of_calls1 (xs := [.string (B l), .int .i64 10, .int .i64 64]) (x := .tuple #[.int .i64 v, .nilIface]) rfl ⟨_, Tryz.func92, by kernel_rfl, by kernel_rfl⟩ fun S w hw =>
   (Tryz.strconv_ParseInt_10_at64_ok (B l) (by rw [B_size]; omega) v h w).mono fun e w' ⟨h1, h2⟩ => ⟨h1, by
     rcases h2 with rfl | ⟨t, rfl⟩
     · exact Cl.of_below (Below.refl _ _)
     · exact Cl.of_below (Go.Joins.below_bytesWorld _ w _ t (Nat.le_refl _))⟩
theorem ifc_tup {β : Nat → Option Nat} {n : Nat} {S : Nat → Prop} {w : World} (x : Int) (te : TypeId) (p : Value) : VR β n S w (.tup [.un, .ifc]) (.tuple #[.int .i64 x, .iface te p]) :=
 .tup _ _ rfl fun i c hc => by
   match i, hc with
   | 0, hc => cases hc; exact .un _
   | 1, hc => cases hc; exact .ifc te p
theorem err_of {u : Value} (h : isErr u = true) : u = .nilIface ∨ ∃ te pe, u = .iface te pe := by
 unfold isErr at h
 split at h
 · exact .inl rfl
 · exact .inr ⟨_, _, rfl⟩
 · cases h
theorem parse_bad (l : List UInt8) (hn : l.length ≤ 281474976710656) (h : ∀ v, parseIntB 64 l ≠ .ok v) : Ret Tryz.prog G2 92 [Sv l, I 10, I 64] (.tup [.un, .ifc]) :=
 ret_of_calls (xs := [.string (B l), .int .i64 10, .int .i64 64]) ⟨_, Tryz.func92, by kernel_rfl, by kernel_rfl⟩ fun S w hw => by
   cases hp : parseIntB 64 l with
   | ok v => exact absurd hp (h v)
   | range =>
     obtain ⟨u, hu, hi⟩ := hw.cell (g := 2) rfl
     exact (Tryz.strconv_ParseInt_10_at64_range (B l) hn hp u w hu (err_of hi)).mono fun e w' ⟨N, h1, _, _, h2⟩ => ⟨⟨_, h1, fun _ _ _ _ => ifc_tup _ _ _⟩, Cl.of_below h2⟩
   | _ =>
     obtain ⟨u, hu, hi⟩ := hw.cell (g := 1) rfl
     exact (Tryz.strconv_ParseInt_10_at64_syntax (B l) hn hp u w hu (err_of hi)).mono fun e w' ⟨N, h1, _, _, h2⟩ => ⟨⟨_, h1, fun _ _ _ _ => ifc_tup _ _ _⟩, Cl.of_below h2⟩
end Go.Proofs.YtglbamncajileaaGreatDoor
namespace Go.Proofs.YtglbamncajileaaGreatDoor
open Go.AE Go.Lib
attribute [local irreducible] CallA LoopA DrawA CallQ arithK quoK remK eqK
theorem decimal_ret (n : Int) (h : -9223372036854775808 ≤ n ∧ n ≤ 9223372036854775807) : Rt 87 [I n] (Sv (itoa n)) := by
 refine bZ Tryz.func87 ?_
 repeat' (conv => whnf); first | (intro h; try exact nZ) | apply And.intro | refine sZ ?_ | (refine Ret.go (formatInt_ret n h) rfl rfl ?_) | fail
 all_goals first | exact rZ
abbrev txts (xs : List Int) : List (List UInt8) := xs.map itoa
theorem txts_snoc {xs : List Int} {i : Nat} (h : i < xs.length) : (txts (xs.take (i + 1))).map B = (txts (xs.take i)).map B ++ [B (itoa (xs.getD i 0))] := by
 rw [take_snoc 0 h, txts, List.map_append, List.map_append]; rfl
theorem join_len {xs : List Int} {s : List UInt8} (hn : xs.length ≤ 1048576) (hx : ∀ x ∈ xs, okI x) (hs : s.length ≤ 8) : (join (xs.map itoa) s).length ≤ 30408704 := by
 have := jn_len hx hs xs.length (Nat.le_refl _)
 rw [jn_all] at this
 omega
theorem joined_ret (xs : List Int) (hn : xs.length ≤ 1048576) (hx : ∀ x ∈ xs, okI x) : Rt 133 [Ri xs] (Sv (join (xs.map itoa) [32])) := by
 have hjl := join_len (s := [32]) hn hx (by decide)
 refine bZ Tryz.func133 ?_
 repeat' (conv => whnf); first | (intro h; try exact nZ) | apply And.intro | refine sZ ?_ | fail
 all_goals try exact rZ
 (conv => whnf)
 refine loop_rule hT (fun i : Nat => i ≤ xs.length) 21 1 [0, 3, 7, 8, 9] (fun i => [Ri xs, .sl 1 1 ((txts (xs.take i)).map B).length, Ri xs, I xs.length, I i]) (fun i => [.dead, .data (.strs ((txts (xs.take i)).map B))]) (fun i => xs.length - i) (0) (Nat.le_of_ble_eq_true rfl) ?_ ?_ ?_
 · exact Nat.zero_le _
 · first | (exact endH1 [some 0])
 · intro i h1
   have hlen : ((txts (xs.take i)).map B).length = i := by simp; omega
   by_cases hi : i < xs.length
   · have hxi := hx _ (getD_mem (d := (0 : Int)) hi)
     have hsn := txts_snoc hi
     have hd := decimal_ret (xs.getD ((i : Int)).toNat 0) (by have h2 : okI (xs.getD ((i : Int)).toNat 0) := hxi; unfold okI at h2; omega)
     repeat' (conv => whnf); first | (intro h; try exact nZ) | apply And.intro | refine sZ ?_ | (refine Ret.go (hd) rfl rfl ?_) | fail
     all_goals first | exact rZ | (show _ < xs.length; omega) | (show (_ : Nat) ≤ _; simp; omega) | skip
     all_goals ((conv => whnf); first | (refine ⟨i + 1, by omega, ?_, by omega⟩; (refine ⟨rfl, [some 3], ?_, ?_⟩; (repeat' first | apply And.intro | exact xZ | (rw [hsn]; exact rfl) | fail); done)))
   · obtain rfl : i = xs.length := by omega
     have hall : xs.take xs.length = xs := take_all (Nat.le_refl _)
     rw [hall]
     have hj := join_ret (txts xs) [32] (by rw [List.length_map]; omega) (show (join (xs.map itoa) [32]).length ≤ _ by omega)
     repeat' (conv => whnf); first | (intro h; try exact nZ) | apply And.intro | refine sZ ?_ | refine Ret.uA (hj) ?_ | fail
     all_goals first | exact rZ
def rt (r : List Int) : List UInt8 := join (r.map itoa) [44]
theorem comma_blank {xs : List Int} : replaceAll (join (xs.map itoa) [32]) [32] [44] = join (xs.map itoa) [44] := by
 rw [replaceAll_map (by decide)]
 induction xs with
 | nil => rfl
 | cons x r ih =>
   have hk : (itoa x).map (fun b => if b = 32 then 44 else b) = itoa x := by
     conv => rhs; rw [← List.map_id (itoa x)]
     refine List.map_congr_left fun b hb => if_neg ?_
     rintro rfl
     rcases itoa_bytes hb with h | h
     · exact absurd h (by decide)
     · exact absurd h.1 (by decide)
   cases r with
   | nil => simpa [join_one] using hk
   | cons y r =>
     rw [List.map_cons, List.map_cons, join_cons2, join_cons2, List.map_append, List.map_append, hk]
     rw [List.map_cons] at ih
     rw [ih]
     rfl
end Go.Proofs.YtglbamncajileaaGreatDoor
namespace Go.Proofs.YtglbamncajileaaGreatDoor
open Go.AE Go.Lib
theorem itoa_free {n : Int} {c : UInt8} (h : c ≠ 45) (h2 : ¬ dgt c) : c ∉ itoa n := fun hm => by
 rcases itoa_bytes hm with h3 | h3
 · exact h h3
 · exact h2 h3
theorem sp_ints {c : UInt8} (h1 : c ≠ 45) (h2 : ¬ dgt c) {r : List Int} (h : r ≠ []) : sp c (join (r.map itoa) [c]) = r.map itoa :=
 sp_join (by simpa using h) fun w hw => by
   obtain ⟨x, _, rfl⟩ := List.mem_map.1 hw
   exact itoa_free h1 h2
theorem sp_rt {r : List Int} (h : r ≠ []) : sp 44 (rt r) = r.map itoa := sp_ints (by decide) (by decide) h
theorem map_itoa_inj : ∀ {xs ys : List Int}, xs.map itoa = ys.map itoa → xs = ys
 | [], [], _ => rfl
 | [], _ :: _, h => by simp at h
 | _ :: _, [], h => by simp at h
 | x :: r, y :: q, h => by
   rw [List.map_cons, List.map_cons] at h
   injection h with h1 h2
   rw [itoa_inj h1, map_itoa_inj h2]
def sm (n : Int) : Prop := -9999999999999 ≤ n ∧ n ≤ 9999999999999
end Go.Proofs.YtglbamncajileaaGreatDoor
