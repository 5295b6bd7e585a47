/-
Package code: words, line. No condition.
Package code: line. No condition.
Package code: what is shown of a code: the plain text, bounds. No condition.
Package code: Show. Condition: what comes in lies within the reach.
-/
import Derived.Test.YtiicdknmoakocaaDoorCode
import Derived.Test.YtiicdknmoakocaaDoorText
import Derived.Test.YtiicdknmoakocaaDoorBlk
import Derived.Test.YtiicdknmoakocaaDoorRegF
import Derived.Deep.DeepCutAuto
import Derived.Deep.WholeRow
import Derived.Test.YtiicdknmoakocaaDoorTx
import Derived.Test.YtiicdknmoakocaaDoorSoundS
import Derived.Test.YtiicdknmoakocaaDoorBuild
import Derived.Test.YtiicdknmoakocaaDoorSoundQ
namespace Go.Proofs.YtiicdknmoakocaaDoor
open Go.RowKit
set_option linter.unusedVariables false
set_option linter.unusedSimpArgs false

def mwordsL : List (List UInt8) := [[], [105, 110, 116], [98, 111, 111, 108], [116, 101, 120, 116], [110, 105, 108], [102, 117, 110, 99], [109, 111, 118, 101], [111, 112], [99, 109, 112], [110, 101, 103], [110, 111, 116], [99, 97, 116], [108, 101, 110], [105, 110, 100, 101, 120], [115, 101, 116, 97, 116], [99, 117, 116], [97, 112, 112, 101, 110, 100], [108, 105, 115, 116], [98, 111, 120], [103, 101, 116], [112, 117, 116], [99, 108, 111, 115, 101], [105, 115, 105, 110, 116], [116, 111, 105, 110, 116], [99, 104, 101, 99, 107], [116, 101, 115, 116], [106, 117, 109, 112], [102, 97, 108, 115, 101], [99, 97, 108, 108], [114, 101, 116, 117, 114, 110], [108, 101, 97, 118, 101], [112, 97, 110, 105, 99], [114, 101, 99, 111, 118, 101, 114], [101, 120, 105, 116], [112, 114, 105, 110, 116], [100, 101, 102, 101, 114], [114, 117, 110], [98, 105, 116], [110, 111, 98, 105, 116], [115, 116, 97, 114, 116], [101, 110, 100, 101, 100], [116, 97, 107, 101, 110]]
def mwordsV : Array Value := #[.string ⟨#[]⟩, .string ⟨#[105, 110, 116]⟩, .string ⟨#[98, 111, 111, 108]⟩, .string ⟨#[116, 101, 120, 116]⟩, .string ⟨#[110, 105, 108]⟩, .string ⟨#[102, 117, 110, 99]⟩, .string ⟨#[109, 111, 118, 101]⟩, .string ⟨#[111, 112]⟩, .string ⟨#[99, 109, 112]⟩, .string ⟨#[110, 101, 103]⟩, .string ⟨#[110, 111, 116]⟩, .string ⟨#[99, 97, 116]⟩, .string ⟨#[108, 101, 110]⟩, .string ⟨#[105, 110, 100, 101, 120]⟩, .string ⟨#[115, 101, 116, 97, 116]⟩, .string ⟨#[99, 117, 116]⟩, .string ⟨#[97, 112, 112, 101, 110, 100]⟩, .string ⟨#[108, 105, 115, 116]⟩, .string ⟨#[98, 111, 120]⟩, .string ⟨#[103, 101, 116]⟩, .string ⟨#[112, 117, 116]⟩, .string ⟨#[99, 108, 111, 115, 101]⟩, .string ⟨#[105, 115, 105, 110, 116]⟩, .string ⟨#[116, 111, 105, 110, 116]⟩, .string ⟨#[99, 104, 101, 99, 107]⟩, .string ⟨#[116, 101, 115, 116]⟩, .string ⟨#[106, 117, 109, 112]⟩, .string ⟨#[102, 97, 108, 115, 101]⟩, .string ⟨#[99, 97, 108, 108]⟩, .string ⟨#[114, 101, 116, 117, 114, 110]⟩, .string ⟨#[108, 101, 97, 118, 101]⟩, .string ⟨#[112, 97, 110, 105, 99]⟩, .string ⟨#[114, 101, 99, 111, 118, 101, 114]⟩, .string ⟨#[101, 120, 105, 116]⟩, .string ⟨#[112, 114, 105, 110, 116]⟩, .string ⟨#[100, 101, 102, 101, 114]⟩, .string ⟨#[114, 117, 110]⟩, .string ⟨#[98, 105, 116]⟩, .string ⟨#[110, 111, 98, 105, 116]⟩, .string ⟨#[115, 116, 97, 114, 116]⟩, .string ⟨#[101, 110, 100, 101, 100]⟩, .string ⟨#[116, 97, 107, 101, 110]⟩]
theorem words_one : mwordsV.all (·.oneCell') = true := by rw [← Array.all_toList]; rfl
theorem wp_store_whole {P : Program} {ops : Array Oper} {rest : List Oper} {o : Oper} {a : Act} {Q : Exit → Act → World → Prop} {w : World} {c c' : Array Value} (t : TypeId) (hg : o.guard = none) (p x : Operand) (hop : o.op = Op.store t p x) (hp : a.eval p = .pointer (some ⟨w.heap.size, 0, none⟩)) (hx : a.eval x = .agg c') (hi : (P.info? t).map (·.size) = some c'.size) (ho : c.size = c'.size) (h1 : c'.all (·.oneCell') = true)
    (h : ∀ v, wpList P ops Q rest (a.put o.dst v) (w.alloc (.cells c' t))) : wpList P ops Q (o :: rest) a (w.alloc (.cells c t)) := by
  have hrun := run_storeAt_new (P := P) w t c c' hi ho h1
  refine wpList_plain hg fun K hK => ?_
  unfold Oper.wp execOp
  simp only [hop, hp, hx, Sem.run_bind, Sem.run_pure, Result.andThen_ok, hrun]
  exact hK _ _ (h _)
set_option maxRecDepth 20000 in
set_option maxHeartbeats 4000000 in
theorem words_any (w : World) : Calls Tryd.prog 30 #[] w fun e w' => e = .returned (.agg mwordsV) ∧ Kp w w' := by
  go_enter Tryd.func30, Tryd.ntmps30
  go_upto_region 1 with fail
  refine wp_region_list ?_
  refine wpList_plain rfl fun K hK => ?_
  go_simp
  refine hK _ _ ?_
  clear hK K
  refine wp_store_whole (c' := mwordsV) 80 rfl _ _ rfl rfl rfl (by kernel_rfl) rfl words_one (fun v => ?_)
  have hld := run_loadVar_new (P := Tryd.prog) w 80 mwordsV 42 9 Tryd.underlying80 (by kernel_rfl)
  have HLD := hid hld
  clear hld
  go_wp2
  have hld := HLD.out
  exact bodyPost_ret (v := .agg mwordsV) (by simp only [results, Tryd.results30]; simp [asAddr, Act.put, hld]) rfl ⟨rfl, (Kp.refl w).alloc _⟩
end Go.Proofs.YtiicdknmoakocaaDoor
namespace Go.Proofs.YtiicdknmoakocaaDoor
open Go.RowKit
set_option linter.unusedVariables false
set_option linter.unusedSimpArgs false

def mwordB (op : Int) : List UInt8 := mwordsL.getD op.toNat []
def numsB (l : List Int) : List UInt8 := l.flatMap fun n => 32 :: Lib.itoa n
def lineM (i : InsM) : List UInt8 := (([32, 32] ++ mwordB i.op) ++ numsB [i.a, i.b, i.c, i.d, i.e]) ++ [10]
theorem numsB_snoc (l : List Int) (n : Int) : numsB (l ++ [n]) = numsB l ++ (32 :: Lib.itoa n) := by unfold numsB; simp
theorem words_idx (n : Nat) (h : n < 42) (w : World) : Sem.run Tryd.prog (Instr.index 80 (.agg mwordsV) (.int .i64 (n : Int))) w = .ok (.string ⟨(mwordsL.getD n []).toArray⟩) w := by
  have hv : mwordsV[n]? = some (.string ⟨(mwordsL.getD n []).toArray⟩) := by
    have e : mwordsV = (mwordsL.map fun l => Value.string ⟨l.toArray⟩).toArray := rfl
    have hl : n < mwordsL.length := h
    rw [e, List.getElem?_toArray, List.getElem?_map, List.getElem?_eq_getElem hl, List.getD_eq_getElem?_getD, List.getElem?_eq_getElem hl]
    rfl
  have hi : (Tryd.prog.info? 9).map (·.size) = some 1 := by kernel_rfl
  cases hq : Tryd.prog.info? 9 with
  | none => rw [hq] at hi; cases hi
  | some i =>
    rw [hq] at hi
    exact run_index_arr Tryd.underlying80 (by unfold Program.plainKey; rw [Tryd.underlying9]) hq (by unfold Program.cellsOf; rw [hq]; simpa using hi) _ n (by show n < 42; exact h) _ hv w
theorem idx5 (i : Int) (k : Nat) (hik : i = k) (hk : k < 5) (x0 x1 x2 x3 x4 v : Value) (hv : #[x0, x1, x2, x3, x4][k]? = some v) (w : World) : Sem.run Tryd.prog (Instr.index 82 (.agg #[x0, x1, x2, x3, x4]) (.int .i64 i)) w = .ok v w := by
  subst hik
  have hi : (Tryd.prog.info? 3).map (·.size) = some 1 := by kernel_rfl
  cases h : Tryd.prog.info? 3 with
  | none => rw [h] at hi; cases hi
  | some i =>
    rw [h] at hi
    exact run_index_arr Tryd.underlying82 (by unfold Program.plainKey; rw [Tryd.underlying3]) h (by unfold Program.cellsOf; rw [h]; simpa using hi) _ k hk _ hv w
theorem word_len (op : Int) : (mwordB op).length ≤ 7 := by
  unfold mwordB
  rw [List.getD_eq_getElem?_getD]
  cases h : mwordsL[op.toNat]? with
  | none => simp
  | some x =>
    have hm := List.mem_of_getElem? h
    have : ∀ y ∈ mwordsL, y.length ≤ 7 := by decide
    exact this x hm
theorem nums_len : ∀ (l : List Int), (∀ x ∈ l, okI x) → (numsB l).length ≤ 21 * l.length
  | [], _ => by simp [numsB]
  | n :: l, h => by
    have h1 : (Lib.itoa n).length ≤ 20 := tx_size n (h n (List.mem_cons_self ..))
    have h2 := nums_len l (fun x hx => h x (List.mem_cons_of_mem _ hx))
    show (32 :: Lib.itoa n ++ numsB l).length ≤ _
    rw [List.length_append, List.length_cons, List.length_cons]; omega
theorem line_round {W u : World} {B : List UInt8} {R : List Int} {k : Nat} {n : Int} {S : ByteArray} (hk : k < 5) (hn : R[k]? = some n) (hS : S = ⟨(B ++ numsB (R.take k)).toArray⟩) (hkp : Kp W u) :
    (∃ (k' : Nat) (S' : ByteArray), k' ≤ 5 ∧ Value.int .i64 ((k : Int) + 1) = .int .i64 (k' : Int) ∧ Value.string (S ++ (⟨#[32]⟩ ++ tx n)) = .string S' ∧ Hid (S' = ⟨(B ++ numsB (R.take k')).toArray⟩) ∧ Kp W u) ∧ 5 - (intOf (Value.int .i64 ((k : Int) + 1))).toNat < 5 - (intOf (Value.int .i64 (k : Int))).toNat := by
  refine ⟨⟨k + 1, _, hk, by congr 1, rfl, hid ?_, hkp⟩, by simp only [intOf]; omega⟩
  rw [hS, List.take_add_one, hn]
  show _ = (⟨(B ++ numsB (R.take k ++ [n])).toArray⟩ : ByteArray)
  rw [numsB_snoc]
  unfold tx
  rw [show (⟨#[32]⟩ : ByteArray) = ⟨([32] : List UInt8).toArray⟩ from rfl, bapp, bapp]
  simp
set_option maxRecDepth 20000 in
set_option maxHeartbeats 8000000 in
theorem line_any (i : InsM) (h0 : 0 ≤ i.op) (h1 : i.op < 42) (ho : okI i.a ∧ okI i.b ∧ okI i.c ∧ okI i.d ∧ okI i.e) (w : World) : Calls Tryd.prog 22 #[.agg #[.int .i64 i.op, .int .i64 i.a, .int .i64 i.b, .int .i64 i.c, .int .i64 i.d, .int .i64 i.e]] w fun e w' => e = .returned (.string ⟨(lineM i).toArray⟩) ∧ Kp w w' := by
  obtain ⟨op, a, b, c, d, e⟩ := i
  simp only at h0 h1 ho
  obtain ⟨oa, ob, oc, od, oe⟩ := ho
  have za := tx_size a oa; have zb := tx_size b ob; have zc := tx_size c oc; have zd := tx_size d od; have ze := tx_size e oe
  have HA := hid oa; have HB := hid ob; have HC := hid oc; have HD := hid od; have HE := hid oe
  obtain ⟨n, rfl⟩ : ∃ n : Nat, op = (n : Int) := ⟨op.toNat, by omega⟩
  have hn : n < 42 := by omega
  have HIX := hid (fun w => words_idx n hn w)
  have HBX := hid (blk_new w (.cells #[.int .i64 (n : Int), .int .i64 a, .int .i64 b, .int .i64 c, .int .i64 d, .int .i64 e] 64))
  have HK := hid (show Kp w (w.alloc (.cells #[.int .i64 (n : Int), .int .i64 a, .int .i64 b, .int .i64 c, .int .i64 d, .int .i64 e] 64)) from (Kp.refl w).alloc _)
  obtain ⟨WD, hWD⟩ : ∃ x : ByteArray, (⟨(mwordsL.getD n []).toArray⟩ : ByteArray) = x := ⟨_, rfl⟩
  have HWD := hid hWD
  have zw : WD.size ≤ 7 := by
    rw [← hWD, ba_size]
    have := word_len (n : Int)
    unfold mwordB at this
    simpa using this
  rw [hWD] at HIX
  clear oa ob oc od oe h0 h1 hWD hn
  go_enter Tryd.func22, Tryd.ntmps22
  go_upto_region 1 with fail
  generalize (w.alloc (.cells #[.int .i64 (n : Int), .int .i64 a, .int .i64 b, .int .i64 c, .int .i64 d, .int .i64 e] 64)) = W at HBX HK ⊢
  have hlb := blk_lt HBX.out
  refine wp_region_kp [[], [], [1], [0, 2], [3], [4]] (fun u => Kp W u)
    [fun (y : Value) (u : World) => y = (.agg mwordsV : Value),
     fun (y : Value) (u : World) => y = (.pointer (some ⟨w.heap.size, 0, none⟩) : Value),
     fun (y : Value) (u : World) => y = (.int .i64 (n : Int) : Value),
     fun (y : Value) (u : World) => y = (.string WD : Value),
     fun (y : Value) (u : World) => y = (.string (⟨#[32, 32]⟩ ++ WD) : Value),
     fun (y : Value) (u : World) => y = (.string (⟨#[32, 32]⟩ ++ WD) : Value)]
    (by kernel_rfl) (by kernel_rfl) (by kernel_rfl) (by kernel_rfl) ((Kp.refl _).drew) (fun _ _ hk h => h.trans hk) ⟨fun _ _ _ _ h => h, fun _ _ _ _ h => h, fun _ _ _ _ h => h, fun _ _ _ _ h => h, fun _ _ _ _ h => h, fun _ _ _ _ h => h, trivial⟩ ⟨?sb0, ?sb1, ?sb2, ?sb3, ?sb4, ?sb5, trivial⟩ ?hEb
  case sb0 =>
    intro x u hg hd K hK
    clear hd
    refine ⟨?_⟩
    simp only [putsFrom, Act.put, List.setIfInBounds_toArray, List.set_cons_zero, List.set_cons_succ, Nat.reduceAdd] at hK ⊢
    go_simp
    go_at_call 30
    have hc := words_any u
    refine hc.mono ?_
    clear hc
    rintro e u' ⟨rfl, hk9⟩
    dsimp only
    exact hK.out _ _ hk9 rfl
  case sb1 =>
    intro x u hg hd K hK
    clear hd
    refine ⟨?_⟩
    simp only [putsFrom, Act.put, List.setIfInBounds_toArray, List.set_cons_zero, List.set_cons_succ, Nat.reduceAdd] at hK ⊢
    go_simp
    exact hK.out _ _ (Kp.refl _) rfl
  case sb2 =>
    intro x u hg hd K hK
    have d1 : (x 1) = .pointer (some ⟨w.heap.size, 0, none⟩) := And.left hd
    clear hd
    have q9 := blk_cell (o := 0) (v := .int .i64 (n : Int)) ((hg.block _ hlb).trans HBX.out) rfl
    refine ⟨?_⟩
    simp only [putsFrom, Act.put, List.setIfInBounds_toArray, List.set_cons_zero, List.set_cons_succ, Nat.reduceAdd, d1] at hK ⊢
    go_simp
    exact hK.out _ _ (Kp.refl _) rfl
  case sb3 =>
    intro x u hg hd K hK
    have d0 : (x 0) = .agg mwordsV := And.left hd
    have d2 : (x 2) = .int .i64 (n : Int) := And.left (And.right hd)
    clear hd
    have q9 := HIX.out u
    refine ⟨?_⟩
    simp only [putsFrom, Act.put, List.setIfInBounds_toArray, List.set_cons_zero, List.set_cons_succ, Nat.reduceAdd, d0, d2] at hK ⊢
    go_simp
    exact hK.out _ _ (Kp.refl _) rfl
  case sb4 =>
    intro x u hg hd K hK
    have d3 : (x 3) = .string WD := And.left hd
    clear hd
    have s9 : ¬ (9223372036854775807 : Nat) < 2 + WD.size := by omega
    refine ⟨?_⟩
    simp only [putsFrom, Act.put, List.setIfInBounds_toArray, List.set_cons_zero, List.set_cons_succ, Nat.reduceAdd, d3] at hK ⊢
    go_simp
    exact hK.out _ _ (Kp.refl _) rfl
  case sb5 =>
    intro x u hg hd K hK
    have d4 : (x 4) = .string (⟨#[32, 32]⟩ ++ WD) := And.left hd
    clear hd
    refine ⟨?_⟩
    simp only [putsFrom, Act.put, List.setIfInBounds_toArray, List.set_cons_zero, List.set_cons_succ, Nat.reduceAdd, d4] at hK ⊢
    go_simp
    exact hK.out _ _ (Kp.refl _) rfl
  intro x u hg he
  have d0 : (x 0) = .agg mwordsV := And.left he
  have d1 : (x 1) = .pointer (some ⟨w.heap.size, 0, none⟩) := And.left (And.right he)
  have d2 : (x 2) = .int .i64 (n : Int) := And.left (And.right (And.right he))
  have d3 : (x 3) = .string WD := And.left (And.right (And.right (And.right he)))
  have d4 : (x 4) = .string (⟨#[32, 32]⟩ ++ WD) := And.left (And.right (And.right (And.right (And.right he))))
  have d5 : (x 5) = .string (⟨#[32, 32]⟩ ++ WD) := And.left (And.right (And.right (And.right (And.right (And.right he)))))
  clear he
  refine ⟨?_⟩
  simp only [putsFrom, Act.put, List.setIfInBounds_toArray, List.set_cons_zero, List.set_cons_succ, Nat.reduceAdd, d0, d1, d2, d3, d4, d5]
  clear d0 d1 d2 d3 d4 d5
  have HKU := hid (HK.out.trans hg)
  have HBU := hid ((hg.block _ hlb).trans HBX.out)
  clear hg hlb
  go_upto_region 2 with fail
  have q1 := blk_cell (o := 1) (v := .int .i64 a) HBU.out rfl
  have q2 := blk_cell (o := 2) (v := .int .i64 b) HBU.out rfl
  have q3 := blk_cell (o := 3) (v := .int .i64 c) HBU.out rfl
  have q4 := blk_cell (o := 4) (v := .int .i64 d) HBU.out rfl
  have q5 := blk_cell (o := 5) (v := .int .i64 e) HBU.out rfl
  go_wp2
  clear q1 q2 q3 q4 q5
  obtain ⟨B0, hB0⟩ : ∃ B0 : List UInt8, B0 = [32, 32] ++ mwordB (n : Int) := ⟨_, rfl⟩
  have hB0l : B0.length ≤ 9 := by rw [hB0, List.length_append]; have := word_len (n : Int); simp; omega
  have HB0 := hid hB0; have HBL := hid hB0l
  clear hB0 hB0l
  have hst : (⟨#[32, 32]⟩ : ByteArray) ++ WD = ⟨(B0 ++ numsB (([a, b, c, d, e] : List Int).take 0)).toArray⟩ := by
    rw [← HWD.out, HB0.out, show (⟨#[32, 32]⟩ : ByteArray) = ⟨([32, 32] : List UInt8).toArray⟩ from rfl, bapp]
    simp [numsB, mwordB]
  have HST := hid hst
  clear hst
  have HOKS := hid (show ∀ x ∈ ([a, b, c, d, e] : List Int), okI x from by
    intro x hx
    simp at hx
    rcases hx with rfl | rfl | rfl | rfl | rfl
    · exact HA.out
    · exact HB.out
    · exact HC.out
    · exact HD.out
    · exact HE.out)
  go_loopw [3, 22] (fun sv kv wr => ∃ (k : Nat) (S : ByteArray), k ≤ 5 ∧ kv = .int .i64 (k : Int) ∧ sv = .string S ∧ Hid (S = ⟨(B0 ++ numsB (([a, b, c, d, e] : List Int).take k)).toArray⟩) ∧ Kp u wr) (fun _ kv _ => 5 - (intOf kv).toNat)
  case atStart => exact ⟨0, _, by omega, rfl, rfl, HST, Kp.refl _⟩
  case round =>
    obtain ⟨k, S, hk, rfl, rfl, HS, hkp⟩ := hrel
    have zs : S.size ≤ 200 := by
      rw [HS.out, ba_size, List.length_append]
      have h1 := nums_len (([a, b, c, d, e] : List Int).take k) (fun x hx => HOKS.out x (List.mem_of_mem_take hx))
      have h2 : (([a, b, c, d, e] : List Int).take k).length ≤ 5 := by rw [List.length_take]; simp; omega
      have := HBL.out
      omega
    have HKP := hid hkp
    clear hkp
    have hcase : k = 0 ∨ k = 1 ∨ k = 2 ∨ k = 3 ∨ k = 4 ∨ k = 5 := by omega
    rcases hcase with rfl | rfl | rfl | rfl | rfl | rfl
    · have hix := fun w => idx5 0 0 rfl (by omega) (.int .i64 a) (.int .i64 b) (.int .i64 c) (.int .i64 d) (.int .i64 e) _ rfl w
      go_wp2_with (go_at_call 15; go_must (refine (tx_any _ _ HA.out).mono ?_); rintro e w2 ⟨rfl, hk2⟩)
      exact line_round (k := 0) (n := a) (by omega) rfl HS.out (HKP.out.trans hk2)
    · have hix := fun w => idx5 1 1 rfl (by omega) (.int .i64 a) (.int .i64 b) (.int .i64 c) (.int .i64 d) (.int .i64 e) _ rfl w
      go_wp2_with (go_at_call 15; go_must (refine (tx_any _ _ HB.out).mono ?_); rintro e w2 ⟨rfl, hk2⟩)
      exact line_round (k := 1) (n := b) (by omega) rfl HS.out (HKP.out.trans hk2)
    · have hix := fun w => idx5 2 2 rfl (by omega) (.int .i64 a) (.int .i64 b) (.int .i64 c) (.int .i64 d) (.int .i64 e) _ rfl w
      go_wp2_with (go_at_call 15; go_must (refine (tx_any _ _ HC.out).mono ?_); rintro e w2 ⟨rfl, hk2⟩)
      exact line_round (k := 2) (n := c) (by omega) rfl HS.out (HKP.out.trans hk2)
    · have hix := fun w => idx5 3 3 rfl (by omega) (.int .i64 a) (.int .i64 b) (.int .i64 c) (.int .i64 d) (.int .i64 e) _ rfl w
      go_wp2_with (go_at_call 15; go_must (refine (tx_any _ _ HD.out).mono ?_); rintro e w2 ⟨rfl, hk2⟩)
      exact line_round (k := 3) (n := d) (by omega) rfl HS.out (HKP.out.trans hk2)
    · have hix := fun w => idx5 4 4 rfl (by omega) (.int .i64 a) (.int .i64 b) (.int .i64 c) (.int .i64 d) (.int .i64 e) _ rfl w
      go_wp2_with (go_at_call 15; go_must (refine (tx_any _ _ HE.out).mono ?_); rintro e w2 ⟨rfl, hk2⟩)
      exact line_round (k := 4) (n := e) (by omega) rfl HS.out (HKP.out.trans hk2)
    · have HL := hid (show lineM ⟨(n : Int), a, b, c, d, e⟩ = (B0 ++ numsB [a, b, c, d, e]) ++ [10] by rw [HB0.out]; rfl)
      go_wp2
      go_ret
      exact ⟨by rw [HL.out, HS.out, show (⟨#[10]⟩ : ByteArray) = ⟨([10] : List UInt8).toArray⟩ from rfl, bapp]; rfl, HKU.out.trans HKP.out⟩
end Go.Proofs.YtiicdknmoakocaaDoor
namespace Go.Proofs.YtiicdknmoakocaaDoor
open Go.RowKit
set_option linter.unusedVariables false
set_option linter.unusedSimpArgs false

def textP : List UInt8 := [116, 101, 120, 116, 32]
def funcP : List UInt8 := [102, 117, 110, 99, 32]
def textLn (s : ByteArray) : List UInt8 := (textP ++ (34 :: (escs s.data.toList ++ [34]))) ++ [10]
def headLn (f : FnM) : List UInt8 := ((funcP ++ f.name.data.toList) ++ numsB [f.params, f.slots, f.caps]) ++ [10]
def insLn (l : List InsM) : List UInt8 := l.flatMap lineM
def funLn (f : FnM) : List UInt8 := headLn f ++ insLn f.ins
def showM (c : CodeM) : List UInt8 := c.texts.flatMap textLn ++ c.funcs.flatMap funLn
theorem flat_take {α : Type} {l : List α} {k : Nat} {a : α} (f : α → List UInt8) (h : l[k]? = some a) : (l.take (k + 1)).flatMap f = (l.take k).flatMap f ++ f a := by rw [List.take_add_one, h]; simp
theorem op_range {c : CodeM} {f : FnM} {i : InsM} (h : insM c f i = 0) : 0 ≤ i.op ∧ i.op < 42 := by
  unfold insM at h
  split at h
  · cases h
  · rename_i hf
    unfold formM at hf
    split at hf
    · omega
    · unfold fieldsM at hf
      split at hf
      · rename_i h0
        refine ⟨h0, ?_⟩
        rcases Nat.lt_or_ge i.op.toNat fieldTab.length with h1 | h1
        · have : fieldTab.length = 42 := rfl
          omega
        · rw [List.getElem?_eq_none h1] at hf
          exact absurd rfl hf
      · exact absurd rfl hf
theorem line_len {i : InsM} (ho : okI i.a ∧ okI i.b ∧ okI i.c ∧ okI i.d ∧ okI i.e) : (lineM i).length ≤ 130 := by
  have h1 := word_len i.op
  have h2 := nums_len [i.a, i.b, i.c, i.d, i.e] (by
    intro x hx
    simp at hx
    rcases hx with rfl | rfl | rfl | rfl | rfl
    · exact ho.1
    · exact ho.2.1
    · exact ho.2.2.1
    · exact ho.2.2.2.1
    · exact ho.2.2.2.2)
  have h3 : ([i.a, i.b, i.c, i.d, i.e] : List Int).length = 5 := rfl
  unfold lineM
  simp only [List.length_append, List.length_cons, List.length_nil]
  omega
theorem textLn_len {s : ByteArray} (h : s.size ≤ 200) : (textLn s).length ≤ 500 := by
  have h1 := escs_len s.data.toList
  have h2 : s.data.toList.length = s.size := by rw [Array.length_toList]; rfl
  unfold textLn textP
  simp only [List.length_append, List.length_cons, List.length_nil]
  omega
theorem name_size {s : ByteArray} (h : NamedP s) : s.size ≤ 8000 := by
  rcases h with h | ⟨l, t, h, _⟩
  · omega
  · exact h.placed.2.2
end Go.Proofs.YtiicdknmoakocaaDoor
namespace Go.Proofs.YtiicdknmoakocaaDoor
open Go.RowKit
set_option linter.unusedVariables false
set_option linter.unusedSimpArgs false

theorem wb_is (c : UInt8) (n : Int) (hc : (c.toNat : Int) = n) (B b : Nat) (l : List UInt8) (w : World) (h : IsB w B b l) (hlen : l.length + 1 ≤ 140737488355328) (hBw : B ≤ w.heap.size) : Calls Tryd.prog 21 #[.pointer (some ⟨b, 0, none⟩), .int .u8 n] w fun e w' => e = .returned .nilIface ∧ IsB w' B b (l ++ [c]) ∧ Below B w w' ∧ OthB b w w' := by
  rw [← hc]; exact wbyte_any B b l c w h hlen hBw
/-- What has been written, in a world behind W0. -/
structure ShI (W0 : World) (T : List UInt8) (N : Nat) (wr : World) : Prop where
  b : IsB wr W0.heap.size W0.heap.size T
  kp : Kp W0 wr
  le : T.length ≤ N
theorem ShI.put {W0 wr w' : World} {T : List UInt8} {N : Nat} (h : ShI W0 T N wr) {X : List UInt8} {M : Nat} (hs : IsB w' W0.heap.size W0.heap.size (T ++ X)) (hb : Below W0.heap.size wr w') (hX : N + X.length ≤ M) : ShI W0 (T ++ X) M w' :=
  ⟨hs, Below.trans h.kp hb, by have := h.le; rw [List.length_append]; omega⟩
theorem ShI.keep {W0 wr w' : World} {T : List UInt8} {N : Nat} (h : ShI W0 T N wr) (hk : Kp wr w') : ShI W0 T N w' := ⟨h.b.kp hk, h.kp.trans hk, h.le⟩
theorem ShI.mono {W0 wr : World} {T : List UInt8} {N M : Nat} (h : ShI W0 T N wr) (hN : N ≤ M) : ShI W0 T M wr := ⟨h.b, h.kp, by have := h.le; omega⟩
theorem ShI.ne {W0 wr : World} {T : List UInt8} {N b : Nat} (h : ShI W0 T N wr) (hb : W0.heap.size < b) : b ≠ W0.heap.size := by omega
theorem ShI.lt {W0 wr : World} {T : List UInt8} {N : Nat} (h : ShI W0 T N wr) : W0.heap.size < wr.heap.size := by
  rcases h.b with ⟨_, v, h9, _⟩ | ⟨_, v, h9, _⟩ <;> exact blk_lt h9
set_option maxRecDepth 20000 in
set_option maxHeartbeats 2000000 in
theorem show_err (w : World) (v : Value) (c : CodeM) (h : RdCode w v c) (hs : (soundM c).1 ≠ 0) : Calls Tryd.prog 8 #[v] w fun e w' => e = .returned (.tuple #[.string ⟨#[]⟩, .int .i64 (soundM c).1]) ∧ Kp w w' := by
  have HC := hid h
  obtain ⟨lf, lt, rfl, hf, hfl, ht, htl⟩ := h
  obtain ⟨Af, cf, rfl, _⟩ := hf.form
  obtain ⟨At, ct, rfl, _⟩ := ht.form
  clear hf hfl ht htl
  have HKA := hid (show Kp w (w.alloc (.cells #[.slice Af c.funcs.length cf, .slice At c.texts.length ct] 32)) from (Kp.refl _).alloc _)
  have HS := hid (sound_any _ _ c (HC.out.kp HKA.out))
  obtain ⟨s0, hs0⟩ : ∃ s, (soundM c).1 = s := ⟨_, rfl⟩
  obtain ⟨s1, hs1⟩ : ∃ s, (soundM c).2.1 = s := ⟨_, rfl⟩
  obtain ⟨s2, hs2⟩ : ∃ s, (soundM c).2.2 = s := ⟨_, rfl⟩
  rw [hs0, hs1, hs2] at HS
  rw [hs0] at hs ⊢
  unfold fixV at HS
  have t0 : (s0 != 0) = true := by simp [hs]
  have t1 : (s0 == 0) = false := by simp [hs]
  clear hs0 hs1 hs2 hs
  go_enter Tryd.func8, Tryd.ntmps8
  go_wp2_with (go_at_call 11; go_must (refine HS.out.mono ?_); rintro e w1 ⟨rfl, hk1⟩; have HK1 := hid (HKA.out.trans hk1); clear hk1)
  go_region
  all_goals
    go_wp2
    go_ret2
    exact ⟨rfl, (HK1.out.alloc _).drew⟩
theorem idx3 (i : Int) (k : Nat) (hik : i = k) (hk : k < 3) (x0 x1 x2 v : Value) (hv : #[x0, x1, x2][k]? = some v) (w : World) : Sem.run Tryd.prog (Instr.index 61 (.agg #[x0, x1, x2]) (.int .i64 i)) w = .ok v w := by
  subst hik
  have hi : (Tryd.prog.info? 3).map (·.size) = some 1 := by kernel_rfl
  cases h : Tryd.prog.info? 3 with
  | none => rw [h] at hi; cases hi
  | some i =>
    rw [h] at hi
    exact run_index_arr Tryd.underlying61 (by unfold Program.plainKey; rw [Tryd.underlying3]) h (by unfold Program.cellsOf; rw [h]; simpa using hi) _ k hk _ hv w
theorem text_bytes {s Q : ByteArray} (h : Q = ⟨(34 :: (escs s.data.toList ++ [34])).toArray⟩) : ((⟨#[116, 101, 120, 116, 32]⟩ : ByteArray) ++ Q ++ ⟨#[10]⟩).data.toList = textLn s := by
  rw [h, show (⟨#[116, 101, 120, 116, 32]⟩ : ByteArray) = ⟨textP.toArray⟩ from rfl, show (⟨#[10]⟩ : ByteArray) = ⟨([10] : List UInt8).toArray⟩ from rfl, bapp, bapp]
  rfl
theorem bsum (a b : ByteArray) : (a ++ b).size = a.size + b.size := ByteArray.size_append
theorem sh_round {W0 u : World} {n k : Nat} {P : Nat → World → Prop} (hk : k < n) (h : P (k + 1) u) :
    (∃ k' : Nat, k' ≤ n ∧ Value.int .i64 ((k : Int) + 1) = .int .i64 (k' : Int) ∧ P k' u) ∧ n - (intOf (Value.int .i64 ((k : Int) + 1))).toNat < n - (intOf (Value.int .i64 (k : Int))).toNat :=
  ⟨⟨k + 1, hk, by congr 1, h⟩, by simp only [intOf]; omega⟩
def s1M (c : CodeM) (k : Nat) : List UInt8 := (c.texts.take k).flatMap textLn
def s2M (c : CodeM) (k : Nat) : List UInt8 := c.texts.flatMap textLn ++ (c.funcs.take k).flatMap funLn
theorem func_bytes (s : ByteArray) : ((⟨#[102, 117, 110, 99, 32]⟩ : ByteArray) ++ s).data.toList = funcP ++ s.data.toList := by
  rw [ByteArray.data_append, Array.toList_append]; rfl
theorem func_len {s : ByteArray} {N : Nat} (h : s.size ≤ 8000) : N + (funcP ++ s.data.toList).length ≤ N + 8100 := by
  have h2 : s.data.toList.length = s.size := by rw [Array.length_toList]; rfl
  have h3 : funcP.length = 5 := rfl
  rw [List.length_append]; omega
theorem num_bytes (n : Int) : ((⟨#[32]⟩ : ByteArray) ++ tx n).data.toList = 32 :: Lib.itoa n := by
  rw [ByteArray.data_append, Array.toList_append]; rfl
theorem num_len {n : Int} {N M : Nat} (hz : (tx n).size ≤ 20) (h : N + 30 ≤ M) : N + (32 :: Lib.itoa n).length ≤ M := by
  have h2 : (Lib.itoa n).length ≤ 20 := hz
  rw [List.length_cons]; omega
set_option maxRecDepth 20000 in
set_option maxHeartbeats 16000000 in
theorem show_ok (w : World) (v : Value) (c : CodeM) (h : RdCode w v c) (hs : (soundM c).1 = 0) : Calls Tryd.prog 8 #[v] w fun e w' => e = .returned (.tuple #[.string ⟨(showM c).toArray⟩, .int .i64 0]) ∧ Kp w w' := by
  have HC := hid h
  obtain ⟨lf, lt, rfl, hf, hfl, ht, htl⟩ := h
  obtain ⟨Af, cf, rfl, _⟩ := hf.form
  obtain ⟨At, ct, rfl, _⟩ := ht.form
  have HF := hid hf; have HT := hid ht
  clear hf hfl ht htl
  have HKA := hid (show Kp w (w.alloc (.cells #[.slice Af c.funcs.length cf, .slice At c.texts.length ct] 32)) from (Kp.refl _).alloc _)
  have HBC := hid (blk_new w (.cells #[.slice Af c.funcs.length cf, .slice At c.texts.length ct] 32))
  have HS := hid (sound_any _ _ c (HC.out.kp HKA.out))
  obtain ⟨_, hn1, hn2, hte, hfe, hsd⟩ := sound_inv hs
  have HTE := hid hte; have HFE := hid hfe
  have HN1 := hid hn1; have HN2 := hid hn2
  rw [hsd] at HS
  unfold fixV at HS
  simp only at HS
  clear hs hsd hte hfe hn1 hn2
  go_enter Tryd.func8, Tryd.ntmps8
  go_upto_region 4 with (go_at_call 11; go_must (refine HS.out.mono ?_); rintro e w1 ⟨rfl, hk1⟩; have HK1 := hid hk1; clear hk1)
  have HK2 := hid (show Kp w (w1.alloc (.cells #[.int .i64 0, .int .i64 0, .int .i64 0] 38)) from (Kp.trans HKA.out HK1.out).alloc _)
  have HB2 := hid (blk_old ((HK1.out.block _ (blk_lt HBC.out)).trans HBC.out) (.cells #[.int .i64 0, .int .i64 0, .int .i64 0] 38))
  generalize (w1.alloc (.cells #[.int .i64 0, .int .i64 0, .int .i64 0] 38)) = W0 at HK2 HB2 ⊢
  clear HBC HK1 HKA HS
  go_upto_region 5 with fail
  have HI0 := hid (show ShI W0 [] 0 (W0.alloc (.cells #[.pointer none, .slice none 0 0] 52)) from ⟨IsB.new _, (Kp.refl _).alloc _, Nat.le_refl _⟩)
  have HTW := hid (HT.out.kp CeStr.kp HK2.out); have HFW := hid (HF.out.kp CeFn.kp HK2.out)
  generalize (W0.alloc (.cells #[.pointer none, .slice none 0 0] 52)) = W at HI0 ⊢
  have hbb := (HI0.out.kp.block _ (blk_lt HB2.out)).trans HB2.out
  have q1 := blk_cell (o := 1) (v := Value.slice At c.texts.length ct) hbb rfl
  go_wp2
  clear q1 hbb
  go_loopw [26] (fun i wr => ∃ k : Nat, k ≤ c.texts.length ∧ i = .int .i64 (k : Int) ∧ ShI W0 (s1M c k) (500 * k) wr) (fun i _ => c.texts.length - (intOf i).toNat)
  case atStart => exact ⟨0, by omega, rfl, HI0.out⟩
  case round =>
    obtain ⟨k, hk, rfl, hi⟩ := hrel
    have HI := hid hi
    by_cases hlt : k < c.texts.length
    · have i1 : (k : Int) < (c.texts.length : Int) := by omega
      have k1 : IntKind.i64.wrap ((k : Int) + 1) = (k : Int) + 1 := by have := HN2.out; rw [IntKind.wrap_i64]; omega
      obtain ⟨s, hs⟩ : ∃ s, c.texts[k]? = some s := ⟨_, List.getElem?_eq_getElem hlt⟩
      obtain ⟨b, off, rfl, hb, q0, _⟩ := at_str (HTW.out.kp CeStr.kp hi.kp) hs
      have hte := HTE.out k s hs
      obtain ⟨hsz, _⟩ : s.size ≤ 200 ∧ True := by
        rcases textE_cases s with ⟨_, h2, _⟩ | ⟨h2, _⟩
        · exact ⟨h2, trivial⟩
        · rw [hte] at h2; cases h2
      obtain ⟨Q, hQ⟩ : ∃ Q : ByteArray, Q = ⟨(34 :: (escs s.data.toList ++ [34])).toArray⟩ := ⟨_, rfl⟩
      have HQ := hid (fun w => quote_ok hte w)
      rw [← hQ] at HQ
      have HTB := hid (text_bytes hQ)
      have zq : Q.size ≤ 402 := by
        have h1 := escs_len s.data.toList
        have h2 : s.data.toList.length = s.size := by rw [Array.length_toList]; rfl
        rw [hQ, ba_size, List.length_cons, List.length_append, List.length_singleton]; omega
      have HZQ := hid zq
      have HNX := hid (show s1M c (k + 1) = s1M c k ++ textLn s from flat_take textLn hs)
      have HLN := hid (textLn_len hsz)
      have HKB := hid (show 500 * k ≤ 1000000 by have := HN2.out; omega)
      clear hs hte hsz hQ hi hk
      go_wp2_with first | (go_at_call 19; go_must (refine (HQ.out _).mono ?_); rintro e w2 ⟨rfl, hk2⟩; have HI2 := hid (HI.out.keep hk2); clear hk2) | (go_at_call 20; go_must (refine (wstr_any _ _ _ _ _ HI2.out.b (by rw [bsum, bsum]; have h1 := HI2.out.le; have h2 := HKB.out; have h3 := HZQ.out; show _ + (5 + Q.size + 1) ≤ _; omega) (Nat.le_of_lt HI2.out.lt)).mono ?_); rintro e w3 ⟨rfl, hs, hb, _⟩; have HI3 := hid (show ShI W0 (s1M c (k + 1)) (500 * (k + 1)) w3 by rw [HTB.out] at hs; rw [HNX.out]; exact HI2.out.put hs hb (by have := HLN.out; omega)); clear hs hb)
      exact sh_round (W0 := W0) (P := fun k u => ShI W0 (s1M c k) (500 * k) u) hlt HI3.out
    · obtain rfl : k = c.texts.length := by omega
      have i1 : ¬ (c.texts.length : Int) < (c.texts.length : Int) := by omega
      have HJ := hid (show ShI W0 (s2M c 0) 1000000 wr by
        have h := hi.mono (M := 1000000) (by have := HN2.out; omega)
        unfold s1M at h
        rw [List.take_length] at h
        unfold s2M
        rw [List.take_zero, List.flatMap_nil, List.append_nil]
        exact h)
      have hbb := (hi.kp.block _ (blk_lt HB2.out)).trans HB2.out
      have q0 := blk_cell (o := 0) (v := Value.slice Af c.funcs.length cf) hbb rfl
      clear hi hk hlt
      go_wp2
      clear q0 hbb
      go_loopw [43] (fun i wr => ∃ k : Nat, k ≤ c.funcs.length ∧ i = .int .i64 (k : Int) ∧ ShI W0 (s2M c k) (1000000 + 3000000 * k) wr) (fun i _ => c.funcs.length - (intOf i).toNat)
      case atStart => exact ⟨0, by omega, rfl, HJ.out⟩
      case round =>
        obtain ⟨k, hk, rfl, hi⟩ := hrel
        have HI := hid hi
        by_cases hlt : k < c.funcs.length
        · have i1 : (k : Int) < (c.funcs.length : Int) := by omega
          have k1 : IntKind.i64.wrap ((k : Int) + 1) = (k : Int) + 1 := by have := HN1.out; rw [IntKind.wrap_i64]; omega
          obtain ⟨f, hf⟩ : ∃ f, c.funcs[k]? = some f := ⟨_, List.getElem?_eq_getElem hlt⟩
          obtain ⟨b, off, rfl, hb, lins, q0, q1, q2, q3, q4, _, hp_, hs_, hc_, hins, hil⟩ := at_fn HFW.out hf
          have q0 := cell_kp hi.kp hb q0
          have q1 := cell_kp hi.kp hb q1
          have q2 := cell_kp hi.kp hb q2
          have q3 := cell_kp hi.kp hb q3
          have q4 := cell_kp hi.kp hb q4
          have hb := Nat.lt_of_lt_of_le hb hi.kp.le
          obtain ⟨Ai, ci, rfl, _⟩ := hins.form
          have hfe := HFE.out k f hf
          have hh := head_ok hfe.1
          have HNM := hid (name_size hh.1)
          have HIL := hid (show f.ins.length ≤ 20000 from hh.2.2.2.2.2.2.2.2.2)
          have HINW := hid hins
          have HIE := hid (fun j i h => op_range (hfe.2.1 j i h))
          have HNX := hid (show s2M c (k + 1) = s2M c k ++ funLn f by unfold s2M; rw [flat_take funLn hf, List.append_assoc])
          have HKB := hid (show 1000000 + 3000000 * k ≤ 1300000000 by have := HN1.out; omega)
          have HP1 := hid hp_; have HP2 := hid hs_; have HP3 := hid hc_
          have zp := tx_size _ hp_; have zs := tx_size _ hs_; have zc := tx_size _ hc_
          clear hf hins hfe hh hil hp_ hs_ hc_ hk
          go_upto_region 14 with fail
          have HBX := hid (blk_new wr (.cells #[.string f.name, .int .i64 f.params, .int .i64 f.slots, .int .i64 f.caps, .slice Ai f.ins.length ci] 60))
          have HKX := hid (show Kp wr (wr.alloc (.cells #[.string f.name, .int .i64 f.params, .int .i64 f.slots, .int .i64 f.caps, .slice Ai f.ins.length ci] 60)) from (Kp.refl _).alloc _)
          have HXN := hid (show wr.heap.size ≠ W0.heap.size by have := hi.lt; omega)
          have HI2 := hid (hi.keep HKX.out)
          generalize (wr.alloc (.cells #[.string f.name, .int .i64 f.params, .int .i64 f.slots, .int .i64 f.caps, .slice Ai f.ins.length ci] 60)) = W2 at HBX HKX HI2 ⊢
          generalize wr.heap.size = xb at HBX HXN ⊢
          clear q0 q1 q2 q3 q4 hi HKX
          have y0 := blk_cell (o := 0) (v := .string f.name) HBX.out rfl
          go_upto_region 15 with (go_at_call 20; go_must (refine (wstr_any _ _ _ _ _ HI2.out.b (by rw [bsum]; have h1 := HI2.out.le; have h2 := HKB.out; have h3 := HNM.out; show _ + (5 + f.name.size) ≤ _; omega) (Nat.le_of_lt HI2.out.lt)).mono ?_); rintro e w3 ⟨rfl, hs, hb, ho⟩; have HBX3 := hid (ho _ _ HXN.out HBX.out (fun cs fr e => by injection e with _ h9 _; exact absurd h9 (by decide))); have HI3 := hid (show ShI W0 (s2M c k ++ (funcP ++ f.name.data.toList)) (1000000 + 3000000 * k + 8100) w3 by rw [func_bytes] at hs; exact HI2.out.put hs hb (func_len HNM.out)); clear hs hb ho)
          clear y0
          have y1 := blk_cell (o := 1) (v := .int .i64 f.params) HBX3.out rfl
          have y2 := blk_cell (o := 2) (v := .int .i64 f.slots) HBX3.out rfl
          have y3 := blk_cell (o := 3) (v := .int .i64 f.caps) HBX3.out rfl
          go_wp2
          clear y1 y2 y3
          have HI30 := hid (show ShI W0 ((s2M c k ++ (funcP ++ f.name.data.toList)) ++ numsB (([f.params, f.slots, f.caps] : List Int).take 0)) (1000000 + 3000000 * k + 8100 + 30 * 0) w3 by
            have h : numsB (([f.params, f.slots, f.caps] : List Int).take 0) = [] := rfl
            rw [h, List.append_nil]; exact HI3.out)
          have HBX30 := HBX3
          clear HI3 HBX3
          go_loopw [58] (fun i wr => ∃ j : Nat, j ≤ 3 ∧ i = .int .i64 (j : Int) ∧ ShI W0 ((s2M c k ++ (funcP ++ f.name.data.toList)) ++ numsB (([f.params, f.slots, f.caps] : List Int).take j)) (1000000 + 3000000 * k + 8100 + 30 * j) wr ∧ wr.heap[xb]? = some (.cells #[.string f.name, .int .i64 f.params, .int .i64 f.slots, .int .i64 f.caps, .slice Ai f.ins.length ci] 60 (0, 0))) (fun i _ => 3 - (intOf i).toNat)
          case atStart => exact ⟨0, by omega, rfl, HI30.out, HBX30.out⟩
          case round =>
            obtain ⟨j, hj, rfl, hi3, hbx3⟩ := hrel
            have HI3 := hid hi3; have HBX3 := hid hbx3
            clear hi3 hbx3
            have hcase : j = 0 ∨ j = 1 ∨ j = 2 ∨ j = 3 := by omega
            rcases hcase with rfl | rfl | rfl | rfl
            · have hix := fun w => idx3 0 0 rfl (by omega) (.int .i64 f.params) (.int .i64 f.slots) (.int .i64 f.caps) _ rfl w
              go_wp2_with first | (go_at_call 15; go_must (refine (tx_any _ _ HP1.out).mono ?_); rintro e w4 ⟨rfl, hk4⟩; have HI4 := hid (HI3.out.keep hk4); have HBX4 := hid ((hk4.block _ (blk_lt HBX3.out)).trans HBX3.out); clear hk4) | (go_at_call 20; go_must (refine (wstr_any _ _ _ _ _ HI4.out.b (by rw [bsum]; have h1 := HI4.out.le; have h2 := HKB.out; show _ + (1 + (tx _).size) ≤ _; omega) (Nat.le_of_lt HI4.out.lt)).mono ?_); rintro e w5 ⟨rfl, hs, hb, ho⟩; have HBX5 := hid (ho _ _ HXN.out HBX4.out (fun cs fr e => by injection e with _ h9 _; exact absurd h9 (by decide))); have HI5 := hid (show ShI W0 ((s2M c k ++ (funcP ++ f.name.data.toList)) ++ numsB (([f.params, f.slots, f.caps] : List Int).take (0 + 1))) (1000000 + 3000000 * k + 8100 + 30 * (0 + 1)) w5 by rw [num_bytes] at hs; rw [List.take_add_one, show ([f.params, f.slots, f.caps] : List Int)[0]? = some f.params from rfl]; show ShI W0 (_ ++ numsB (_ ++ [f.params])) _ _; rw [numsB_snoc, ← List.append_assoc]; exact HI4.out.put hs hb (num_len (by assumption) (by omega))); clear hs hb ho)
              exact ⟨⟨1, by omega, rfl, HI5.out, HBX5.out⟩, by simp [intOf]⟩
            · have hix := fun w => idx3 1 1 rfl (by omega) (.int .i64 f.params) (.int .i64 f.slots) (.int .i64 f.caps) _ rfl w
              go_wp2_with first | (go_at_call 15; go_must (refine (tx_any _ _ HP2.out).mono ?_); rintro e w4 ⟨rfl, hk4⟩; have HI4 := hid (HI3.out.keep hk4); have HBX4 := hid ((hk4.block _ (blk_lt HBX3.out)).trans HBX3.out); clear hk4) | (go_at_call 20; go_must (refine (wstr_any _ _ _ _ _ HI4.out.b (by rw [bsum]; have h1 := HI4.out.le; have h2 := HKB.out; show _ + (1 + (tx _).size) ≤ _; omega) (Nat.le_of_lt HI4.out.lt)).mono ?_); rintro e w5 ⟨rfl, hs, hb, ho⟩; have HBX5 := hid (ho _ _ HXN.out HBX4.out (fun cs fr e => by injection e with _ h9 _; exact absurd h9 (by decide))); have HI5 := hid (show ShI W0 ((s2M c k ++ (funcP ++ f.name.data.toList)) ++ numsB (([f.params, f.slots, f.caps] : List Int).take (1 + 1))) (1000000 + 3000000 * k + 8100 + 30 * (1 + 1)) w5 by rw [num_bytes] at hs; rw [List.take_add_one, show ([f.params, f.slots, f.caps] : List Int)[1]? = some f.slots from rfl]; show ShI W0 (_ ++ numsB (_ ++ [f.slots])) _ _; rw [numsB_snoc, ← List.append_assoc]; exact HI4.out.put hs hb (num_len (by assumption) (by omega))); clear hs hb ho)
              exact ⟨⟨2, by omega, rfl, HI5.out, HBX5.out⟩, by simp [intOf]⟩
            · have hix := fun w => idx3 2 2 rfl (by omega) (.int .i64 f.params) (.int .i64 f.slots) (.int .i64 f.caps) _ rfl w
              go_wp2_with first | (go_at_call 15; go_must (refine (tx_any _ _ HP3.out).mono ?_); rintro e w4 ⟨rfl, hk4⟩; have HI4 := hid (HI3.out.keep hk4); have HBX4 := hid ((hk4.block _ (blk_lt HBX3.out)).trans HBX3.out); clear hk4) | (go_at_call 20; go_must (refine (wstr_any _ _ _ _ _ HI4.out.b (by rw [bsum]; have h1 := HI4.out.le; have h2 := HKB.out; show _ + (1 + (tx _).size) ≤ _; omega) (Nat.le_of_lt HI4.out.lt)).mono ?_); rintro e w5 ⟨rfl, hs, hb, ho⟩; have HBX5 := hid (ho _ _ HXN.out HBX4.out (fun cs fr e => by injection e with _ h9 _; exact absurd h9 (by decide))); have HI5 := hid (show ShI W0 ((s2M c k ++ (funcP ++ f.name.data.toList)) ++ numsB (([f.params, f.slots, f.caps] : List Int).take (2 + 1))) (1000000 + 3000000 * k + 8100 + 30 * (2 + 1)) w5 by rw [num_bytes] at hs; rw [List.take_add_one, show ([f.params, f.slots, f.caps] : List Int)[2]? = some f.caps from rfl]; show ShI W0 (_ ++ numsB (_ ++ [f.caps])) _ _; rw [numsB_snoc, ← List.append_assoc]; exact HI4.out.put hs hb (num_len (by assumption) (by omega))); clear hs hb ho)
              exact ⟨⟨3, by omega, rfl, HI5.out, HBX5.out⟩, by simp [intOf]⟩
            · go_upto_region 21 with (go_at_call 21; go_must (refine (wb_is 10 10 rfl _ _ _ _ HI3.out.b (by have h1 := HI3.out.le; have h2 := HKB.out; omega) (Nat.le_of_lt HI3.out.lt)).mono ?_); rintro e w6 ⟨rfl, hs, hb, ho⟩; have HBX6 := hid (ho _ _ HXN.out HBX3.out (fun cs fr e => by injection e with _ h9 _; exact absurd h9 (by decide))); have HI6 := hid (show ShI W0 (s2M c k ++ headLn f) (1000000 + 3000000 * k + 8300) w6 by have h := HI3.out.put (M := 1000000 + 3000000 * k + 8300) hs hb (by show _ + 1 ≤ _; omega); rw [List.append_assoc, List.append_assoc] at h; unfold headLn; rw [List.append_assoc]; exact h); clear hs hb ho)
              have y4 := blk_cell (o := 4) (v := .slice Ai f.ins.length ci) HBX6.out rfl
              go_wp2
              clear y4
              have HI60 := hid (show ShI W0 ((s2M c k ++ headLn f) ++ insLn (f.ins.take 0)) (1000000 + 3000000 * k + 8300 + 130 * 0) w6 by
                have h : insLn (f.ins.take 0) = [] := rfl
                rw [h, List.append_nil]; exact HI6.out)
              go_loopw [70] (fun i wr => ∃ a : Nat, a ≤ f.ins.length ∧ i = .int .i64 (a : Int) ∧ ShI W0 ((s2M c k ++ headLn f) ++ insLn (f.ins.take a)) (1000000 + 3000000 * k + 8300 + 130 * a) wr) (fun i _ => f.ins.length - (intOf i).toNat)
              case atStart => exact ⟨0, by omega, rfl, HI60.out⟩
              case round =>
                obtain ⟨a, ha, rfl, hi7⟩ := hrel
                have HI7 := hid hi7
                by_cases hla : a < f.ins.length
                · have i3 : (a : Int) < (f.ins.length : Int) := by omega
                  have k3 : IntKind.i64.wrap ((a : Int) + 1) = (a : Int) + 1 := by have := HIL.out; rw [IntKind.wrap_i64]; omega
                  obtain ⟨x, hx⟩ : ∃ x, f.ins[a]? = some x := ⟨_, List.getElem?_eq_getElem hla⟩
                  obtain ⟨ib, io, rfl, hib, p0, p1, p2, p3, p4, p5, _, oa, ob, oc, od, oe⟩ := at_ins (HINW.out.kp CeIns.kp hi7.kp) hx
                  obtain ⟨r0, r1⟩ := HIE.out a x hx
                  have HLX := hid (fun w => line_any x r0 r1 ⟨oa, ob, oc, od, oe⟩ w)
                  have HLL := hid (line_len (i := x) ⟨oa, ob, oc, od, oe⟩)
                  obtain ⟨X, hX⟩ : ∃ X : ByteArray, (⟨(lineM x).toArray⟩ : ByteArray) = X := ⟨_, rfl⟩
                  rw [hX] at HLX
                  have HXS := hid (show X.size = (lineM x).length ∧ X.data.toList = lineM x by rw [← hX]; exact ⟨ba_size _, rfl⟩)
                  have HNL := hid (show insLn (f.ins.take (a + 1)) = insLn (f.ins.take a) ++ lineM x from flat_take lineM hx)
                  have HAB := hid (show 130 * a ≤ 2600000 by have := HIL.out; omega)
                  clear hx r0 r1 oa ob oc od oe hX ha
                  go_upto_region 24 with fail
                  have HI8 := hid (hi7.keep (show Kp wr (wr.alloc (.cells #[.int .i64 x.op, .int .i64 x.a, .int .i64 x.b, .int .i64 x.c, .int .i64 x.d, .int .i64 x.e] 64)) from (Kp.refl _).alloc _))
                  have HBI := hid (blk_new wr (.cells #[.int .i64 x.op, .int .i64 x.a, .int .i64 x.b, .int .i64 x.c, .int .i64 x.d, .int .i64 x.e] 64))
                  clear p0 p1 p2 p3 p4 p5 hi7
                  generalize (wr.alloc (.cells #[.int .i64 x.op, .int .i64 x.a, .int .i64 x.b, .int .i64 x.c, .int .i64 x.d, .int .i64 x.e] 64)) = W3 at HI8 HBI ⊢
                  generalize wr.heap.size = nb at HBI ⊢
                  have z0 := blk_cell (o := 0) (v := .int .i64 x.op) HBI.out rfl
                  have z1 := blk_cell (o := 1) (v := .int .i64 x.a) HBI.out rfl
                  have z2 := blk_cell (o := 2) (v := .int .i64 x.b) HBI.out rfl
                  have z3 := blk_cell (o := 3) (v := .int .i64 x.c) HBI.out rfl
                  have z4 := blk_cell (o := 4) (v := .int .i64 x.d) HBI.out rfl
                  have z5 := blk_cell (o := 5) (v := .int .i64 x.e) HBI.out rfl
                  go_wp2_with first | (go_at_call 22; go_must (refine (HLX.out _).mono ?_); rintro e w8 ⟨rfl, hk8⟩; have HI9 := hid (HI8.out.keep hk8); clear hk8 z0 z1 z2 z3 z4 z5) | (go_at_call 20; go_must (refine (wstr_any _ _ _ _ _ HI9.out.b (by have h1 := HI9.out.le; have h2 := HKB.out; have h3 := HLL.out; have h4 := HXS.out.1; have h5 := HAB.out; omega) (Nat.le_of_lt HI9.out.lt)).mono ?_); rintro e w9 ⟨rfl, hs, hb, _⟩; have HI10 := hid (show ShI W0 ((s2M c k ++ headLn f) ++ insLn (f.ins.take (a + 1))) (1000000 + 3000000 * k + 8300 + 130 * (a + 1)) w9 by rw [HXS.out.2] at hs; rw [HNL.out, ← List.append_assoc]; exact HI9.out.put hs hb (by have := HLL.out; omega)); clear hs hb)
                  exact sh_round (W0 := W0) (P := fun a u => ShI W0 ((s2M c k ++ headLn f) ++ insLn (f.ins.take a)) (1000000 + 3000000 * k + 8300 + 130 * a) u) hla HI10.out
                · obtain rfl : a = f.ins.length := by omega
                  have i3 : ¬ (f.ins.length : Int) < (f.ins.length : Int) := by omega
                  have HJ9 := hid (show ShI W0 (s2M c (k + 1)) (1000000 + 3000000 * (k + 1)) wr by
                    rw [List.take_length] at hi7
                    rw [HNX.out]
                    unfold funLn
                    rw [← List.append_assoc]
                    exact hi7.mono (by have := HIL.out; omega))
                  clear hi7 hla ha
                  go_wp2
                  exact sh_round (W0 := W0) (P := fun k u => ShI W0 (s2M c k) (1000000 + 3000000 * k) u) hlt HJ9.out
        · obtain rfl : k = c.funcs.length := by omega
          have i1 : ¬ (c.funcs.length : Int) < (c.funcs.length : Int) := by omega
          have HE := hid (show s2M c c.funcs.length = showM c by unfold s2M showM; rw [List.take_length])
          rw [HE.out] at hi
          have HI9 := hid hi
          have HKW := hid (HK2.out.trans hi.kp)
          have HLW := hid (Nat.le_trans HK2.out.le (Nat.le_refl _))
          have HST := hid (bstr_any _ _ _ _ HI9.out.b (Nat.le_of_lt HI9.out.lt))
          clear hi hk hlt HE
          go_wp2_with (go_at_call 23; go_must (refine HST.out.mono ?_); rintro e w9 ⟨rfl, hb⟩; have HB9 := hid hb; clear hb)
          go_ret2
          exact ⟨rfl, Below.trans HKW.out (Below.mono HB9.out HK2.out.le)⟩
end Go.Proofs.YtiicdknmoakocaaDoor
