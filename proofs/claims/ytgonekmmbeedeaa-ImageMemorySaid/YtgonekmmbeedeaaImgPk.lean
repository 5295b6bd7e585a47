/-
Package image: Sum, and the writer's methods. Condition: what comes in lies within the reach.
Package image: Pack. Condition: what comes in lies within the reach.
-/
import Derived.Test.YtgonekmmbeedeaaImgP
import Derived.Test.YtgonekmmbeedeaaSoundS
import Derived.Test.YtgonekmmbeedeaaRow
import Derived.Test.YtgonekmmbeedeaaBox
import Derived.Test.YtgonekmmbeedeaaInts
import Derived.Lib.AppendStr
import Derived.Deep.DeepCutAuto
namespace Go.Proofs.Ytgonekmmbeedeaa
open Go.RowKit
set_option linter.unusedVariables false
set_option linter.unusedSimpArgs false

theorem i64_join (a b : Nat) (hb : b < 65536) (ha : a < 65536) : bits .or .i64 ((a : Int) * 65536) (b : Int) = ((a * 65536 + b : Nat) : Int) := by
  have h1 := u64_or_nat (a * 65536) b (by omega) (by omega)
  rw [nat_join 16 (a * 65536) b (by omega) (by omega)] at h1
  have e : ∀ x y : Int, bits .or .i64 x y = IntKind.i64.wrap (bits .or .u64 x y) := by
    intro x y
    show IntKind.i64.wrap ((BitVec.ofInt 64 x ||| BitVec.ofInt 64 y).toNat : Int) = IntKind.i64.wrap (IntKind.u64.wrap ((BitVec.ofInt 64 x ||| BitVec.ofInt 64 y).toNat : Int))
    generalize (BitVec.ofInt 64 x ||| BitVec.ofInt 64 y).toNat = n
    rw [IntKind.wrap_i64, IntKind.wrap_i64, IntKind.wrap_u64]; omega
  rw [e]
  have e2 : ((a : Int) * 65536) = ((a * 65536 : Nat) : Int) := by omega
  rw [e2, h1, IntKind.wrap_i64]; omega
theorem sumGo_take {bs : List UInt8} {k : Nat} (h : k < bs.length) : sumGo (1, 0) (bs.take (k + 1)) = (((sumGo (1, 0) (bs.take k)).1 + (bs.getD k 0).toNat) % 65521, ((sumGo (1, 0) (bs.take k)).2 + ((sumGo (1, 0) (bs.take k)).1 + (bs.getD k 0).toNat) % 65521) % 65521) := by
  have e : bs.take (k + 1) = bs.take k ++ [bs.getD k 0] := by
    rw [List.take_add_one]; simp [List.getD, List.getElem?_eq_getElem h]
  rw [e, sumGo_append]; rfl
set_option maxRecDepth 20000 in
set_option maxHeartbeats 4000000 in
theorem sum_any (v : Value) (bs : List UInt8) (w : World) (h : RdBytes w v bs) : Calls Try.prog 28 #[v] w fun e w' => e = .returned (.int .i64 (sumM bs : Nat)) ∧ w = w' := by
  obtain ⟨hl, A, cap, rfl, hcap, hcell⟩ := h
  have HCELL := hid hcell; clear hcell
  go_enter Try.func28, Try.ntmps28
  go_wp2
  go_loop [3, 4, 9] (fun x y i => ∃ k a b : Nat, k ≤ bs.length ∧ i = .int .i64 (k : Int) ∧ x = .int .i64 (a : Int) ∧ y = .int .i64 (b : Int) ∧ sumGo (1, 0) (bs.take k) = (a, b)) (fun _ _ i => bs.length - (intOf i).toNat)
  case atStart => exact ⟨0, 1, 0, by omega, rfl, rfl, rfl, rfl⟩
  case round =>
    obtain ⟨k, a, b, hk, rfl, rfl, rfl, hs⟩ := hrel
    have hlt65 := sumGo_lt (bs.take k) (1, 0) (by simp) (by simp)
    rw [hs] at hlt65
    simp only at hlt65
    have HS := hid hs
    by_cases hlt : k < bs.length
    · obtain ⟨bb, off, rfl, hb, hcA⟩ := HCELL.out (by omega)
      have hc := hcA k hlt
      obtain ⟨c, hcc⟩ : ∃ c, (bs.getD k 0).toNat = c := ⟨_, rfl⟩
      have hc256 : c < 256 := by rw [← hcc]; exact UInt8.toNat_lt _
      have HCC := hid hcc
      unfold byteV at hc
      rw [hcc] at hc
      have i1 : (k : Int) < (bs.length : Int) := by omega
      have k1 : IntKind.i64.wrap ((k : Int) + 1) = (k : Int) + 1 := by rw [IntKind.wrap_i64]; omega
      have k2 : IntKind.i64.wrap ((a : Int) + (c : Int)) = (a : Int) + (c : Int) := by rw [IntKind.wrap_i64]; omega
      have k3 : IntKind.i64.wrap ((b : Int) + ((a : Int) + (c : Int)) % 65521) = (b : Int) + ((a : Int) + (c : Int)) % 65521 := by rw [IntKind.wrap_i64]; omega
      have HN := hid (sumGo_take hlt)
      clear hcc hb HCELL hcA hs
      go_wp2
      go_round
      case rel =>
        have hN := HN.out
        rw [HS.out, HCC.out] at hN
        exact ⟨k + 1, (a + c) % 65521, (b + (a + c) % 65521) % 65521, by omega, by congr 1, congrArg (Value.int .i64) (by omega), congrArg (Value.int .i64) (by omega), hN⟩
      case measure => simp [intOf]; omega
    · have i1 : ¬ (k : Int) < (bs.length : Int) := by omega
      have hR : sumM bs = b * 65536 + a := by
        unfold sumM
        rw [List.take_of_length_le (by omega)] at hs
        rw [hs]
      have HR := hid hR
      have k1 : IntKind.i64.wrap ((b : Int) * 65536) = (b : Int) * 65536 := by rw [IntKind.wrap_i64]; omega
      have k2 := i64_join b a (by omega) (by omega)
      clear hR hs
      go_wp2
      go_ret
      exact ⟨ret_int (a := (b : Int) * 65536 + (a : Int)) (by rw [HR.out]; omega), rfl⟩
theorem encN_len {n : Int} (h : okI n) : (encN n).length ≤ 10 := enc7_len 9 (zig n) (by have := zig_lt n h; omega)
theorem encs_len : ∀ (l : List Int), (∀ x ∈ l, okI x) → (encs l).length ≤ 10 * l.length
  | [], _ => by simp [encs]
  | x :: l, h => by
    have h1 := encN_len (h x (List.mem_cons_self ..))
    have h2 := encs_len l (fun y hy => h y (List.mem_cons_of_mem _ hy))
    unfold encs at h2 ⊢
    rw [List.map_cons, List.flatten_cons, List.length_append, List.length_cons]; omega
theorem encs_take {l : List Int} {k : Nat} {n : Int} (h : l[k]? = some n) : encs (l.take (k + 1)) = encs (l.take k) ++ encN n := by
  unfold encs
  rw [List.take_add_one, h, List.map_append, List.flatten_append]; simp
theorem encs_one (n : Int) : encs [n] = encN n := by unfold encs; rw [List.map_cons, List.map_nil, List.flatten_cons, List.flatten_nil, List.append_nil]
theorem encT_len (bs : List UInt8) (s : ByteArray) : bs.length + (encs [(s.size : Int)]).length + s.size = (bs ++ encT s).length := by
  have h : s.data.toList.length = s.size := by rw [Array.length_toList]; rfl
  unfold encT
  rw [encs_one, List.length_append, List.length_append, h, Nat.add_assoc]
/-- The writer's box. -/
abbrev WrB (w : World) (wb : Nat) (v : Value) : Prop := w.heap[wb]? = some (.cells #[v] 67 (0, 0))
theorem WrB.set {w : World} {wb : Nat} {v : Value} (h : WrB w wb v) (u : Value) : WrB (w.setCell ⟨wb, 0, none⟩ u) wb u := blk_set h u
theorem OwnB.setCell {w : World} {base : Nat} {v : Value} {bs : List UInt8} (h : OwnB w base v bs) {p : Addr} (hp : p.block < base) (u : Value) : OwnB (w.setCell p u) base v bs := ownsRow_setCell_below h hp u
/-- The state of numbers' loop. -/
structure NsI (w : World) (wb : Nat) (bs : List UInt8) (l : List Int) (v0 : Value) (k : Nat) (wr : World) (v : Value) : Prop where
  blk : WrB wr wb v
  rd : RdBytes wr v (bs ++ encs (l.take k))
  own : 0 < k → OwnB wr w.heap.size v (bs ++ encs (l.take k))
  grown : w.grownBy wr (some wb)
theorem ns_round {w u : World} {wb : Nat} {bs : List UInt8} {l : List Int} {v0 v : Value} {k : Nat} (hk : k < l.length) (h : NsI w wb bs l v0 (k + 1) u v) :
    (∃ (k1 : Nat) (v1 : Value), k1 ≤ l.length ∧ Value.int .i64 ((k : Int) + 1) = .int .i64 (k1 : Int) ∧ NsI w wb bs l v0 k1 u v1) ∧ l.length - (intOf (.int .i64 ((k : Int) + 1))).toNat < l.length - (intOf (.int .i64 (k : Int))).toNat :=
  ⟨⟨k + 1, v, hk, by congr 1, h⟩, by simp only [intOf, Int.toNat_natCast]; omega⟩
set_option maxRecDepth 20000 in
set_option maxHeartbeats 4000000 in
theorem numbers_any (w : World) (wb g cc : Nat) (v : Value) (bs : List UInt8) (l : List Int) (cs : Array Value) (T : TypeId) (fr : Nat × Nat) (hb : WrB w wb v) (hr : RdBytes w v bs) (hg : w.heap[g]? = some (.cells cs T fr)) (hcs : ∀ (k : Nat) (n : Int), l[k]? = some n → cs[k]? = some (Value.int .i64 n)) (hgw : g ≠ wb) (hok : ∀ x ∈ l, okI x) (hne : 0 < l.length) (hl63 : l.length ≤ 1000) (hsz : bs.length + 10 * l.length + 10 ≤ 140737488355328) :
    Calls Try.prog 26 #[.pointer (some ⟨wb, 0, none⟩), .slice (some ⟨g, 0, none⟩) l.length cc] w fun e w' => e = .returned (.tuple #[]) ∧ (∃ v', WrB w' wb v' ∧ OwnB w' w.heap.size v' (bs ++ encs l)) ∧ w.grownBy w' (some wb) := by
  have HB := hid hb; have HR := hid hr; have HG := hid hg; have HCS := hid hcs; have HSZ := hid hsz; have HOK := hid hok
  clear hb hr hg hcs hsz hok
  go_enter Try.func26, Try.ntmps26
  go_wp2
  go_loopw [8] (fun x wr => ∃ (k : Nat) (v1 : Value), k ≤ l.length ∧ x = .int .i64 (k : Int) ∧ NsI w wb bs l v k wr v1) (fun x _ => l.length - (intOf x).toNat)
  case atStart => exact ⟨0, v, by omega, rfl, ⟨HB.out, by simpa [encs] using HR.out, fun h => absurd h (Nat.lt_irrefl _), World.grownBy.refl _ _⟩⟩
  case round =>
    obtain ⟨k, v1, hk, rfl, hns⟩ := hrel
    have HNS := hid hns
    have b0 := hns.blk
    have c0 := blk_cell (o := 0) (v := v1) b0 rfl
    have f0 := blk_free (o := 0) b0
    have hbl := blk_lt b0
    have hgb := grown_blk hns.grown HG.out (by intro e; injection e with e; exact hgw e)
    by_cases hlt : k < l.length
    · have i1 : (k : Int) < (l.length : Int) := by omega
      have k1 := wrap_in ((k : Int) + 1) (by omega)
      obtain ⟨n, hn⟩ : ∃ n, l[k]? = some n := ⟨_, List.getElem?_eq_getElem hlt⟩
      have d0 : wr.cell? ⟨g, k, none⟩ = some (.int .i64 n) := blk_cell hgb (HCS.out k n hn)
      have HN := hid hn
      have hnk := HOK.out n (List.mem_of_getElem? hn)
      have hcur : (bs ++ encs (l.take k)).length + 10 ≤ 140737488355328 := by
        have h1 := encs_len (l.take k) (fun x hx => HOK.out x (List.mem_of_mem_take hx))
        have h2 : (l.take k).length = k := by rw [List.length_take]; omega
        have := HSZ.out
        rw [List.length_append]; omega
      have HCUR := hid hcur
      have HNK := hid hnk
      clear hns b0 hn hnk hcur hgb
      go_wp2_with (go_at_call 8; go_must (refine (imgNum_any v1 _ n _ HNS.out.rd HNK.out HCUR.out).mono ?_); rintro e w9 ⟨⟨v2, rfl, hown⟩, hk9⟩; obtain ⟨A2, cp2, rfl⟩ := own_form hown; unfold OwnB at hown; generalize hNN : (bs ++ encs (l.take k) ++ enc7 (zig n)).length = N at hown ⊢; have HNN := hid hNN; clear hNN; have HOWN := hid hown; have HK9 := hid hk9; have HB9 := hid ((hk9.block _ (blk_lt HNS.out.blk)).trans HNS.out.blk); have e0 := blk_cell (o := 0) (v := v1) HB9.out rfl; have ef := blk_free (o := 0) HB9.out; clear hown hk9)
      have hob := ownsRow_setCell_below HOWN.out (a := ⟨wb, 0, none⟩) (blk_lt HNS.out.blk) (.slice A2 N cp2)
      have hgr : w.grownBy (w9.setCell ⟨wb, 0, none⟩ (.slice A2 N cp2)) (some wb) := (HNS.out.grown.trans (grown_kp HK9.out _)).trans (grown_setCell _)
      have he : (bs ++ encs (l.take k)) ++ enc7 (zig n) = bs ++ encs (l.take (k + 1)) := by rw [encs_take HN.out, List.append_assoc]; rfl
      have hNN := HNN.out
      rw [he] at hob hNN
      have hob : OwnB (w9.setCell ⟨wb, 0, none⟩ (.slice A2 N cp2)) wr.heap.size (.slice A2 N cp2) (bs ++ encs (l.take (k + 1))) := by unfold OwnB; rw [hNN]; exact hob
      have hln : (bs ++ encs (l.take (k + 1))).length ≤ 140737488355328 := by
        have h1 := encs_len (l.take (k + 1)) (fun x hx => HOK.out x (List.mem_of_mem_take hx))
        have h2 : (l.take (k + 1)).length = k + 1 := by rw [List.length_take]; omega
        have := HSZ.out
        rw [List.length_append]; omega
      exact ns_round hlt ⟨WrB.set HB9.out _, RdBytes.of_own hob hln, fun _ => own_base HNS.out.grown.size hob, hgr⟩
    · have i1 : ¬ (k : Int) < (l.length : Int) := by omega
      obtain rfl : k = l.length := by omega
      have HFIN := hid (HNS.out.own hne)
      rw [List.take_length] at HFIN
      clear hns b0 hgb
      go_wp2
      first | go_end0 | refine bodyPost_ret (results_none rfl _ _ _) rfl ?_
      exact ⟨rfl, ⟨v1, HNS.out.blk, HFIN.out⟩, HNS.out.grown⟩
set_option maxRecDepth 20000 in
set_option maxHeartbeats 4000000 in
theorem wtext_any (w : World) (wb : Nat) (v : Value) (bs : List UInt8) (s : ByteArray) (hb : WrB w wb v) (hr : RdBytes w v bs) (hsz : bs.length + s.size + 30 ≤ 140737488355328) :
    Calls Try.prog 27 #[.pointer (some ⟨wb, 0, none⟩), .string s] w fun e w' => e = .returned (.tuple #[]) ∧ (∃ v', WrB w' wb v' ∧ OwnB w' w.heap.size v' (bs ++ encT s)) ∧ w.grownBy w' (some wb) := by
  have HB := hid hb; have HR := hid hr; have HSZ := hid hsz
  have hbl := blk_lt hb
  obtain ⟨i0, hi, hz0, hz1, hz2⟩ := info_parts (show (Try.prog.info? 5).map (fun i => (i.zero, i.size, i.bytes)) = some (some (.int .u8 0), 1, 1) by kernel_rfl)
  have hEL := encs_len [(s.size : Int)] (fun x hx => by rw [List.mem_singleton] at hx; rw [hx]; unfold okI; omega)
  have HEL := hid hEL
  clear hb hr hsz hEL
  go_enter Try.func27, Try.ntmps27
  go_wp2_with first | (go_at_call 26; go_must (refine (numbers_any (w.alloc (.cells #[.int .i64 (s.size : Int)] 3)) wb w.heap.size 1 v bs [(s.size : Int)] #[.int .i64 (s.size : Int)] 3 (0, 0) (blk_old HB.out _) (HR.out.kp ((Kp.refl _).alloc _)) (blk_new _ _) (fun k n h => by rcases k with _ | k <;> simp at h ⊢; exact h) (by have := blk_lt HB.out; omega) (fun x hx => by rw [List.mem_singleton] at hx; rw [hx]; unfold okI; have := HSZ.out; omega) (by simp) (by simp) (by have := HSZ.out; simp; omega)).mono ?_); rintro e w9 ⟨rfl, ⟨v2, hb2, hown2⟩, hg2⟩; unfold OwnB at hown2; rw [List.length_append, World.size_alloc] at hown2; have HB2 := hid hb2; have HOWN2 := hid hown2; have HG2 := hid hg2; have e0 := blk_cell (o := 0) (v := v2) hb2 rfl; have hl2 := blk_lt hb2; obtain ⟨A2, cp2, rfl⟩ := own_form hown2; clear hb2 hown2 hg2) | (at_builtin; refine Lib.wpList_append_own_string _ ?p0 (.tmp 13) (.tmp 14) 26 9 ?p1 (w.heap.size + 1) 5 i0 Try.underlying26 Try.underlying9 hi hz0 hz1 hz2 _ _ _ ?p2 HOWN2.out s ?p3 ?p4 ?p5 (by have := HG2.out.size; rw [World.size_alloc] at this; exact this) ?p8)
  case p0 => rfl
  case p1 => rfl
  case p2 => rfl
  case p3 => rfl
  case p4 => unfold maxLen; have := HEL.out; have := HSZ.out; simp only [List.length_cons, List.length_nil] at *; omega
  case p5 => have := HEL.out; have := HSZ.out; simp only [List.length_cons, List.length_nil] at *; omega
  case p8 =>
    intro v' w3 hown' hg3 _
    obtain ⟨A3, cp3, rfl⟩ := own_form hown'
    have HL3 := hid (encT_len bs s)
    generalize bs.length + (encs [(s.size : Int)]).length + s.size = N3 at hown' HL3 ⊢
    have HO3 := hid hown'
    have hg2' := HG2.out
    have hsz2 := HG2.out.size
    rw [World.size_alloc] at hsz2
    have hne : some wb ≠ (Value.slice A2 (bs.length + (encs [(s.size : Int)]).length) cp2).ownBlock := by
      intro h
      rcases HOWN2.out.2 with ⟨hv, _⟩ | ⟨gg, cap, cur, hv, hge, _⟩
      · rw [hv] at h; cases h
      · rw [hv] at h; simp only [Value.ownBlock, Option.some.injEq] at h; omega
    have hb3 := grown_blk hg3 HB2.out hne
    have HB3 := hid hb3
    have e3 := blk_cell (o := 0) (v := Value.slice A2 (bs.length + (encs [(s.size : Int)]).length) cp2) hb3 rfl
    have ef3 := blk_free (o := 0) hb3
    have hl3 := blk_lt hb3
    have HG3 := hid hg3
    have hdata : List.map byteV bs ++ (List.map byteV (encs [(s.size : Int)]) ++ Lib.strCells s) = List.map byteV (bs ++ encT s) := by
      have : encs [(s.size : Int)] = encN s.size := by unfold encs; simp
      unfold encT
      rw [this, List.map_append, List.map_append]; rfl
    have HD := hid hdata
    clear hown' hb3 hg3 hg2' hdata e0
    go_wp2
    first | go_end0 | refine bodyPost_ret (results_none rfl _ _ _) rfl ?_
    have ho := HO3.out
    rw [HD.out] at ho
    have ho4 := ownsRow_setCell_below ho (a := ⟨wb, 0, none⟩) (by show wb < w.heap.size + 1; omega) (.slice A3 N3 cp3)
    have ho5 : OwnB (w3.setCell ⟨wb, 0, none⟩ (.slice A3 N3 cp3)) w.heap.size (.slice A3 N3 cp3) (bs ++ encT s) := by unfold OwnB; rw [← HL3.out]; exact own_base (Nat.le_succ _) ho4
    refine ⟨rfl, ⟨_, WrB.set HB3.out _, ho5⟩, ?_⟩
    have g1 : w.grownBy w9 (some wb) := (grown_kp ((Kp.refl w).alloc _) _).trans HG2.out
    have g2 : w.grownBy w3 (some wb) := by
      refine ⟨HG3.out.os.trans g1.os, HG3.out.tape.trans g1.tape, HG3.out.output.trans g1.output, Nat.le_trans g1.size HG3.out.size, fun k hk hne => ?_⟩
      rw [HG3.out.block k (Nat.lt_of_lt_of_le hk g1.size) ?_, g1.block k hk hne]
      intro h
      rcases HOWN2.out.2 with ⟨hv, _⟩ | ⟨gg, cap, cur, hv, hge, _⟩
      · rw [hv] at h; cases h
      · rw [hv] at h; simp only [Value.ownBlock, Option.some.injEq] at h; omega
    exact g2.trans (grown_setCell _)
end Go.Proofs.Ytgonekmmbeedeaa
namespace Go.Proofs.Ytgonekmmbeedeaa
open Go.RowKit
set_option linter.unusedVariables false
set_option linter.unusedSimpArgs false

/-! ### how long a sound code's bytes are -/
theorem flat_le {α : Type} (enc : α → List UInt8) (B : Nat) : ∀ l : List α, (∀ x ∈ l, (enc x).length ≤ B) → ((l.map enc).flatten).length ≤ l.length * B
  | [], _ => by simp
  | x :: l, h => by
    have h1 := h x (List.mem_cons_self ..)
    have h2 := flat_le enc B l (fun y hy => h y (List.mem_cons_of_mem _ hy))
    rw [List.map_cons, List.flatten_cons, List.length_append, List.length_cons, Nat.add_mul]; omega
theorem flat_take {α : Type} (enc : α → List UInt8) (l : List α) (k : Nat) : (((l.take k).map enc).flatten).length ≤ ((l.map enc).flatten).length := by
  conv => rhs; rw [← List.take_append_drop k l]
  rw [List.map_append, List.flatten_append, List.length_append]; omega
theorem flat_succ {α : Type} (enc : α → List UInt8) {l : List α} {k : Nat} {x : α} (h : l[k]? = some x) : ((l.take (k + 1)).map enc).flatten = ((l.take k).map enc).flatten ++ enc x := by
  rw [List.take_add_one, h, List.map_append, List.flatten_append]; simp
theorem named_size {s : ByteArray} (h : NamedP s) : s.size ≤ 8000 := by
  rcases h with h | ⟨l, t, h, _⟩
  · omega
  · exact h.placed.2.2
/-- All numbers of a code are such of 64 bits. -/
def okNums (c : CodeM) : Prop := ∀ f ∈ c.funcs, ∀ i ∈ f.ins, okIns i
theorem sound_code {c : CodeM} (h : (soundM c).1 = 0) (ho : okNums c) : okCode c := by
  obtain ⟨_, h1, h2, h3, h4, _⟩ := sound_inv h
  refine ⟨fun f hf => ?_, fun s hs => ?_, ⟨by omega, by omega⟩, ⟨by omega, by omega⟩⟩
  · obtain ⟨k, hk⟩ := List.getElem?_of_mem hf
    have hh := head_ok (h4 k f hk).1
    have hn := named_size hh.1
    obtain ⟨_, g1, g2, g3, g4, g5, g6, _, _, g7⟩ := hh
    exact ⟨⟨by omega, ⟨by omega, by omega⟩, ⟨by omega, by omega⟩, ⟨by omega, by omega⟩, ho f hf⟩, ⟨by omega, by omega⟩⟩
  · obtain ⟨k, hk⟩ := List.getElem?_of_mem hs
    rcases textE_cases s with ⟨_, g, _⟩ | ⟨g, _⟩
    · omega
    · rw [h3 k s hk] at g; cases g
theorem encI_len {i : InsM} (h : okIns i) : (encI i).length ≤ 60 := by
  obtain ⟨h0, h1, h2, h3, h4, h5⟩ := h
  exact encs_len _ (by intro x hx; simp at hx; rcases hx with rfl | rfl | rfl | rfl | rfl | rfl <;> assumption)
theorem encT_le {s : ByteArray} (h : s.size ≤ 9223372036854775807) : (encT s).length ≤ s.size + 10 := by
  have h1 := encN_len (n := (s.size : Int)) ⟨by omega, by omega⟩
  have h2 : s.data.toList.length = s.size := by rw [Array.length_toList]; rfl
  unfold encT
  rw [List.length_append, h2]; omega
theorem encF_len {f : FnM} (h : okFn f) (hs : f.name.size ≤ 8000) (hi : f.ins.length ≤ 20000) : (encF f).length ≤ 1208050 := by
  obtain ⟨h0, h1, h2, h3, h4⟩ := h
  have g1 := encT_le (s := f.name) (by omega)
  have g2 := encs_len [f.params, f.slots, f.caps, (f.ins.length : Int)] (by intro x hx; simp at hx; rcases hx with rfl | rfl | rfl | rfl; exact h1; exact h2; exact h3; exact ⟨by omega, by omega⟩)
  have g3 := flat_le encI 60 f.ins (fun i hi => encI_len (h4 i hi))
  have g4 : f.ins.length * 60 ≤ 20000 * 60 := Nat.mul_le_mul_right _ hi
  simp only [List.length_cons, List.length_nil] at g2
  unfold encF
  rw [List.length_append, List.length_append]; omega
theorem encC_len {c : CodeM} (h : (soundM c).1 = 0) (ho : okNums c) : (encN c.texts.length).length ≤ 10 ∧ ((c.texts.map encT).flatten).length ≤ 420000 ∧ (encN c.funcs.length).length ≤ 10 ∧ ((c.funcs.map encF).flatten).length ≤ 483220000 := by
  have hc := sound_code h ho
  obtain ⟨_, h1, h2, h3, h4, _⟩ := sound_inv h
  refine ⟨encN_len hc.2.2.2, ?_, encN_len hc.2.2.1, ?_⟩
  · have := flat_le encT 210 c.texts (fun s hs => by
      obtain ⟨k, hk⟩ := List.getElem?_of_mem hs
      rcases textE_cases s with ⟨_, g, _⟩ | ⟨g, _⟩
      · have := encT_le (s := s) (by omega); omega
      · rw [h3 k s hk] at g; cases g)
    have g4 : c.texts.length * 210 ≤ 2000 * 210 := Nat.mul_le_mul_right _ h2
    omega
  · have := flat_le encF 1208050 c.funcs (fun f hf => by
      obtain ⟨k, hk⟩ := List.getElem?_of_mem hf
      have hh := head_ok (h4 k f hk).1
      exact encF_len (hc.1 f hf).1 (named_size hh.1) hh.2.2.2.2.2.2.2.2.2)
    have g4 : c.funcs.length * 1208050 ≤ 400 * 1208050 := Nat.mul_le_mul_right _ h1
    omega

/-! ### the walk -/
theorem conv_lit (w : World) (C : Array Value) (e : TypeId) (n c : Nat) : Sem.run Try.prog (convert 26 26 (.slice (some ⟨w.heap.size, 0, none⟩) n c)) (w.alloc (.cells C e)) = .ok (.slice (some ⟨w.heap.size, 0, none⟩) n c) (w.alloc (.cells C e (C.size, C.size + 1))) := by
  have hsh : (w.alloc (.cells C e)).shape? w.heap.size = some (e, C.size) := by
    have : (w.alloc (.cells C e)).heap[w.heap.size]? = some (.cells C e (0, 0)) := blk_new _ _
    unfold World.shape?
    rw [this]
  have hfr : (w.alloc (.cells C e)).freeze ⟨w.heap.size, C.size, none⟩ 1 = w.alloc (.cells C e (C.size, C.size + 1)) := by
    have hm : ∀ (a : Array Obj) (x : Obj) (f : Obj → Obj), (a.push x).modify a.size f = a.push (f x) := by
      intro a x f
      apply Array.ext
      · simp
      · intro i h1 h2
        simp only [Array.getElem_modify, Array.getElem_push]
        by_cases h : a.size = i
        · subst h
          simp
        · have hi : i < a.size := by simp at h1; omega
          simp [h, hi]
    unfold World.freeze
    rw [if_neg (by decide)]
    show ({ w.alloc (.cells C e) with heap := (w.heap.push (.cells C e)).modify w.heap.size _ } : World) = _
    rw [hm]
    rfl
  have hu : Sem.run Try.prog (underlying 5) = fun w => .ok (.int .u8) w := by
    funext w; exact run_underlying Try.underlying5 w
  simp [convert, go_sem, markStringish, hsh, hfr]
/-- Pack's state. -/
structure PkI (w : World) (n0 wb : Nat) (lf lt : Value) (bs : List UInt8) (wr : World) (v : Value) : Prop where
  blk : WrB wr wb v
  own : OwnB wr (wb + 1) v bs
  kp : Kp w wr
  code : wr.heap[n0]? = some (.cells #[lf, lt] 25 (0, 0))
theorem PkI.step {w wr w9 : World} {n0 wb : Nat} {lf lt : Value} {bs bs' : List UInt8} {v v' : Value} (h : PkI w n0 wb lf lt bs wr v) (hne : n0 ≠ wb) (hw : w.heap.size ≤ wb) (hb : WrB w9 wb v') (ho : OwnB w9 wr.heap.size v' bs') (hg : wr.grownBy w9 (some wb)) : PkI w n0 wb lf lt bs' w9 v' :=
  ⟨hb, own_base (blk_lt h.blk) ho, Below.one h.kp hg hw h.kp.le, grown_blk hg h.code (fun e => hne (by injection e))⟩
theorem PkI.alloc {w wr : World} {n0 wb : Nat} {lf lt : Value} {bs : List UInt8} {v : Value} (h : PkI w n0 wb lf lt bs wr v) (o : Obj) : PkI w n0 wb lf lt bs (wr.alloc o) v :=
  ⟨blk_old h.blk o, ownsRow_keep h.own ((Kp.refl _).alloc o), h.kp.alloc o, blk_old h.code o⟩
def packPre (c : CodeM) : List UInt8 := headB ++ encN c.texts.length
def packT (c : CodeM) (k : Nat) : List UInt8 := packPre c ++ ((c.texts.take k).map encT).flatten
def packM (c : CodeM) : List UInt8 := packT c c.texts.length ++ encN c.funcs.length
def packF (c : CodeM) (k : Nat) : List UInt8 := packM c ++ ((c.funcs.take k).map encF).flatten
theorem packF_all (c : CodeM) : packF c c.funcs.length = headB ++ encC c := by
  unfold packF packM packT packPre encC
  rw [List.take_length, List.take_length]; simp only [List.append_assoc]
theorem pack_bound {c : CodeM} (h : (soundM c).1 = 0) (ho : okNums c) : (packPre c).length ≤ 100 ∧ (∀ k, (packT c k).length ≤ 500000) ∧ (packM c).length ≤ 500100 ∧ (∀ k, (packF c k).length ≤ 500000000) := by
  obtain ⟨h1, h2, h3, h4⟩ := encC_len h ho
  have g1 : (packPre c).length ≤ 100 := by unfold packPre; rw [List.length_append]; have : headB.length = 5 := rfl; omega
  have g2 : ∀ k, (packT c k).length ≤ 500000 := fun k => by unfold packT; rw [List.length_append]; have := flat_take encT c.texts k; omega
  have g3 : (packM c).length ≤ 500100 := by unfold packM; rw [List.length_append]; have := g2 c.texts.length; omega
  exact ⟨g1, g2, g3, fun k => by unfold packF; rw [List.length_append]; have := flat_take encF c.funcs k; omega⟩
def packI (c : CodeM) (k : Nat) (f : FnM) (a : Nat) : List UInt8 := (packF c k ++ encT f.name) ++ encs [f.params, f.slots, f.caps, (f.ins.length : Int)] ++ ((f.ins.take a).map encI).flatten
theorem packI_zero (c : CodeM) (k : Nat) (f : FnM) : packI c k f 0 = (packF c k ++ encT f.name) ++ encs [f.params, f.slots, f.caps, (f.ins.length : Int)] := by unfold packI; simp
theorem packI_succ {c : CodeM} {k a : Nat} {f : FnM} {i : InsM} (h : f.ins[a]? = some i) : packI c k f a ++ encs [i.op, i.a, i.b, i.c, i.d, i.e] = packI c k f (a + 1) := by
  unfold packI; rw [flat_succ encI h, List.append_assoc]; rfl
theorem packI_all {c : CodeM} {k : Nat} {f : FnM} (h : c.funcs[k]? = some f) : packI c k f f.ins.length = packF c (k + 1) := by
  unfold packI packF
  rw [flat_succ encF h, List.take_length]; unfold encF; simp only [List.append_assoc]
theorem packI_len {c : CodeM} {k : Nat} {f : FnM} (h : (packF c k).length ≤ 500000000) (hf : (encF f).length ≤ 1208050) (a : Nat) : (packI c k f a).length ≤ 501208050 := by
  have h1 := flat_take encI f.ins a
  unfold encF at hf
  unfold packI
  simp only [List.length_append] at *; omega
theorem be4_cells (S : Nat) : [Value.int IntKind.u8 ((S : Int) / 16777216 % 256), Value.int IntKind.u8 ((S : Int) / 65536 % 256), Value.int IntKind.u8 ((S : Int) / 256 % 256), Value.int IntKind.u8 ((S : Int) % 256)] = List.map byteV (be4 S) := by
  unfold be4 byteV
  simp only [List.map_cons, List.map_nil, UInt8.toNat_ofNat']
  rfl
theorem pk_round {P : Nat → World → Value → Prop} {k n : Nat} {u : World} {v : Value} (hk : k < n) (h : P (k + 1) u v) :
    (∃ (k1 : Nat) (v1 : Value), k1 ≤ n ∧ Value.int .i64 ((k : Int) + 1) = .int .i64 (k1 : Int) ∧ P k1 u v1) ∧ n - (intOf (.int .i64 ((k : Int) + 1))).toNat < n - (intOf (.int .i64 (k : Int))).toNat :=
  ⟨⟨k + 1, v, hk, by congr 1, h⟩, by simp only [intOf, Int.toNat_natCast]; omega⟩
theorem nums1 (a : Int) : ∀ (k : Nat) (n : Int), [a][k]? = some n → (#[Value.int .i64 a] : Array Value)[k]? = some (Value.int .i64 n) := by
  intro k n h; rcases k with _ | k <;> simp at h ⊢; exact h
theorem nums4 (a b c d : Int) : ∀ (k : Nat) (n : Int), [a, b, c, d][k]? = some n → (#[Value.int .i64 a, Value.int .i64 b, Value.int .i64 c, Value.int .i64 d] : Array Value)[k]? = some (Value.int .i64 n) := by
  intro k n h; rcases k with _ | _ | _ | _ | k <;> simp at h ⊢ <;> exact h
theorem nums6 (a b c d e f : Int) : ∀ (k : Nat) (n : Int), [a, b, c, d, e, f][k]? = some n → (#[Value.int .i64 a, Value.int .i64 b, Value.int .i64 c, Value.int .i64 d, Value.int .i64 e, Value.int .i64 f] : Array Value)[k]? = some (Value.int .i64 n) := by
  intro k n h; rcases k with _ | _ | _ | _ | _ | _ | k <;> simp at h ⊢ <;> exact h
theorem okNums_of {w : World} {v : Value} {c : CodeM} (h : RdL CeFn 5 w v c.funcs) : okNums c := by
  intro f hf i hi
  obtain ⟨k, hk⟩ := List.getElem?_of_mem hf
  obtain ⟨A, cc, rfl, _⟩ := h.form
  obtain ⟨b, off, _, _, lins, _, _, _, _, _, _, _, _, _, hin, _⟩ := at_fn h hk
  obtain ⟨j, hj⟩ := List.getElem?_of_mem hi
  obtain ⟨A', cc', rfl, _⟩ := hin.form
  obtain ⟨_, _, _, _, _, _, _, _, _, _, o0, o1, o2, o3, o4, o5⟩ := at_ins hin hj
  exact ⟨o0, o1, o2, o3, o4, o5⟩
set_option maxRecDepth 20000 in
set_option maxHeartbeats 16000000 in
theorem pack_err (w : World) (v : Value) (c : CodeM) (h : RdCode w v c) (hs : (soundM c).1 ≠ 0) : Calls Try.prog 10 #[v] w fun e w' => e = .returned (.tuple #[.slice none 0 0, .int .i64 (soundM c).1]) ∧ Kp w w' := by
  have HC := hid h
  obtain ⟨lf, lt, rfl, hf, hfl, ht, htl⟩ := h
  obtain ⟨Af, cf, rfl, _⟩ := hf.form
  obtain ⟨At, ct, rfl, _⟩ := ht.form
  clear hf ht
  have z9 : ((soundM c).1 != 0) = true := by simpa using hs
  have HKA := hid (show Kp w (w.alloc (.cells #[.slice Af c.funcs.length cf, .slice At c.texts.length ct] 25)) from (Kp.refl _).alloc _)
  clear hs
  go_enter Try.func10, Try.ntmps10
  go_wp2_with (go_at_call 18; go_must (refine (sound_any _ _ c (HC.out.kp HKA.out)).mono ?_); rintro e w2 ⟨rfl, hk2⟩; unfold fixV; have HK2 := hid hk2; clear hk2)
  go_quiet (fail)
  go_wp2
  go_ret2
  exact ⟨rfl, HKA.out.trans ((HK2.out.alloc _).drewN _)⟩
set_option maxRecDepth 20000 in
set_option maxHeartbeats 16000000 in
/-- Pack of a sound code. -/
theorem pack_ok (w : World) (v : Value) (c : CodeM) (h : RdCode w v c) (hs : (soundM c).1 = 0) : Calls Try.prog 10 #[v] w fun e w' => (∃ v', e = .returned (.tuple #[v', .int .i64 0]) ∧ OwnB w' w.heap.size v' (packB c)) ∧ Kp w w' := by
  have HC := hid h
  obtain ⟨lf, lt, rfl, hf, hfl, ht, htl⟩ := h
  have HF := hid hf
  have HT := hid ht
  obtain ⟨Af, cf, rfl, _⟩ := hf.form
  obtain ⟨At, ct, rfl, _⟩ := ht.form
  have HON := hid (okNums_of hf)
  have HBD := hid (pack_bound hs HON.out)
  have HSI := hid (sound_inv hs)
  clear hf ht
  have HKA := hid (show Kp w (w.alloc (.cells #[.slice Af c.funcs.length cf, .slice At c.texts.length ct] 25)) from (Kp.refl _).alloc _)
  have HS := hid hs
  clear hs
  go_enter Try.func10, Try.ntmps10
  go_upto_region 5 with (go_at_call 18; go_must (refine (sound_any _ _ c (HC.out.kp HKA.out)).mono ?_); rintro e w2 ⟨rfl, hk2⟩; unfold fixV; rw [HS.out]; have hcv : Sem.run Try.prog (convert 26 26 (.slice (some ⟨w2.heap.size + 1, 0, none⟩) 5 5)) ((w2.alloc (Obj.cells #[.int .i64 0, .int .i64 (soundM c).2.1, .int .i64 (soundM c).2.2] 41)).alloc (.cells #[.int .u8 114, .int .u8 111, .int .u8 97, .int .u8 100, .int .u8 49] 5)) = .ok (.slice (some ⟨w2.heap.size + 1, 0, none⟩) 5 5) ((w2.alloc (Obj.cells #[.int .i64 0, .int .i64 (soundM c).2.1, .int .i64 (soundM c).2.2] 41)).alloc (.cells #[.int .u8 114, .int .u8 111, .int .u8 97, .int .u8 100, .int .u8 49] 5 (5, 6))) := (by have h := conv_lit (w2.alloc (Obj.cells #[.int .i64 0, .int .i64 (soundM c).2.1, .int .i64 (soundM c).2.2] 41)) #[.int .u8 114, .int .u8 111, .int .u8 97, .int .u8 100, .int .u8 49] 5 5 5; rw [World.size_alloc] at h; exact h); have HK2 := hid hk2; have HB2 := hid ((hk2.block _ (blk_lt (blk_new w _))).trans (blk_new w (.cells #[.slice Af c.funcs.length cf, .slice At c.texts.length ct] 25))); clear hk2)
  have HK5 := hid (show Kp w (((w2.alloc (Obj.cells #[.int .i64 0, .int .i64 (soundM c).2.1, .int .i64 (soundM c).2.2] 41)).alloc (Obj.cells #[.int .u8 114, .int .u8 111, .int .u8 97, .int .u8 100, .int .u8 49] 5 (5, 6))).alloc (Obj.cells #[.slice (some ⟨w2.heap.size + 1, 0, none⟩) 5 5] 67)) from HKA.out.trans (((HK2.out.alloc _).alloc _).alloc _))
  have HCB := hid (blk_old (blk_old (blk_old HB2.out (Obj.cells #[.int .i64 0, .int .i64 (soundM c).2.1, .int .i64 (soundM c).2.2] 41)) (Obj.cells #[.int .u8 114, .int .u8 111, .int .u8 97, .int .u8 100, .int .u8 49] 5 (5, 6))) (Obj.cells #[.slice (some ⟨w2.heap.size + 1, 0, none⟩) 5 5] 67))
  have HHD : Hid ((((w2.alloc (Obj.cells #[.int .i64 0, .int .i64 (soundM c).2.1, .int .i64 (soundM c).2.2] 41)).alloc (Obj.cells #[.int .u8 114, .int .u8 111, .int .u8 97, .int .u8 100, .int .u8 49] 5 (5, 6))).alloc (Obj.cells #[.slice (some ⟨w2.heap.size + 1, 0, none⟩) 5 5] 67)).heap[w2.heap.size + 1]? = some (Obj.cells #[.int .u8 114, .int .u8 111, .int .u8 97, .int .u8 100, .int .u8 49] 5 (5, 6))) := hid (blk_old (by have h := blk_new (w2.alloc (Obj.cells #[.int .i64 0, .int .i64 (soundM c).2.1, .int .i64 (soundM c).2.2] 41)) (Obj.cells #[.int .u8 114, .int .u8 111, .int .u8 97, .int .u8 100, .int .u8 49] 5 (5, 6)); rw [World.size_alloc] at h; exact h) _)
  have HWB : Hid (WrB (((w2.alloc (Obj.cells #[.int .i64 0, .int .i64 (soundM c).2.1, .int .i64 (soundM c).2.2] 41)).alloc (Obj.cells #[.int .u8 114, .int .u8 111, .int .u8 97, .int .u8 100, .int .u8 49] 5 (5, 6))).alloc (Obj.cells #[.slice (some ⟨w2.heap.size + 1, 0, none⟩) 5 5] 67)) (w2.heap.size + 1 + 1) (.slice (some ⟨w2.heap.size + 1, 0, none⟩) 5 5)) := hid (by have h := blk_new ((w2.alloc (Obj.cells #[.int .i64 0, .int .i64 (soundM c).2.1, .int .i64 (soundM c).2.2] 41)).alloc (Obj.cells #[.int .u8 114, .int .u8 111, .int .u8 97, .int .u8 100, .int .u8 49] 5 (5, 6))) (Obj.cells #[.slice (some ⟨w2.heap.size + 1, 0, none⟩) 5 5] 67); rw [World.size_alloc, World.size_alloc] at h; exact h)
  have HN := hid (show w.heap.size < w2.heap.size + 1 + 1 by have := (HKA.out.trans HK2.out).le; omega)
  generalize (((w2.alloc (Obj.cells #[.int .i64 0, .int .i64 (soundM c).2.1, .int .i64 (soundM c).2.2] 41)).alloc (Obj.cells #[.int .u8 114, .int .u8 111, .int .u8 97, .int .u8 100, .int .u8 49] 5 (5, 6))).alloc (Obj.cells #[.slice (some ⟨w2.heap.size + 1, 0, none⟩) 5 5] 67)) = W at HK5 HCB HHD HWB ⊢
  generalize hwb : w2.heap.size + 1 + 1 = wb at HWB HN ⊢
  generalize w2.heap.size + 1 = hb at HHD HWB ⊢
  generalize hn0 : w.heap.size = n0 at HCB HN ⊢
  have HN0 := hid hn0
  clear hwb hn0
  have HRD : Hid (RdBytes W (.slice (some ⟨hb, 0, none⟩) 5 5) headB) := hid ⟨by decide, _, _, rfl, Nat.le_refl _, fun _ => ⟨hb, 0, rfl, blk_lt HHD.out, fun j hj => by
    rw [Nat.zero_add]
    refine blk_cell HHD.out ?_
    have hj5 : j < 5 := hj
    rcases j with _ | _ | _ | _ | _ | j
    · rfl
    · rfl
    · rfl
    · rfl
    · rfl
    · omega⟩⟩
  have HNE := hid (show n0 ≠ wb by have := HN.out; omega)
  have HWL := hid (show w.heap.size ≤ wb by have := HN.out; have := HN0.out; omega)
  have q0 := blk_cell (o := 0) (v := Value.slice Af c.funcs.length cf) HCB.out rfl
  have q1 := blk_cell (o := 1) (v := Value.slice At c.texts.length ct) HCB.out rfl
  have ql := blk_lt HCB.out
  go_upto_region 6 with (go_at_call 26; go_must (refine (numbers_any (W.alloc (.cells #[.int .i64 (c.texts.length : Int)] 3)) wb W.heap.size 1 _ headB [(c.texts.length : Int)] #[.int .i64 (c.texts.length : Int)] 3 (0, 0) (blk_old HWB.out _) (HRD.out.kp ((Kp.refl _).alloc _)) (blk_new _ _) (nums1 _) (by have := blk_lt HWB.out; omega) (fun x hx => by rw [List.mem_singleton] at hx; rw [hx]; have := HSI.out.2.2.1; exact ⟨by omega, by omega⟩) (by simp) (by simp) (by have h5 : headB.length = 5 := rfl; rw [h5]; simp)).mono ?_); rintro e w6 ⟨rfl, ⟨v6, hb6, ho6⟩, hg6⟩; have HPK := hid (show PkI w n0 wb (.slice Af c.funcs.length cf) (.slice At c.texts.length ct) (packPre c) w6 v6 from ⟨hb6, own_base (B := W.heap.size + 1) (by have := blk_lt HWB.out; omega) (by rw [encs_one, World.size_alloc] at ho6; exact ho6), Below.one (HK5.out.alloc _) hg6 HWL.out (HK5.out.alloc _).le, grown_blk hg6 (blk_old HCB.out _) (fun e => HNE.out (by injection e))⟩); have r0 := blk_cell (o := 0) (v := Value.slice Af c.funcs.length cf) HPK.out.code rfl; have r1 := blk_cell (o := 1) (v := Value.slice At c.texts.length ct) HPK.out.code rfl; have rl := blk_lt HPK.out.code; clear hb6 ho6 hg6)
  clear q0 q1 ql
  go_wp2_with fail
  go_loopw [33] (fun x wr => ∃ (k : Nat) (v1 : Value), k ≤ c.texts.length ∧ x = .int .i64 (k : Int) ∧ (fun k wr v1 => PkI w n0 wb (.slice Af c.funcs.length cf) (.slice At c.texts.length ct) (packT c k) wr v1) k wr v1) (fun x _ => c.texts.length - (intOf x).toNat)
  case atStart => exact ⟨0, v6, by omega, rfl, by show PkI w n0 wb _ _ (packT c 0) w6 v6; unfold packT; simpa using HPK.out⟩
  case round =>
    clear r0 r1 rl
    obtain ⟨k, v1, hk, rfl, hpk⟩ := hrel
    have HPT := hid hpk
    have r0 := blk_cell (o := 0) (v := Value.slice Af c.funcs.length cf) hpk.code rfl
    have r1 := blk_cell (o := 1) (v := Value.slice At c.texts.length ct) hpk.code rfl
    have rl := blk_lt hpk.code
    clear hpk
    by_cases hlt : k < c.texts.length
    · have i1 : (k : Int) < (c.texts.length : Int) := by omega
      have k1 := wrap_in ((k : Int) + 1) (by have := HSI.out.2.2.1; omega)
      obtain ⟨t, ht⟩ : ∃ t, c.texts[k]? = some t := ⟨_, List.getElem?_eq_getElem hlt⟩
      obtain ⟨b, off, rfl, hbl, q0, hts⟩ := at_str (HT.out.kp CeStr.kp HPT.out.kp) ht
      have HTS := hid (show t.size ≤ 200 by
        rcases textE_cases t with ⟨_, g, _⟩ | ⟨g, _⟩
        · exact g
        · rw [HSI.out.2.2.2.1 k t ht] at g; cases g)
      have HTK := hid ht
      clear ht hts
      have HRR := hid (RdBytes.of_own HPT.out.own (by have := HBD.out.2.1 k; omega))
      go_wp2_with (go_at_call 27; go_must (refine (wtext_any _ wb v1 (packT c k) t HPT.out.blk HRR.out (by have := HBD.out.2.1 k; have := HTS.out; omega)).mono ?_); rintro e w9 ⟨rfl, ⟨v9, hb9, ho9⟩, hg9⟩)
      refine pk_round (v := v9) (P := fun k wr v1 => PkI w n0 wb (.slice Af c.funcs.length cf) (.slice (some ⟨b, off, none⟩) c.texts.length ct) (packT c k) wr v1) hlt ?_
      have he : packT c k ++ encT t = packT c (k + 1) := by unfold packT; rw [flat_succ encT HTK.out, List.append_assoc]
      rw [he] at ho9
      exact HPT.out.step HNE.out HWL.out hb9 ho9 hg9
    · have i1 : ¬ (k : Int) < (c.texts.length : Int) := by omega
      obtain rfl : k = c.texts.length := by omega
      have HRR := hid (RdBytes.of_own HPT.out.own (by have := HBD.out.2.1 c.texts.length; omega))
      obtain ⟨wo, hwo⟩ : ∃ x, x = wr := ⟨_, rfl⟩
      subst hwo
      clear hk hlt
      go_upto_region 12 with (go_at_call 26; go_must (refine (numbers_any (wo.alloc (.cells #[.int .i64 (c.funcs.length : Int)] 3)) wb wo.heap.size 1 _ (packT c c.texts.length) [(c.funcs.length : Int)] #[.int .i64 (c.funcs.length : Int)] 3 (0, 0) (blk_old HPT.out.blk _) (HRR.out.kp ((Kp.refl _).alloc _)) (blk_new _ _) (nums1 _) (by have := blk_lt HPT.out.blk; omega) (fun x hx => by rw [List.mem_singleton] at hx; rw [hx]; have := HSI.out.2.1; exact ⟨by omega, by omega⟩) (by simp) (by simp) (by have := HBD.out.2.1 c.texts.length; simp; omega)).mono ?_); rintro e w7 ⟨rfl, ⟨v7, hb7, ho7⟩, hg7⟩; have HPM := hid (show PkI w n0 wb (.slice Af c.funcs.length cf) (.slice At c.texts.length ct) (packM c) w7 v7 from (HPT.out.alloc _).step HNE.out HWL.out hb7 (by rw [encs_one] at ho7; exact ho7) hg7); have s0 := blk_cell (o := 0) (v := Value.slice Af c.funcs.length cf) HPM.out.code rfl; have s1 := blk_cell (o := 1) (v := Value.slice At c.texts.length ct) HPM.out.code rfl; have sl := blk_lt HPM.out.code; clear hb7 ho7 hg7)
      clear r0 r1 rl
      go_wp2_with fail
      go_loopw [50] (fun x wr => ∃ (k : Nat) (v1 : Value), k ≤ c.funcs.length ∧ x = .int .i64 (k : Int) ∧ (fun k wr v1 => PkI w n0 wb (.slice Af c.funcs.length cf) (.slice At c.texts.length ct) (packF c k) wr v1) k wr v1) (fun x _ => c.funcs.length - (intOf x).toNat)
      case atStart => exact ⟨0, v7, by omega, rfl, by show PkI w n0 wb _ _ (packF c 0) w7 v7; unfold packF; simpa using HPM.out⟩
      case round =>
        clear s0 s1 sl
        obtain ⟨ws, hws⟩ : ∃ x, x = wr := ⟨_, rfl⟩
        subst hws
        obtain ⟨k, v1, hk, rfl, hpk⟩ := hrel
        have HPF := hid hpk
        have r0 := blk_cell (o := 0) (v := Value.slice Af c.funcs.length cf) hpk.code rfl
        have rl := blk_lt hpk.code
        clear hpk
        by_cases hlt : k < c.funcs.length
        · have i1 : (k : Int) < (c.funcs.length : Int) := by omega
          have k1 := wrap_in ((k : Int) + 1) (by have := HSI.out.2.1; omega)
          obtain ⟨f, hf⟩ : ∃ f, c.funcs[k]? = some f := ⟨_, List.getElem?_eq_getElem hlt⟩
          obtain ⟨b, off, rfl, hbl, lins, q0, q1, q2, q3, q4, hns, hp_, hs_, hc_, hins, hil⟩ := at_fn HF.out hf
          have q0 := cell_kp HPF.out.kp hbl q0
          have q1 := cell_kp HPF.out.kp hbl q1
          have q2 := cell_kp HPF.out.kp hbl q2
          have q3 := cell_kp HPF.out.kp hbl q3
          have q4 := cell_kp HPF.out.kp hbl q4
          have hbl := Nat.lt_of_lt_of_le hbl HPF.out.kp.le
          have HFK := hid hf
          have HNS := hid hns
          have HIN := hid hins
          have HHO := hid (head_ok (HSI.out.2.2.2.2.1 k f hf).1)
          have HLF := hid (encF_len ((sound_code HS.out HON.out).1 f (List.mem_of_getElem? hf)).1 (named_size HHO.out.1) HHO.out.2.2.2.2.2.2.2.2.2)
          have HNB := hid (show okI f.params ∧ okI f.slots ∧ okI f.caps from ⟨hp_, hs_, hc_⟩)
          obtain ⟨Ai, ci, rfl, _⟩ := hins.form
          clear hf hns hp_ hs_ hc_ hins hil
          go_upto_region 15 with fail
          have HB2 := hid (blk_new ws (Obj.cells #[.string f.name, .int .i64 f.params, .int .i64 f.slots, .int .i64 f.caps, .slice Ai f.ins.length ci] 45))
          have HPA := hid (HPF.out.alloc (Obj.cells #[.string f.name, .int .i64 f.params, .int .i64 f.slots, .int .i64 f.caps, .slice Ai f.ins.length ci] 45))
          generalize (ws.alloc (Obj.cells #[.string f.name, .int .i64 f.params, .int .i64 f.slots, .int .i64 f.caps, .slice Ai f.ins.length ci] 45)) = W2 at HB2 HPA ⊢
          have HNF := hid (show ws.heap.size ≠ wb by have := blk_lt HPF.out.blk; omega)
          generalize ws.heap.size = nf at HB2 HNF ⊢
          have g0 := blk_cell (o := 0) (v := Value.string f.name) HB2.out rfl
          have gl := blk_lt HB2.out
          have HR2 := hid (RdBytes.of_own HPA.out.own (by have := HBD.out.2.2.2 k; omega))
          clear q0 q1 q2 q3 q4 r0 rl
          go_upto_region 16 with (go_at_call 27; go_must (refine (wtext_any _ wb v1 (packF c k) f.name HPA.out.blk HR2.out (by have := HBD.out.2.2.2 k; have := named_size HHO.out.1; omega)).mono ?_); rintro e w9 ⟨rfl, ⟨v9, hb9, ho9⟩, hg9⟩; have HP9 := hid (HPA.out.step HNE.out HWL.out hb9 ho9 hg9); have HB9 := hid (grown_blk hg9 HB2.out (fun e => HNF.out (by injection e))); have u1 := blk_cell (o := 1) (v := Value.int .i64 f.params) HB9.out rfl; have u2 := blk_cell (o := 2) (v := Value.int .i64 f.slots) HB9.out rfl; have u3 := blk_cell (o := 3) (v := Value.int .i64 f.caps) HB9.out rfl; have u4 := blk_cell (o := 4) (v := Value.slice Ai f.ins.length ci) HB9.out rfl; have ul := blk_lt HB9.out; have HR9 := hid (RdBytes.of_own HP9.out.own (by have h1 := HBD.out.2.2.2 k; have h2 := encT_le (s := f.name) (by have := named_size HHO.out.1; omega); have := named_size HHO.out.1; rw [List.length_append]; omega)); clear hb9 ho9 hg9)
          have HLT := hid (encT_le (s := f.name) (by have := named_size HHO.out.1; omega))
          go_upto_region 17 with (go_at_call 26; go_must (refine (numbers_any (w9.alloc (.cells #[.int .i64 f.params, .int .i64 f.slots, .int .i64 f.caps, .int .i64 (f.ins.length : Int)] 3)) wb w9.heap.size 4 _ (packF c k ++ encT f.name) [f.params, f.slots, f.caps, (f.ins.length : Int)] #[.int .i64 f.params, .int .i64 f.slots, .int .i64 f.caps, .int .i64 (f.ins.length : Int)] 3 (0, 0) (blk_old HP9.out.blk _) (HR9.out.kp ((Kp.refl _).alloc _)) (blk_new _ _) (nums4 _ _ _ _) (by have := blk_lt HP9.out.blk; omega) (fun x hx => by simp at hx; have h1 := HNB.out; have h2 := HHO.out.2.2.2.2.2.2.2.2.2; rcases hx with rfl | rfl | rfl | rfl; exact h1.1; exact h1.2.1; exact h1.2.2; exact ⟨by omega, by omega⟩) (by simp) (by simp) (by have := HBD.out.2.2.2 k; have := HLT.out; have := named_size HHO.out.1; rw [List.length_append]; simp; omega)).mono ?_); rintro e w10 ⟨rfl, ⟨v10, hb10, ho10⟩, hg10⟩; have HP10 := hid ((HP9.out.alloc _).step HNE.out HWL.out hb10 ho10 hg10); have HB10 := hid (grown_blk hg10 (blk_old HB9.out _) (fun e => HNF.out (by injection e))); have v4 := blk_cell (o := 4) (v := Value.slice Ai f.ins.length ci) HB10.out rfl; have vl := blk_lt HB10.out; clear hb10 ho10 hg10)
          clear g0 gl u1 u2 u3 u4 ul
          go_wp2_with fail
          go_loopw [73] (fun x wr => ∃ (a : Nat) (v1 : Value), a ≤ f.ins.length ∧ x = .int .i64 (a : Int) ∧ (fun a wr v1 => PkI w n0 wb (.slice (some ⟨b, off, none⟩) c.funcs.length cf) (.slice At c.texts.length ct) (packI c k f a) wr v1) a wr v1) (fun x _ => f.ins.length - (intOf x).toNat)
          case atStart => exact ⟨0, v10, by omega, rfl, by show PkI w n0 wb _ _ (packI c k f 0) w10 v10; rw [packI_zero]; exact HP10.out⟩
          case round =>
            obtain ⟨wt, hwt⟩ : ∃ x, x = wr := ⟨_, rfl⟩
            subst hwt
            obtain ⟨a, va, ha, rfl, hpi⟩ := hrel
            have HPI := hid hpi
            clear hpi v4 vl
            by_cases hlt2 : a < f.ins.length
            · have i2 : (a : Int) < (f.ins.length : Int) := by omega
              have a1 := wrap_in ((a : Int) + 1) (by have := HHO.out.2.2.2.2.2.2.2.2.2; omega)
              obtain ⟨i, hi⟩ : ∃ i, f.ins[a]? = some i := ⟨_, List.getElem?_eq_getElem hlt2⟩
              obtain ⟨bi, oi, rfl, hbi, r0, r1, r2, r3, r4, r5, o0, o1, o2, o3, o4, o5⟩ := at_ins (HIN.out.kp CeIns.kp HPI.out.kp) hi
              have HIK := hid hi
              have HIO := hid (show okIns i from ⟨o0, o1, o2, o3, o4, o5⟩)
              have HRI := hid (RdBytes.of_own HPI.out.own (by have := packI_len (HBD.out.2.2.2 k) HLF.out a; omega))
              clear hi o0 o1 o2 o3 o4 o5
              go_wp2_with (go_at_call 26; go_must (refine (numbers_any ((wt.alloc (Obj.cells #[.int .i64 i.op, .int .i64 i.a, .int .i64 i.b, .int .i64 i.c, .int .i64 i.d, .int .i64 i.e] 64)).alloc (.cells #[.int .i64 i.op, .int .i64 i.a, .int .i64 i.b, .int .i64 i.c, .int .i64 i.d, .int .i64 i.e] 3)) wb (wt.heap.size + 1) 6 _ (packI c k f a) [i.op, i.a, i.b, i.c, i.d, i.e] #[.int .i64 i.op, .int .i64 i.a, .int .i64 i.b, .int .i64 i.c, .int .i64 i.d, .int .i64 i.e] 3 (0, 0) (blk_old (blk_old HPI.out.blk _) _) (HRI.out.kp (((Kp.refl _).alloc _).alloc _)) (by have h := blk_new (wt.alloc (Obj.cells #[.int .i64 i.op, .int .i64 i.a, .int .i64 i.b, .int .i64 i.c, .int .i64 i.d, .int .i64 i.e] 64)) (.cells #[.int .i64 i.op, .int .i64 i.a, .int .i64 i.b, .int .i64 i.c, .int .i64 i.d, .int .i64 i.e] 3); rw [World.size_alloc] at h; exact h) (nums6 _ _ _ _ _ _) (by have := blk_lt HPI.out.blk; omega) (fun x hx => by simp at hx; obtain ⟨o0, o1, o2, o3, o4, o5⟩ := HIO.out; rcases hx with rfl | rfl | rfl | rfl | rfl | rfl <;> assumption) (by simp) (by simp) (by have := packI_len (HBD.out.2.2.2 k) HLF.out a; simp; omega)).mono ?_); rintro e w12 ⟨rfl, ⟨v12, hb12, ho12⟩, hg12⟩)
              refine pk_round (v := v12) (P := fun a wr v1 => PkI w n0 wb (.slice (some ⟨b, off, none⟩) c.funcs.length cf) (.slice At c.texts.length ct) (packI c k f a) wr v1) hlt2 ?_
              have he : packI c k f a ++ encs [i.op, i.a, i.b, i.c, i.d, i.e] = packI c k f (a + 1) := packI_succ HIK.out
              rw [he] at ho12
              exact ((HPI.out.alloc _).alloc _).step HNE.out HWL.out hb12 ho12 hg12
            · have i2 : ¬ (a : Int) < (f.ins.length : Int) := by omega
              obtain rfl : a = f.ins.length := by omega
              clear hlt2 ha
              go_wp2
              refine pk_round (v := va) (P := fun k wr v1 => PkI w n0 wb (.slice (some ⟨b, off, none⟩) c.funcs.length cf) (.slice At c.texts.length ct) (packF c k) wr v1) hlt ?_
              have he := packI_all (c := c) HFK.out
              show PkI w n0 wb _ _ (packF c (k + 1)) wt va
              rw [← he]; exact HPI.out
        · have i1 : ¬ (k : Int) < (c.funcs.length : Int) := by omega
          obtain rfl : k = c.funcs.length := by omega
          clear hlt hk r0 rl
          have HPZ : Hid (PkI w n0 wb (.slice Af c.funcs.length cf) (.slice At c.texts.length ct) (headB ++ encC c) ws v1) := hid (by have h := HPF.out; rw [packF_all] at h; exact h)
          have HBZ := hid (show (headB ++ encC c).length ≤ 500000000 by rw [← packF_all]; exact HBD.out.2.2.2 _)
          have HPB : Hid (packB c = (headB ++ encC c) ++ be4 (sumM (headB ++ encC c))) := hid rfl
          generalize headB ++ encC c = BS at HPZ HBZ HPB
          have HSL := hid (sumM_lt BS)
          have HRZ := hid (RdBytes.of_own HPZ.out.own (by have := HBZ.out; omega))
          have c0 := blk_cell (o := 0) (v := v1) HPZ.out.blk rfl
          have cl := blk_lt HPZ.out.blk
          obtain ⟨A1, c1, rfl⟩ := own_form HPZ.out.own
          generalize hsm : sumM BS = S at HSL HPB
          have HSM := hid hsm
          clear hsm
          go_upto_region 24 with (go_at_call 28; go_must (refine (sum_any _ _ _ HRZ.out).mono ?_); rintro e w20 ⟨rfl, rfl⟩; rw [HSM.out])
          go_wp2_with (at_builtin; refine app_bytes rfl (.tmp 102) (.tmp 114) rfl HPZ.out.own rfl _ _ (be4 S) 4 4 rfl ?hcs rfl ?hlen ?hbase ?hk)
          case hlen => have := HBZ.out; omega
          case hbase => exact blk_lt HPZ.out.blk
          case hcs =>
            exact be4_cells S
          case hk =>
            intro v' w' ho hg hb
            go_wp2
            go_ret2
            refine ⟨⟨_, rfl, ?_⟩, Below.trans HPZ.out.kp (Below.mono hb (Nat.le_succ_of_le HWL.out))⟩
            rw [HPB.out]
            exact own_base (by have := HWL.out; omega) ho
end Go.Proofs.Ytgonekmmbeedeaa
