/-
  Package image: Sum, and the writer's methods. Condition: what comes in lies within the reach.
-/
import Derived.Test.YtlfgofjmcegeiaaImgP
import Derived.Test.YtlfgofjmcegeiaaSoundS
import Derived.Test.YtlfgofjmcegeiaaRow
import Derived.Test.YtlfgofjmcegeiaaBox
import Derived.Test.YtlfgofjmcegeiaaInts
import Derived.Lib.AppendStr
import Derived.Deep.DeepCutAuto
namespace Go.Proofs.Ytlfgofjmcegeiaa
open Go.RowKit
set_option linter.unusedVariables false
set_option linter.unusedSimpArgs false

theorem i64_join (a b : Nat) (hb : b < 65536) (ha : a < 65536) : bits .or .i64 ((a : Int) * 65536) (b : Int) = ((a * 65536 + b : Nat) : Int) := by
  have h1 := u64_or_nat (a * 65536) b (by omega) (by omega)
  rw [nat_join 16 (a * 65536) b (by omega) (by omega)] at h1
  have e : ∀ x y : Int, bits .or .i64 x y = IntKind.i64.wrap (bits .or .u64 x y) := by
    intro x y
    show IntKind.i64.wrap ((BitVec.ofInt 64 x ||| BitVec.ofInt 64 y).toNat : Int) = IntKind.i64.wrap (IntKind.u64.wrap ((BitVec.ofInt 64 x ||| BitVec.ofInt 64 y).toNat : Int))
    generalize (BitVec.ofInt 64 x ||| BitVec.ofInt 64 y).toNat = n
    rw [IntKind.wrap_i64, IntKind.wrap_i64, IntKind.wrap_u64]; omega
  rw [e]
  have e2 : ((a : Int) * 65536) = ((a * 65536 : Nat) : Int) := by omega
  rw [e2, h1, IntKind.wrap_i64]; omega
theorem sumGo_take {bs : List UInt8} {k : Nat} (h : k < bs.length) : sumGo (1, 0) (bs.take (k + 1)) = (((sumGo (1, 0) (bs.take k)).1 + (bs.getD k 0).toNat) % 65521, ((sumGo (1, 0) (bs.take k)).2 + ((sumGo (1, 0) (bs.take k)).1 + (bs.getD k 0).toNat) % 65521) % 65521) := by
  have e : bs.take (k + 1) = bs.take k ++ [bs.getD k 0] := by
    rw [List.take_add_one]; simp [List.getD, List.getElem?_eq_getElem h]
  rw [e, sumGo_append]; rfl
set_option maxRecDepth 20000 in
set_option maxHeartbeats 4000000 in
theorem sum_any (v : Value) (bs : List UInt8) (w : World) (h : RdBytes w v bs) : Calls Try.prog 46 #[v] w fun e w' => e = .returned (.int .i64 (sumM bs : Nat)) ∧ w = w' := by
  obtain ⟨hl, A, cap, rfl, hcap, hcell⟩ := h
  have HCELL := hid hcell; clear hcell
  go_enter Try.func46, Try.ntmps46
  go_wp2
  go_loop [3, 4, 9] (fun x y i => ∃ k a b : Nat, k ≤ bs.length ∧ i = .int .i64 (k : Int) ∧ x = .int .i64 (a : Int) ∧ y = .int .i64 (b : Int) ∧ sumGo (1, 0) (bs.take k) = (a, b)) (fun _ _ i => bs.length - (intOf i).toNat)
  case atStart => exact ⟨0, 1, 0, by omega, rfl, rfl, rfl, rfl⟩
  case round =>
    obtain ⟨k, a, b, hk, rfl, rfl, rfl, hs⟩ := hrel
    have hlt65 := sumGo_lt (bs.take k) (1, 0) (by simp) (by simp)
    rw [hs] at hlt65
    simp only at hlt65
    have HS := hid hs
    by_cases hlt : k < bs.length
    · obtain ⟨bb, off, rfl, hb, hcA⟩ := HCELL.out (by omega)
      have hc := hcA k hlt
      obtain ⟨c, hcc⟩ : ∃ c, (bs.getD k 0).toNat = c := ⟨_, rfl⟩
      have hc256 : c < 256 := by rw [← hcc]; exact UInt8.toNat_lt _
      have HCC := hid hcc
      unfold byteV at hc
      rw [hcc] at hc
      have i1 : (k : Int) < (bs.length : Int) := by omega
      have k1 : IntKind.i64.wrap ((k : Int) + 1) = (k : Int) + 1 := by rw [IntKind.wrap_i64]; omega
      have k2 : IntKind.i64.wrap ((a : Int) + (c : Int)) = (a : Int) + (c : Int) := by rw [IntKind.wrap_i64]; omega
      have k3 : IntKind.i64.wrap ((b : Int) + ((a : Int) + (c : Int)) % 65521) = (b : Int) + ((a : Int) + (c : Int)) % 65521 := by rw [IntKind.wrap_i64]; omega
      have HN := hid (sumGo_take hlt)
      clear hcc hb HCELL hcA hs
      go_wp2
      go_round
      case rel =>
        have hN := HN.out
        rw [HS.out, HCC.out] at hN
        exact ⟨k + 1, (a + c) % 65521, (b + (a + c) % 65521) % 65521, by omega, by congr 1, congrArg (Value.int .i64) (by omega), congrArg (Value.int .i64) (by omega), hN⟩
      case measure => simp [intOf]; omega
    · have i1 : ¬ (k : Int) < (bs.length : Int) := by omega
      have hR : sumM bs = b * 65536 + a := by
        unfold sumM
        rw [List.take_of_length_le (by omega)] at hs
        rw [hs]
      have HR := hid hR
      have k1 : IntKind.i64.wrap ((b : Int) * 65536) = (b : Int) * 65536 := by rw [IntKind.wrap_i64]; omega
      have k2 := i64_join b a (by omega) (by omega)
      clear hR hs
      go_wp2
      go_ret
      exact ⟨ret_int (a := (b : Int) * 65536 + (a : Int)) (by rw [HR.out]; omega), rfl⟩
theorem encN_len {n : Int} (h : okI n) : (encN n).length ≤ 10 := enc7_len 9 (zig n) (by have := zig_lt n h; omega)
theorem encs_len : ∀ (l : List Int), (∀ x ∈ l, okI x) → (encs l).length ≤ 10 * l.length
  | [], _ => by simp [encs]
  | x :: l, h => by
    have h1 := encN_len (h x (List.mem_cons_self ..))
    have h2 := encs_len l (fun y hy => h y (List.mem_cons_of_mem _ hy))
    unfold encs at h2 ⊢
    rw [List.map_cons, List.flatten_cons, List.length_append, List.length_cons]; omega
theorem encs_take {l : List Int} {k : Nat} {n : Int} (h : l[k]? = some n) : encs (l.take (k + 1)) = encs (l.take k) ++ encN n := by
  unfold encs
  rw [List.take_add_one, h, List.map_append, List.flatten_append]; simp
theorem encs_one (n : Int) : encs [n] = encN n := by unfold encs; rw [List.map_cons, List.map_nil, List.flatten_cons, List.flatten_nil, List.append_nil]
theorem encT_len (bs : List UInt8) (s : ByteArray) : bs.length + (encs [(s.size : Int)]).length + s.size = (bs ++ encT s).length := by
  have h : s.data.toList.length = s.size := by rw [Array.length_toList]; rfl
  unfold encT
  rw [encs_one, List.length_append, List.length_append, h, Nat.add_assoc]
/-- The writer's box. -/
abbrev WrB (w : World) (wb : Nat) (v : Value) : Prop := w.heap[wb]? = some (.cells #[v] 101 (0, 0))
theorem WrB.set {w : World} {wb : Nat} {v : Value} (h : WrB w wb v) (u : Value) : WrB (w.setCell ⟨wb, 0, none⟩ u) wb u := blk_set h u
theorem OwnB.setCell {w : World} {base : Nat} {v : Value} {bs : List UInt8} (h : OwnB w base v bs) {p : Addr} (hp : p.block < base) (u : Value) : OwnB (w.setCell p u) base v bs := ownsRow_setCell_below h hp u
/-- The state of numbers' loop. -/
structure NsI (w : World) (wb : Nat) (bs : List UInt8) (l : List Int) (v0 : Value) (k : Nat) (wr : World) (v : Value) : Prop where
  blk : WrB wr wb v
  rd : RdBytes wr v (bs ++ encs (l.take k))
  own : 0 < k → OwnB wr w.heap.size v (bs ++ encs (l.take k))
  grown : w.grownBy wr (some wb)
theorem ns_round {w u : World} {wb : Nat} {bs : List UInt8} {l : List Int} {v0 v : Value} {k : Nat} (hk : k < l.length) (h : NsI w wb bs l v0 (k + 1) u v) :
    (∃ (k1 : Nat) (v1 : Value), k1 ≤ l.length ∧ Value.int .i64 ((k : Int) + 1) = .int .i64 (k1 : Int) ∧ NsI w wb bs l v0 k1 u v1) ∧ l.length - (intOf (.int .i64 ((k : Int) + 1))).toNat < l.length - (intOf (.int .i64 (k : Int))).toNat :=
  ⟨⟨k + 1, v, hk, by congr 1, h⟩, by simp only [intOf, Int.toNat_natCast]; omega⟩
set_option maxRecDepth 20000 in
set_option maxHeartbeats 4000000 in
theorem numbers_any (w : World) (wb g cc : Nat) (v : Value) (bs : List UInt8) (l : List Int) (cs : Array Value) (T : TypeId) (fr : Nat × Nat) (hb : WrB w wb v) (hr : RdBytes w v bs) (hg : w.heap[g]? = some (.cells cs T fr)) (hcs : ∀ (k : Nat) (n : Int), l[k]? = some n → cs[k]? = some (Value.int .i64 n)) (hgw : g ≠ wb) (hok : ∀ x ∈ l, okI x) (hne : 0 < l.length) (hl63 : l.length ≤ 1000) (hsz : bs.length + 10 * l.length + 10 ≤ 140737488355328) :
    Calls Try.prog 44 #[.pointer (some ⟨wb, 0, none⟩), .slice (some ⟨g, 0, none⟩) l.length cc] w fun e w' => e = .returned (.tuple #[]) ∧ (∃ v', WrB w' wb v' ∧ OwnB w' w.heap.size v' (bs ++ encs l)) ∧ w.grownBy w' (some wb) := by
  have HB := hid hb; have HR := hid hr; have HG := hid hg; have HCS := hid hcs; have HSZ := hid hsz; have HOK := hid hok
  clear hb hr hg hcs hsz hok
  go_enter Try.func44, Try.ntmps44
  go_wp2
  go_loopw [8] (fun x wr => ∃ (k : Nat) (v1 : Value), k ≤ l.length ∧ x = .int .i64 (k : Int) ∧ NsI w wb bs l v k wr v1) (fun x _ => l.length - (intOf x).toNat)
  case atStart => exact ⟨0, v, by omega, rfl, ⟨HB.out, by simpa [encs] using HR.out, fun h => absurd h (Nat.lt_irrefl _), World.grownBy.refl _ _⟩⟩
  case round =>
    obtain ⟨k, v1, hk, rfl, hns⟩ := hrel
    have HNS := hid hns
    have b0 := hns.blk
    have c0 := blk_cell (o := 0) (v := v1) b0 rfl
    have f0 := blk_free (o := 0) b0
    have hbl := blk_lt b0
    have hgb := grown_blk hns.grown HG.out (by intro e; injection e with e; exact hgw e)
    by_cases hlt : k < l.length
    · have i1 : (k : Int) < (l.length : Int) := by omega
      have k1 := wrap_in ((k : Int) + 1) (by omega)
      obtain ⟨n, hn⟩ : ∃ n, l[k]? = some n := ⟨_, List.getElem?_eq_getElem hlt⟩
      have d0 : wr.cell? ⟨g, k, none⟩ = some (.int .i64 n) := blk_cell hgb (HCS.out k n hn)
      have HN := hid hn
      have hnk := HOK.out n (List.mem_of_getElem? hn)
      have hcur : (bs ++ encs (l.take k)).length + 10 ≤ 140737488355328 := by
        have h1 := encs_len (l.take k) (fun x hx => HOK.out x (List.mem_of_mem_take hx))
        have h2 : (l.take k).length = k := by rw [List.length_take]; omega
        have := HSZ.out
        rw [List.length_append]; omega
      have HCUR := hid hcur
      have HNK := hid hnk
      clear hns b0 hn hnk hcur hgb
      go_wp2_with (go_at_call 22; go_must (refine (imgNum_any v1 _ n _ HNS.out.rd HNK.out HCUR.out).mono ?_); rintro e w9 ⟨⟨v2, rfl, hown⟩, hk9⟩; obtain ⟨A2, cp2, rfl⟩ := own_form hown; unfold OwnB at hown; generalize hNN : (bs ++ encs (l.take k) ++ enc7 (zig n)).length = N at hown ⊢; have HNN := hid hNN; clear hNN; have HOWN := hid hown; have HK9 := hid hk9; have HB9 := hid ((hk9.block _ (blk_lt HNS.out.blk)).trans HNS.out.blk); have e0 := blk_cell (o := 0) (v := v1) HB9.out rfl; have ef := blk_free (o := 0) HB9.out; clear hown hk9)
      have hob := ownsRow_setCell_below HOWN.out (a := ⟨wb, 0, none⟩) (blk_lt HNS.out.blk) (.slice A2 N cp2)
      have hgr : w.grownBy (w9.setCell ⟨wb, 0, none⟩ (.slice A2 N cp2)) (some wb) := (HNS.out.grown.trans (grown_kp HK9.out _)).trans (grown_setCell _)
      have he : (bs ++ encs (l.take k)) ++ enc7 (zig n) = bs ++ encs (l.take (k + 1)) := by rw [encs_take HN.out, List.append_assoc]; rfl
      have hNN := HNN.out
      rw [he] at hob hNN
      have hob : OwnB (w9.setCell ⟨wb, 0, none⟩ (.slice A2 N cp2)) wr.heap.size (.slice A2 N cp2) (bs ++ encs (l.take (k + 1))) := by unfold OwnB; rw [hNN]; exact hob
      have hln : (bs ++ encs (l.take (k + 1))).length ≤ 140737488355328 := by
        have h1 := encs_len (l.take (k + 1)) (fun x hx => HOK.out x (List.mem_of_mem_take hx))
        have h2 : (l.take (k + 1)).length = k + 1 := by rw [List.length_take]; omega
        have := HSZ.out
        rw [List.length_append]; omega
      exact ns_round hlt ⟨WrB.set HB9.out _, RdBytes.of_own hob hln, fun _ => own_base HNS.out.grown.size hob, hgr⟩
    · have i1 : ¬ (k : Int) < (l.length : Int) := by omega
      obtain rfl : k = l.length := by omega
      have HFIN := hid (HNS.out.own hne)
      rw [List.take_length] at HFIN
      clear hns b0 hgb
      go_wp2
      first | go_end0 | refine bodyPost_ret (results_none rfl _ _ _) rfl ?_
      exact ⟨rfl, ⟨v1, HNS.out.blk, HFIN.out⟩, HNS.out.grown⟩
set_option maxRecDepth 20000 in
set_option maxHeartbeats 4000000 in
theorem wtext_any (w : World) (wb : Nat) (v : Value) (bs : List UInt8) (s : ByteArray) (hb : WrB w wb v) (hr : RdBytes w v bs) (hsz : bs.length + s.size + 30 ≤ 140737488355328) :
    Calls Try.prog 45 #[.pointer (some ⟨wb, 0, none⟩), .string s] w fun e w' => e = .returned (.tuple #[]) ∧ (∃ v', WrB w' wb v' ∧ OwnB w' w.heap.size v' (bs ++ encT s)) ∧ w.grownBy w' (some wb) := by
  have HB := hid hb; have HR := hid hr; have HSZ := hid hsz
  have hbl := blk_lt hb
  obtain ⟨i0, hi, hz0, hz1, hz2⟩ := info_parts (show (Try.prog.info? 5).map (fun i => (i.zero, i.size, i.bytes)) = some (some (.int .u8 0), 1, 1) by kernel_rfl)
  have hEL := encs_len [(s.size : Int)] (fun x hx => by rw [List.mem_singleton] at hx; rw [hx]; unfold okI; omega)
  have HEL := hid hEL
  clear hb hr hsz hEL
  go_enter Try.func45, Try.ntmps45
  go_wp2_with first | (go_at_call 44; go_must (refine (numbers_any (w.alloc (.cells #[.int .i64 (s.size : Int)] 3)) wb w.heap.size 1 v bs [(s.size : Int)] #[.int .i64 (s.size : Int)] 3 (0, 0) (blk_old HB.out _) (HR.out.kp ((Kp.refl _).alloc _)) (blk_new _ _) (fun k n h => by rcases k with _ | k <;> simp at h ⊢; exact h) (by have := blk_lt HB.out; omega) (fun x hx => by rw [List.mem_singleton] at hx; rw [hx]; unfold okI; have := HSZ.out; omega) (by simp) (by simp) (by have := HSZ.out; simp; omega)).mono ?_); rintro e w9 ⟨rfl, ⟨v2, hb2, hown2⟩, hg2⟩; unfold OwnB at hown2; rw [List.length_append, World.size_alloc] at hown2; have HB2 := hid hb2; have HOWN2 := hid hown2; have HG2 := hid hg2; have e0 := blk_cell (o := 0) (v := v2) hb2 rfl; have hl2 := blk_lt hb2; obtain ⟨A2, cp2, rfl⟩ := own_form hown2; clear hb2 hown2 hg2) | (at_builtin; refine Lib.wpList_append_own_string _ ?p0 (.tmp 13) (.tmp 14) 54 9 ?p1 (w.heap.size + 1) 5 i0 Try.underlying54 Try.underlying9 hi hz0 hz1 hz2 _ _ _ ?p2 HOWN2.out s ?p3 ?p4 ?p5 (by have := HG2.out.size; rw [World.size_alloc] at this; exact this) ?p8)
  case p0 => rfl
  case p1 => rfl
  case p2 => rfl
  case p3 => rfl
  case p4 => unfold maxLen; have := HEL.out; have := HSZ.out; simp only [List.length_cons, List.length_nil] at *; omega
  case p5 => have := HEL.out; have := HSZ.out; simp only [List.length_cons, List.length_nil] at *; omega
  case p8 =>
    intro v' w3 hown' hg3 _
    obtain ⟨A3, cp3, rfl⟩ := own_form hown'
    have HL3 := hid (encT_len bs s)
    generalize bs.length + (encs [(s.size : Int)]).length + s.size = N3 at hown' HL3 ⊢
    have HO3 := hid hown'
    have hg2' := HG2.out
    have hsz2 := HG2.out.size
    rw [World.size_alloc] at hsz2
    have hne : some wb ≠ (Value.slice A2 (bs.length + (encs [(s.size : Int)]).length) cp2).ownBlock := by
      intro h
      rcases HOWN2.out.2 with ⟨hv, _⟩ | ⟨gg, cap, cur, hv, hge, _⟩
      · rw [hv] at h; cases h
      · rw [hv] at h; simp only [Value.ownBlock, Option.some.injEq] at h; omega
    have hb3 := grown_blk hg3 HB2.out hne
    have HB3 := hid hb3
    have e3 := blk_cell (o := 0) (v := Value.slice A2 (bs.length + (encs [(s.size : Int)]).length) cp2) hb3 rfl
    have ef3 := blk_free (o := 0) hb3
    have hl3 := blk_lt hb3
    have HG3 := hid hg3
    have hdata : List.map byteV bs ++ (List.map byteV (encs [(s.size : Int)]) ++ Lib.strCells s) = List.map byteV (bs ++ encT s) := by
      have : encs [(s.size : Int)] = encN s.size := by unfold encs; simp
      unfold encT
      rw [this, List.map_append, List.map_append]; rfl
    have HD := hid hdata
    clear hown' hb3 hg3 hg2' hdata e0
    go_wp2
    first | go_end0 | refine bodyPost_ret (results_none rfl _ _ _) rfl ?_
    have ho := HO3.out
    rw [HD.out] at ho
    have ho4 := ownsRow_setCell_below ho (a := ⟨wb, 0, none⟩) (by show wb < w.heap.size + 1; omega) (.slice A3 N3 cp3)
    have ho5 : OwnB (w3.setCell ⟨wb, 0, none⟩ (.slice A3 N3 cp3)) w.heap.size (.slice A3 N3 cp3) (bs ++ encT s) := by unfold OwnB; rw [← HL3.out]; exact own_base (Nat.le_succ _) ho4
    refine ⟨rfl, ⟨_, WrB.set HB3.out _, ho5⟩, ?_⟩
    have g1 : w.grownBy w9 (some wb) := (grown_kp ((Kp.refl w).alloc _) _).trans HG2.out
    have g2 : w.grownBy w3 (some wb) := by
      refine ⟨HG3.out.os.trans g1.os, HG3.out.tape.trans g1.tape, HG3.out.output.trans g1.output, Nat.le_trans g1.size HG3.out.size, fun k hk hne => ?_⟩
      rw [HG3.out.block k (Nat.lt_of_lt_of_le hk g1.size) ?_, g1.block k hk hne]
      intro h
      rcases HOWN2.out.2 with ⟨hv, _⟩ | ⟨gg, cap, cur, hv, hge, _⟩
      · rw [hv] at h; cases h
      · rw [hv] at h; simp only [Value.ownBlock, Option.some.injEq] at h; omega
    exact g2.trans (grown_setCell _)
end Go.Proofs.Ytlfgofjmcegeiaa
