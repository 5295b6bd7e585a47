/-
  Package parse: types (written by mkpar.py). Condition: at most 2000 tokens.
-/
import Derived.Test.YtgonekmmbeedeaaParS
namespace Go.Proofs.Ytgonekmmbeedeaa.Pa
open Go.RowKit
set_option linter.unusedVariables false
set_option linter.unusedSimpArgs false

theorem func_len {l : List ByteArray} {R : ByteArray} (h : (Ty.funcM l R).2 = 0) : (sB (Ty.funcM l R).1).size ≤ 1000 := by
  unfold Ty.funcM at h ⊢
  split at h
  · simp at h
  · split at h
    · simp at h
    · split at h
      · simp at h
      · split at h
        · simp at h
        · rename_i h1 h2 h3 h4
          rw [if_neg h1, if_neg h2, if_neg h3, if_neg h4]
          simp [sB, ByteArray.size]; omega
theorem rdS_own {w : World} {base : Nat} {v : Value} {l : List ByteArray} (h : OwnS w base v l) : Ty.RdS w v l := by
  rcases Nat.eq_zero_or_pos l.length with h0 | h0
  · obtain rfl := List.eq_nil_of_length_eq_zero h0
    obtain ⟨A, c, rfl⟩ := own_form h
    exact ⟨A, c, rfl, Nat.zero_le _, fun i x hi => by simp at hi⟩
  · obtain ⟨g, c, rfl, hc⟩ := rowSome h h0
    refine ⟨_, c, rfl, hc, fun i x hi => ⟨g, 0, rfl, (rowGe h).2, ?_⟩⟩
    have hil := (List.getElem?_eq_some_iff.1 hi).1
    rw [Nat.zero_add, (rowAt h (j := i) (by omega)).1, List.getElem?_map, hi]; rfl
theorem OwnS.gr {rp base : Nat} {w w' : World} {v : Value} {ss : List ByteArray} (h : OwnS w base v ss) (hg : w.grownBy w' (some rp)) (hb : rp < base) : OwnS w' base v ss := by
  refine World.ownsRow.kept h hg ?_
  cases hq : v.ownBlock with
  | none => exact .inl rfl
  | some g => exact .inr (fun e => by injection e with e; have := (World.ownsRow.lt h g hq).1; omega)
theorem grown_own {rp : Nat} {w w1 w2 : World} {row : Option Nat} (h : w.grownBy w1 (some rp)) (hg : w1.grownBy w2 row) (hr : ∀ g, row = some g → w.heap.size ≤ g) : w.grownBy w2 (some rp) :=
  ⟨hg.os.trans h.os, hg.tape.trans h.tape, hg.output.trans h.output, Nat.le_trans h.size hg.size, fun k hk hne => (hg.block k (Nat.lt_of_lt_of_le hk h.size) (fun e => by have := hr k e.symm; omega)).trans (h.block k hk hne)⟩
/-- The reader, where a row of strings turns. -/
theorem PrsV.grownS {w1 w2 : World} {rp base : Nat} {L : List TokenM} {l : List Tk} {ps : List GNode} {s : Nat} {lv tv v : Value} {ss : List ByteArray} (h : PrsV w1 rp L l ps s lv tv) (ho : OwnS w1 base v ss) (hb : rp < base) (hg : w1.grownBy w2 v.ownBlock) : PrsV w2 rp L l ps s lv tv := by
  have key : ∀ (k : Nat) (o : Obj), w1.heap[k]? = some o → (∀ cs fr, o ≠ Obj.cells cs 9 fr) → w2.heap[k]? = some o := fun k o hk hn => by
    refine grown_blk hg hk (fun e => ?_)
    rcases ho.2 with ⟨rfl, _⟩ | ⟨g, cap, cur, rfl, _, hgg, _⟩
    · cases e
    · simp only [Value.ownBlock, Option.some.injEq] at e
      subst e
      rw [hgg] at hk
      exact hn _ _ (Option.some.inj hk).symm
  obtain ⟨n, q⟩ := h
  have ow : ∀ {e : TypeId} {size m base : Nat} {v : Value} {xs : List Value}, e ≠ 9 → w1.ownsRow base e size v m xs → w2.ownsRow base e size v m xs := by
    intro e size m base v xs he hx
    obtain ⟨x1, x2⟩ := hx
    refine ⟨x1, ?_⟩
    rcases x2 with x2 | ⟨g, cap, cur, y1, y2, y3, y4⟩
    · exact .inl x2
    · exact .inr ⟨g, cap, cur, y1, y2, key g _ y3 (fun cs fr e' => by injection e' with _ e' _; exact he e'), y4⟩
  refine ⟨n, key _ _ q.blk (fun cs fr e => by injection e with _ e _; exact absurd e (by decide)), ?_, ?_, q.here, q.rest, q.nd, q.bd, q.lt⟩
  · obtain ⟨u0, h1, h2, h3⟩ := q.toks
    exact ⟨u0, h1, h2, h3.grown hg q.le (fun k hk => Nat.le_trans (Nat.le_of_lt hb) (World.ownsRow.lt ho k hk).1)⟩
  · obtain ⟨ys, h1, h2⟩ := q.tree
    exact ⟨ys, ow (by decide) h1, chunk_mem (fun cs a _ hc => ⟨hc.1, ow (by decide) hc.2.1, hc.2.2⟩) h2⟩
theorem PrsV.at_ {w : World} {rp : Nat} {L : List TokenM} {l : List Tk} {ps : List GNode} {s : Nat} {lv tv : Value} (h : PrsV w rp L l ps s lv tv) : L.length - atOf w rp = l.length := by
  obtain ⟨n, hp⟩ := h
  have := hp.here
  unfold atOf
  rw [hp.c1]
  simp; omega
theorem PrsV.lt {w : World} {rp : Nat} {L : List TokenM} {l : List Tk} {ps : List GNode} {s : Nat} {lv tv : Value} (h : PrsV w rp L l ps s lv tv) : rp < w.heap.size := by
  obtain ⟨n, hp⟩ := h; exact hp.rp_lt
theorem pkBox {rp rb j : Nat} {w w1 : World} (h : Pk rp w w1) (h1 : w.heap.size ≤ rb) (h2 : rp < rb) (v : Value) : Pk rp w (w1.setCell ⟨rb, j, none⟩ v) :=
  ⟨h.1.setCell (p := ⟨rb, j, none⟩) (Nat.le_of_lt h2) v, fun k o k1 k2 k3 => (blk_far (p := ⟨rb, j, none⟩) (show k ≠ rb by have := blk_lt k1; omega) v).trans (h.2 k o k1 k2 k3)⟩
theorem PrsV.text_ok {w : World} {rp : Nat} {L : List TokenM} {l : List Tk} {ps : List GNode} {s : Nat} {lv tv : Value} {b : Bs} (h : PrsV w rp L l ps s lv tv) (hs : isSign b l = true) : (textOf l.tail).size ≤ 140737488351232 := by
  obtain ⟨n, hp⟩ := h
  cases l with
  | nil => cases hs
  | cons t r =>
    have hp := hp.adv
    cases r with
    | nil => show noB.size ≤ _; decide
    | cons t2 r2 =>
      obtain ⟨_, _, _, _, _, _, _, _, _, _, _, _, _, hh, _⟩ := hp.tok
      exact hh
theorem PrsV.short {w : World} {rp : Nat} {L : List TokenM} {l : List Tk} {ps : List GNode} {s : Nat} {lv tv : Value} (h : PrsV w rp L l ps s lv tv) : l.length ≤ 2000 := by
  obtain ⟨n, hp⟩ := h
  have := hp.here; have := hp.lt; omega
theorem func_v {w : World} {base : Nat} {v : Value} {us : List Bs} {q : Bs} (ho : OwnS w base v (us.map sB)) (hz : ∀ x ∈ us, (sB x).size ≤ 1000) (hu : us.length ≤ 2000) (hq : (sB q).size ≤ 1000) : Calls Try.prog 95 #[v, .string (sB q)] w fun e w' => e = .returned (.tuple #[.string (sB (Ty.funcM (us.map sB) (sB q)).1), .int .i64 (Ty.funcM (us.map sB) (sB q)).2]) ∧ Kp w w' :=
  Ty.func_any w v (us.map sB) (sB q) (rdS_own ho) (fun x hx => by obtain ⟨b, hb, rfl⟩ := List.mem_map.1 hx; exact Nat.le_trans (hz b hb) (by decide)) (Nat.le_trans hq (by decide)) (by rw [List.length_map]; omega)
theorem PrsV.below {w w1 w2 : World} {rp : Nat} {L : List TokenM} {l : List Tk} {ps : List GNode} {s : Nat} {lv tv : Value} (h : PrsV w rp L l ps s lv tv) (hg : w.grownBy w1 (some rp)) (hk : Kp w1 w2) : Below rp w w2 :=
  (Pk.of_grown (hg.trans (grown_kp hk _)) (Nat.le_of_lt h.lt)).1
theorem PrsV.below2 {w w1 w2 : World} {rp : Nat} {L : List TokenM} {l : List Tk} {ps : List GNode} {s : Nat} {lv tv : Value} (h : PrsV w rp L l ps s lv tv) (hg : w.grownBy w1 (some rp)) (hb : Below rp w1 w2) : Below rp w w2 :=
  Below.trans (Pk.of_grown hg (Nat.le_of_lt h.lt)).1 hb
@[go_sem] theorem ty4_idx0 (w : World) : Sem.run Try.prog (Instr.index 137 (.agg #[.string ⟨#[105, 110, 116]⟩, .string ⟨#[98, 111, 111, 108]⟩, .string ⟨#[115, 116, 114, 105, 110, 103]⟩, .string ⟨#[97, 110, 121]⟩]) (.int .i64 0)) w = .ok (.string ⟨#[105, 110, 116]⟩) w := by kernel_rfl
@[go_sem] theorem ty4_idx1 (w : World) : Sem.run Try.prog (Instr.index 137 (.agg #[.string ⟨#[105, 110, 116]⟩, .string ⟨#[98, 111, 111, 108]⟩, .string ⟨#[115, 116, 114, 105, 110, 103]⟩, .string ⟨#[97, 110, 121]⟩]) (.int .i64 1)) w = .ok (.string ⟨#[98, 111, 111, 108]⟩) w := by kernel_rfl
@[go_sem] theorem ty4_idx2 (w : World) : Sem.run Try.prog (Instr.index 137 (.agg #[.string ⟨#[105, 110, 116]⟩, .string ⟨#[98, 111, 111, 108]⟩, .string ⟨#[115, 116, 114, 105, 110, 103]⟩, .string ⟨#[97, 110, 121]⟩]) (.int .i64 2)) w = .ok (.string ⟨#[115, 116, 114, 105, 110, 103]⟩) w := by kernel_rfl
@[go_sem] theorem ty4_idx3 (w : World) : Sem.run Try.prog (Instr.index 137 (.agg #[.string ⟨#[105, 110, 116]⟩, .string ⟨#[98, 111, 111, 108]⟩, .string ⟨#[115, 116, 114, 105, 110, 103]⟩, .string ⟨#[97, 110, 121]⟩]) (.int .i64 3)) w = .ok (.string ⟨#[97, 110, 121]⟩) w := by kernel_rfl
@[go_sem] theorem ty7_idx0 (w : World) : Sem.run Try.prog (Instr.index 139 (.agg #[.string ⟨#[105, 110, 116]⟩, .string ⟨#[98, 111, 111, 108]⟩, .string ⟨#[115, 116, 114, 105, 110, 103]⟩, .string ⟨#[97, 110, 121]⟩, .string ⟨#[91]⟩, .string ⟨#[42]⟩, .string ⟨#[102, 117, 110, 99]⟩]) (.int .i64 0)) w = .ok (.string ⟨#[105, 110, 116]⟩) w := by kernel_rfl
@[go_sem] theorem ty7_idx1 (w : World) : Sem.run Try.prog (Instr.index 139 (.agg #[.string ⟨#[105, 110, 116]⟩, .string ⟨#[98, 111, 111, 108]⟩, .string ⟨#[115, 116, 114, 105, 110, 103]⟩, .string ⟨#[97, 110, 121]⟩, .string ⟨#[91]⟩, .string ⟨#[42]⟩, .string ⟨#[102, 117, 110, 99]⟩]) (.int .i64 1)) w = .ok (.string ⟨#[98, 111, 111, 108]⟩) w := by kernel_rfl
@[go_sem] theorem ty7_idx2 (w : World) : Sem.run Try.prog (Instr.index 139 (.agg #[.string ⟨#[105, 110, 116]⟩, .string ⟨#[98, 111, 111, 108]⟩, .string ⟨#[115, 116, 114, 105, 110, 103]⟩, .string ⟨#[97, 110, 121]⟩, .string ⟨#[91]⟩, .string ⟨#[42]⟩, .string ⟨#[102, 117, 110, 99]⟩]) (.int .i64 2)) w = .ok (.string ⟨#[115, 116, 114, 105, 110, 103]⟩) w := by kernel_rfl
@[go_sem] theorem ty7_idx3 (w : World) : Sem.run Try.prog (Instr.index 139 (.agg #[.string ⟨#[105, 110, 116]⟩, .string ⟨#[98, 111, 111, 108]⟩, .string ⟨#[115, 116, 114, 105, 110, 103]⟩, .string ⟨#[97, 110, 121]⟩, .string ⟨#[91]⟩, .string ⟨#[42]⟩, .string ⟨#[102, 117, 110, 99]⟩]) (.int .i64 3)) w = .ok (.string ⟨#[97, 110, 121]⟩) w := by kernel_rfl
@[go_sem] theorem ty7_idx4 (w : World) : Sem.run Try.prog (Instr.index 139 (.agg #[.string ⟨#[105, 110, 116]⟩, .string ⟨#[98, 111, 111, 108]⟩, .string ⟨#[115, 116, 114, 105, 110, 103]⟩, .string ⟨#[97, 110, 121]⟩, .string ⟨#[91]⟩, .string ⟨#[42]⟩, .string ⟨#[102, 117, 110, 99]⟩]) (.int .i64 4)) w = .ok (.string ⟨#[91]⟩) w := by kernel_rfl
@[go_sem] theorem ty7_idx5 (w : World) : Sem.run Try.prog (Instr.index 139 (.agg #[.string ⟨#[105, 110, 116]⟩, .string ⟨#[98, 111, 111, 108]⟩, .string ⟨#[115, 116, 114, 105, 110, 103]⟩, .string ⟨#[97, 110, 121]⟩, .string ⟨#[91]⟩, .string ⟨#[42]⟩, .string ⟨#[102, 117, 110, 99]⟩]) (.int .i64 5)) w = .ok (.string ⟨#[42]⟩) w := by kernel_rfl
@[go_sem] theorem ty7_idx6 (w : World) : Sem.run Try.prog (Instr.index 139 (.agg #[.string ⟨#[105, 110, 116]⟩, .string ⟨#[98, 111, 111, 108]⟩, .string ⟨#[115, 116, 114, 105, 110, 103]⟩, .string ⟨#[97, 110, 121]⟩, .string ⟨#[91]⟩, .string ⟨#[42]⟩, .string ⟨#[102, 117, 110, 99]⟩]) (.int .i64 6)) w = .ok (.string ⟨#[102, 117, 110, 99]⟩) w := by kernel_rfl
set_option maxRecDepth 20000 in
set_option maxHeartbeats 16000000 in
theorem typed_v {w : World} {rp : Nat} {L : List TokenM} {l : List Tk} {ps : List GNode} {s : Nat} {lv tv : Value} (h : PrsV w rp L l ps s lv tv) : Calls Try.prog 87 #[.pointer (some ⟨rp, 0, none⟩)] w fun e w' => e = .returned (.bool (typed l)) ∧ Kp w w' := by
  have HV0 := hid h
  clear h
  go_enter Try.func87, Try.ntmps87
  go_wp2_with fail
  go_loopw [4, 6] (fun _ i wr => ∃ k : Nat, i = .int .i64 (k : Int) ∧ k ≤ 7 ∧ (∀ j, j < k → isSign (tyHeads.getD j []) l = false) ∧ Kp w wr) (fun _ i _ => 7 - (intOf i).toNat)
  case atStart => exact ⟨0, rfl, by omega, fun j h => by omega, Kp.refl _⟩
  case round =>
    obtain ⟨k, rfl, hk, hf, hkk⟩ := hrel
    have HF := hid hf
    have HKK := hid hkk
    clear hf hkk
    obtain rfl | rfl | rfl | rfl | rfl | rfl | rfl | rfl : k = 0 ∨ k = 1 ∨ k = 2 ∨ k = 3 ∨ k = 4 ∨ k = 5 ∨ k = 6 ∨ k = 7 := by omega
    · clear hk
      by_cases c : isSign [105, 110, 116] l = true
      · go_wp2_with (go_at_call 96; go_must (refine (looks_any _ rp ⟨#[105, 110, 116]⟩ [105, 110, 116] rfl (HV0.out.kp HKK.out).e).mono ?_); rintro e wn ⟨rfl, hk⟩; rw [c]; have HKK := hid (HKK.out.trans hk); clear hk)
        go_ret
        exact ⟨by rw [show typed l = true from List.any_eq_true.2 ⟨[105, 110, 116], by decide, c⟩]; rfl, HKK.out⟩
      · have g := eq_false_of_ne_true c
        clear c
        go_wp2_with (go_at_call 96; go_must (refine (looks_any _ rp ⟨#[105, 110, 116]⟩ [105, 110, 116] rfl (HV0.out.kp HKK.out).e).mono ?_); rintro e wn ⟨rfl, hk⟩; rw [g]; have HKK := hid (HKK.out.trans hk); clear hk)
        refine ⟨⟨1, rfl, by omega, fun j hj => ?_, HKK.out⟩, by simp only [intOf]; omega⟩
        rcases Nat.lt_or_ge j 0 with h | h
        · exact HF.out j h
        · obtain rfl : j = 0 := by omega
          exact g
    · clear hk
      by_cases c : isSign [98, 111, 111, 108] l = true
      · go_wp2_with (go_at_call 96; go_must (refine (looks_any _ rp ⟨#[98, 111, 111, 108]⟩ [98, 111, 111, 108] rfl (HV0.out.kp HKK.out).e).mono ?_); rintro e wn ⟨rfl, hk⟩; rw [c]; have HKK := hid (HKK.out.trans hk); clear hk)
        go_ret
        exact ⟨by rw [show typed l = true from List.any_eq_true.2 ⟨[98, 111, 111, 108], by decide, c⟩]; rfl, HKK.out⟩
      · have g := eq_false_of_ne_true c
        clear c
        go_wp2_with (go_at_call 96; go_must (refine (looks_any _ rp ⟨#[98, 111, 111, 108]⟩ [98, 111, 111, 108] rfl (HV0.out.kp HKK.out).e).mono ?_); rintro e wn ⟨rfl, hk⟩; rw [g]; have HKK := hid (HKK.out.trans hk); clear hk)
        refine ⟨⟨2, rfl, by omega, fun j hj => ?_, HKK.out⟩, by simp only [intOf]; omega⟩
        rcases Nat.lt_or_ge j 1 with h | h
        · exact HF.out j h
        · obtain rfl : j = 1 := by omega
          exact g
    · clear hk
      by_cases c : isSign [115, 116, 114, 105, 110, 103] l = true
      · go_wp2_with (go_at_call 96; go_must (refine (looks_any _ rp ⟨#[115, 116, 114, 105, 110, 103]⟩ [115, 116, 114, 105, 110, 103] rfl (HV0.out.kp HKK.out).e).mono ?_); rintro e wn ⟨rfl, hk⟩; rw [c]; have HKK := hid (HKK.out.trans hk); clear hk)
        go_ret
        exact ⟨by rw [show typed l = true from List.any_eq_true.2 ⟨[115, 116, 114, 105, 110, 103], by decide, c⟩]; rfl, HKK.out⟩
      · have g := eq_false_of_ne_true c
        clear c
        go_wp2_with (go_at_call 96; go_must (refine (looks_any _ rp ⟨#[115, 116, 114, 105, 110, 103]⟩ [115, 116, 114, 105, 110, 103] rfl (HV0.out.kp HKK.out).e).mono ?_); rintro e wn ⟨rfl, hk⟩; rw [g]; have HKK := hid (HKK.out.trans hk); clear hk)
        refine ⟨⟨3, rfl, by omega, fun j hj => ?_, HKK.out⟩, by simp only [intOf]; omega⟩
        rcases Nat.lt_or_ge j 2 with h | h
        · exact HF.out j h
        · obtain rfl : j = 2 := by omega
          exact g
    · clear hk
      by_cases c : isSign [97, 110, 121] l = true
      · go_wp2_with (go_at_call 96; go_must (refine (looks_any _ rp ⟨#[97, 110, 121]⟩ [97, 110, 121] rfl (HV0.out.kp HKK.out).e).mono ?_); rintro e wn ⟨rfl, hk⟩; rw [c]; have HKK := hid (HKK.out.trans hk); clear hk)
        go_ret
        exact ⟨by rw [show typed l = true from List.any_eq_true.2 ⟨[97, 110, 121], by decide, c⟩]; rfl, HKK.out⟩
      · have g := eq_false_of_ne_true c
        clear c
        go_wp2_with (go_at_call 96; go_must (refine (looks_any _ rp ⟨#[97, 110, 121]⟩ [97, 110, 121] rfl (HV0.out.kp HKK.out).e).mono ?_); rintro e wn ⟨rfl, hk⟩; rw [g]; have HKK := hid (HKK.out.trans hk); clear hk)
        refine ⟨⟨4, rfl, by omega, fun j hj => ?_, HKK.out⟩, by simp only [intOf]; omega⟩
        rcases Nat.lt_or_ge j 3 with h | h
        · exact HF.out j h
        · obtain rfl : j = 3 := by omega
          exact g
    · clear hk
      by_cases c : isSign [91] l = true
      · go_wp2_with (go_at_call 96; go_must (refine (looks_any _ rp ⟨#[91]⟩ [91] rfl (HV0.out.kp HKK.out).e).mono ?_); rintro e wn ⟨rfl, hk⟩; rw [c]; have HKK := hid (HKK.out.trans hk); clear hk)
        go_ret
        exact ⟨by rw [show typed l = true from List.any_eq_true.2 ⟨[91], by decide, c⟩]; rfl, HKK.out⟩
      · have g := eq_false_of_ne_true c
        clear c
        go_wp2_with (go_at_call 96; go_must (refine (looks_any _ rp ⟨#[91]⟩ [91] rfl (HV0.out.kp HKK.out).e).mono ?_); rintro e wn ⟨rfl, hk⟩; rw [g]; have HKK := hid (HKK.out.trans hk); clear hk)
        refine ⟨⟨5, rfl, by omega, fun j hj => ?_, HKK.out⟩, by simp only [intOf]; omega⟩
        rcases Nat.lt_or_ge j 4 with h | h
        · exact HF.out j h
        · obtain rfl : j = 4 := by omega
          exact g
    · clear hk
      by_cases c : isSign [42] l = true
      · go_wp2_with (go_at_call 96; go_must (refine (looks_any _ rp ⟨#[42]⟩ [42] rfl (HV0.out.kp HKK.out).e).mono ?_); rintro e wn ⟨rfl, hk⟩; rw [c]; have HKK := hid (HKK.out.trans hk); clear hk)
        go_ret
        exact ⟨by rw [show typed l = true from List.any_eq_true.2 ⟨[42], by decide, c⟩]; rfl, HKK.out⟩
      · have g := eq_false_of_ne_true c
        clear c
        go_wp2_with (go_at_call 96; go_must (refine (looks_any _ rp ⟨#[42]⟩ [42] rfl (HV0.out.kp HKK.out).e).mono ?_); rintro e wn ⟨rfl, hk⟩; rw [g]; have HKK := hid (HKK.out.trans hk); clear hk)
        refine ⟨⟨6, rfl, by omega, fun j hj => ?_, HKK.out⟩, by simp only [intOf]; omega⟩
        rcases Nat.lt_or_ge j 5 with h | h
        · exact HF.out j h
        · obtain rfl : j = 5 := by omega
          exact g
    · clear hk
      by_cases c : isSign [102, 117, 110, 99] l = true
      · go_wp2_with (go_at_call 96; go_must (refine (looks_any _ rp ⟨#[102, 117, 110, 99]⟩ [102, 117, 110, 99] rfl (HV0.out.kp HKK.out).e).mono ?_); rintro e wn ⟨rfl, hk⟩; rw [c]; have HKK := hid (HKK.out.trans hk); clear hk)
        go_ret
        exact ⟨by rw [show typed l = true from List.any_eq_true.2 ⟨[102, 117, 110, 99], by decide, c⟩]; rfl, HKK.out⟩
      · have g := eq_false_of_ne_true c
        clear c
        go_wp2_with (go_at_call 96; go_must (refine (looks_any _ rp ⟨#[102, 117, 110, 99]⟩ [102, 117, 110, 99] rfl (HV0.out.kp HKK.out).e).mono ?_); rintro e wn ⟨rfl, hk⟩; rw [g]; have HKK := hid (HKK.out.trans hk); clear hk)
        refine ⟨⟨7, rfl, by omega, fun j hj => ?_, HKK.out⟩, by simp only [intOf]; omega⟩
        rcases Nat.lt_or_ge j 6 with h | h
        · exact HF.out j h
        · obtain rfl : j = 6 := by omega
          exact g
    · have hn : typed l = false := by
        have g := HF.out
        simp [typed, tyHeads, show isSign (kInt) l = false from g 0 (by omega), show isSign (kBool) l = false from g 1 (by omega), show isSign (kString) l = false from g 2 (by omega), show isSign (kAny) l = false from g 3 (by omega), show isSign ([91]) l = false from g 4 (by omega), show isSign ([42]) l = false from g 5 (by omega), show isSign (kFunc) l = false from g 6 (by omega)]
      go_wp2_with fail
      go_ret
      exact ⟨by rw [hn]; rfl, HKK.out⟩
theorem typed_ok {w0 w : World} {rp : Nat} {L : List TokenM} {l : List Tk} {ps na : List GNode} {ts : List T} {s : Nat} {kv : Value} {kids : List Int} (h : StT w0 rp L l ps na ts s kv kids w) : Calls Try.prog 87 #[.pointer (some ⟨rp, 0, none⟩)] w fun e w' => e = .returned (.bool (typed l)) ∧ StT w0 rp L l ps na ts s kv kids w' ∧ Kp w w' := by
  have hh := h
  obtain ⟨new, hn⟩ := h
  obtain ⟨lv, tv, hv⟩ := hn.prs
  exact (typed_v hv).mono fun e w' ⟨h1, h2⟩ => ⟨h1, hh.kp h2, h2⟩

set_option maxRecDepth 20000 in
set_option maxHeartbeats 16000000 in
theorem typ_v : ∀ f, CV 86 (typF f) := by
  intro f
  induction f using Nat.strongRecOn with
  | _ f IH =>
    cases f with
    | zero => intro w rp L l ps s lv tv h hne; exact absurd (by rw [typF]) hne
    | succ f =>
      have H : ∀ g, g ≤ f → CV 86 (typF g) := fun g hg => IH g (by omega)
      clear IH
      intro w rp L l qs s lv tv h hne
      have HV := hid h
      have HV0 := hid h
      have HNE := hid hne
      clear h hne
      go_enter Try.func86, Try.ntmps86
      go_wp2_with fail
      go_loopw [4, 10] (fun _ i wr => ∃ k : Nat, i = .int .i64 (k : Int) ∧ k ≤ 4 ∧ (∀ j, j < k → isSign (tyNames.getD j []) l = false) ∧ Kp w wr) (fun _ i _ => 4 - (intOf i).toNat)
      case atStart => exact ⟨0, rfl, by omega, fun j h => by omega, Kp.refl _⟩
      case round =>
        obtain ⟨k, rfl, hk, hf, hkk⟩ := hrel
        have HF := hid hf
        have HV := hid (HV.out.kp hkk)
        have HG := hid (grown_kp hkk (some rp))
        have HKK := hid hkk
        clear hf hkk
        obtain rfl | rfl | rfl | rfl | rfl : k = 0 ∨ k = 1 ∨ k = 2 ∨ k = 3 ∨ k = 4 := by omega
        · clear hk
          by_cases c : isSign [105, 110, 116] l = true
          · have hf : firstOf tyNames l = some kInt := by simp [firstOf, tyNames, show isSign kInt l = true from c]
            have hr : typF (f + 1) l = .ok kInt l.tail := by rw [typF, hf]
            have HR := hid hr
            clear hr hf 
            go_wp2_with (go_at_call 85; go_must (refine (sign_yes _ rp ⟨#[105, 110, 116]⟩ [105, 110, 116] rfl HV.out c).mono ?_); rintro e wn ⟨rfl, hs, hk⟩; have HV := hid hs; have HG := hid (HG.out.trans hk); clear hs hk)
            go_ret
            rw [HR.out]
            exact ⟨rfl, by decide, HV.out.weak (by omega), HG.out⟩
          · have g := eq_false_of_ne_true c
            clear c
            go_wp2_with (go_at_call 85; go_must (refine (sign_no _ rp ⟨#[105, 110, 116]⟩ [105, 110, 116] rfl HV.out.e g).mono ?_); rintro e wn ⟨rfl, hk⟩; have HKK := hid (HKK.out.trans hk); clear hk)
            refine ⟨⟨1, rfl, by omega, fun j hj => ?_, HKK.out⟩, by simp only [intOf]; omega⟩
            rcases Nat.lt_or_ge j 0 with h | h
            · exact HF.out j h
            · obtain rfl : j = 0 := by omega
              exact g
        · clear hk
          by_cases c : isSign [98, 111, 111, 108] l = true
          · have f0 := HF.out 0 (by omega)
            have hf : firstOf tyNames l = some kBool := by simp [firstOf, tyNames, show isSign kInt l = false from f0, show isSign kBool l = true from c]
            have hr : typF (f + 1) l = .ok kBool l.tail := by rw [typF, hf]
            have HR := hid hr
            clear hr hf f0
            go_wp2_with (go_at_call 85; go_must (refine (sign_yes _ rp ⟨#[98, 111, 111, 108]⟩ [98, 111, 111, 108] rfl HV.out c).mono ?_); rintro e wn ⟨rfl, hs, hk⟩; have HV := hid hs; have HG := hid (HG.out.trans hk); clear hs hk)
            go_ret
            rw [HR.out]
            exact ⟨rfl, by decide, HV.out.weak (by omega), HG.out⟩
          · have g := eq_false_of_ne_true c
            clear c
            go_wp2_with (go_at_call 85; go_must (refine (sign_no _ rp ⟨#[98, 111, 111, 108]⟩ [98, 111, 111, 108] rfl HV.out.e g).mono ?_); rintro e wn ⟨rfl, hk⟩; have HKK := hid (HKK.out.trans hk); clear hk)
            refine ⟨⟨2, rfl, by omega, fun j hj => ?_, HKK.out⟩, by simp only [intOf]; omega⟩
            rcases Nat.lt_or_ge j 1 with h | h
            · exact HF.out j h
            · obtain rfl : j = 1 := by omega
              exact g
        · clear hk
          by_cases c : isSign [115, 116, 114, 105, 110, 103] l = true
          · have f0 := HF.out 0 (by omega)
            have f1 := HF.out 1 (by omega)
            have hf : firstOf tyNames l = some kString := by simp [firstOf, tyNames, show isSign kInt l = false from f0, show isSign kBool l = false from f1, show isSign kString l = true from c]
            have hr : typF (f + 1) l = .ok kString l.tail := by rw [typF, hf]
            have HR := hid hr
            clear hr hf f0 f1
            go_wp2_with (go_at_call 85; go_must (refine (sign_yes _ rp ⟨#[115, 116, 114, 105, 110, 103]⟩ [115, 116, 114, 105, 110, 103] rfl HV.out c).mono ?_); rintro e wn ⟨rfl, hs, hk⟩; have HV := hid hs; have HG := hid (HG.out.trans hk); clear hs hk)
            go_ret
            rw [HR.out]
            exact ⟨rfl, by decide, HV.out.weak (by omega), HG.out⟩
          · have g := eq_false_of_ne_true c
            clear c
            go_wp2_with (go_at_call 85; go_must (refine (sign_no _ rp ⟨#[115, 116, 114, 105, 110, 103]⟩ [115, 116, 114, 105, 110, 103] rfl HV.out.e g).mono ?_); rintro e wn ⟨rfl, hk⟩; have HKK := hid (HKK.out.trans hk); clear hk)
            refine ⟨⟨3, rfl, by omega, fun j hj => ?_, HKK.out⟩, by simp only [intOf]; omega⟩
            rcases Nat.lt_or_ge j 2 with h | h
            · exact HF.out j h
            · obtain rfl : j = 2 := by omega
              exact g
        · clear hk
          by_cases c : isSign [97, 110, 121] l = true
          · have f0 := HF.out 0 (by omega)
            have f1 := HF.out 1 (by omega)
            have f2 := HF.out 2 (by omega)
            have hf : firstOf tyNames l = some kAny := by simp [firstOf, tyNames, show isSign kInt l = false from f0, show isSign kBool l = false from f1, show isSign kString l = false from f2, show isSign kAny l = true from c]
            have hr : typF (f + 1) l = .ok kAny l.tail := by rw [typF, hf]
            have HR := hid hr
            clear hr hf f0 f1 f2
            go_wp2_with (go_at_call 85; go_must (refine (sign_yes _ rp ⟨#[97, 110, 121]⟩ [97, 110, 121] rfl HV.out c).mono ?_); rintro e wn ⟨rfl, hs, hk⟩; have HV := hid hs; have HG := hid (HG.out.trans hk); clear hs hk)
            go_ret
            rw [HR.out]
            exact ⟨rfl, by decide, HV.out.weak (by omega), HG.out⟩
          · have g := eq_false_of_ne_true c
            clear c
            go_wp2_with (go_at_call 85; go_must (refine (sign_no _ rp ⟨#[97, 110, 121]⟩ [97, 110, 121] rfl HV.out.e g).mono ?_); rintro e wn ⟨rfl, hk⟩; have HKK := hid (HKK.out.trans hk); clear hk)
            refine ⟨⟨4, rfl, by omega, fun j hj => ?_, HKK.out⟩, by simp only [intOf]; omega⟩
            rcases Nat.lt_or_ge j 3 with h | h
            · exact HF.out j h
            · obtain rfl : j = 3 := by omega
              exact g
        · have hf : firstOf tyNames l = none := by
            have g := HF.out
            simp [firstOf, tyNames, show isSign (kInt) l = false from g 0 (by omega), show isSign (kBool) l = false from g 1 (by omega), show isSign (kString) l = false from g 2 (by omega), show isSign (kAny) l = false from g 3 (by omega)]
          clear HF hk
          by_cases c : isSign [91] l = true
          · by_cases d : isSign [93] l.tail = true
            rotate_left
            · have d2 := eq_false_of_ne_true d
              have HR := hid (show typF (f + 1) l = .bad from by rw [typF, hf]; simp [c, d2, want, Pr.bind])
              clear hf
              go_upto_region 8 with (go_at_call 85; go_must (refine (sign_yes _ rp ⟨#[91]⟩ [91] rfl HV.out c).mono ?_); rintro e wn ⟨rfl, hs, hk⟩; have HV := hid hs; have HG := hid (HG.out.trans hk); clear hs hk)
              go_wp2_with (go_at_call 65; go_must (refine (want_no _ rp ⟨#[93]⟩ [93] rfl HV.out.e d2).mono ?_); rintro e wn ⟨rfl, hk⟩; unfold stopP; have HB := hid (HV0.out.below HG.out hk); clear hk)
              rw [HR.out]
              exact ⟨rfl, rfl, HB.out⟩
            by_cases e : isSign kInt l.tail.tail = true
            rotate_left
            · have e2 := eq_false_of_ne_true e
              have HR := hid (show typF (f + 1) l = .bad from by rw [typF, hf]; simp [c, d, e2, want, Pr.bind])
              clear hf
              go_upto_region 8 with (go_at_call 85; go_must (refine (sign_yes _ rp ⟨#[91]⟩ [91] rfl HV.out c).mono ?_); rintro e wn ⟨rfl, hs, hk⟩; have HV := hid hs; have HG := hid (HG.out.trans hk); clear hs hk)
              go_upto_region 9 with (go_at_call 65; go_must (refine (want_yes _ rp ⟨#[93]⟩ [93] rfl HV.out d).mono ?_); rintro e wn ⟨rfl, hs, hk⟩; have HV := hid hs; have HG := hid (HG.out.trans hk); clear hs hk)
              go_wp2_with (go_at_call 65; go_must (refine (want_no _ rp ⟨#[105, 110, 116]⟩ [105, 110, 116] rfl HV.out.e e2).mono ?_); rintro e wn ⟨rfl, hk⟩; unfold stopP; have HB := hid (HV0.out.below HG.out hk); clear hk)
              rw [HR.out]
              exact ⟨rfl, rfl, HB.out⟩
            have HR := hid (show typF (f + 1) l = .ok kInts l.tail.tail.tail from by rw [typF, hf]; simp [c, d, e, want, Pr.bind])
            clear hf
            go_upto_region 8 with (go_at_call 85; go_must (refine (sign_yes _ rp ⟨#[91]⟩ [91] rfl HV.out c).mono ?_); rintro e wn ⟨rfl, hs, hk⟩; have HV := hid hs; have HG := hid (HG.out.trans hk); clear hs hk)
            go_upto_region 9 with (go_at_call 65; go_must (refine (want_yes _ rp ⟨#[93]⟩ [93] rfl HV.out d).mono ?_); rintro e wn ⟨rfl, hs, hk⟩; have HV := hid hs; have HG := hid (HG.out.trans hk); clear hs hk)
            go_wp2_with (go_at_call 65; go_must (refine (want_yes _ rp ⟨#[105, 110, 116]⟩ [105, 110, 116] rfl HV.out e).mono ?_); rintro e wn ⟨rfl, hs, hk⟩; have HV := hid hs; have HG := hid (HG.out.trans hk); clear hs hk)
            go_ret
            rw [HR.out]
            exact ⟨rfl, by decide, HV.out.weak (by omega), HG.out⟩
          have g1 := eq_false_of_ne_true c
          clear c
          by_cases c : isSign [42] l = true
          · by_cases e : isSign kInt l.tail = true
            rotate_left
            · have e2 := eq_false_of_ne_true e
              have HR := hid (show typF (f + 1) l = .bad from by rw [typF, hf]; simp [g1, c, e2, want, Pr.bind])
              clear hf
              go_upto_region 11 with (go_at_call 85; go_must (refine (sign_no _ rp ⟨#[91]⟩ [91] rfl HV.out.e g1).mono ?_); rintro e wn ⟨rfl, hk⟩; have HV := hid (HV.out.kp hk); have HG := hid (HG.out.trans (grown_kp hk _)); clear hk)
              go_upto_region 12 with (go_at_call 85; go_must (refine (sign_yes _ rp ⟨#[42]⟩ [42] rfl HV.out c).mono ?_); rintro e wn ⟨rfl, hs, hk⟩; have HV := hid hs; have HG := hid (HG.out.trans hk); clear hs hk)
              go_wp2_with (go_at_call 65; go_must (refine (want_no _ rp ⟨#[105, 110, 116]⟩ [105, 110, 116] rfl HV.out.e e2).mono ?_); rintro e wn ⟨rfl, hk⟩; unfold stopP; have HB := hid (HV0.out.below HG.out hk); clear hk)
              rw [HR.out]
              exact ⟨rfl, rfl, HB.out⟩
            have HR := hid (show typF (f + 1) l = .ok kPtr l.tail.tail from by rw [typF, hf]; simp [g1, c, e, want, Pr.bind])
            clear hf
            go_upto_region 11 with (go_at_call 85; go_must (refine (sign_no _ rp ⟨#[91]⟩ [91] rfl HV.out.e g1).mono ?_); rintro e wn ⟨rfl, hk⟩; have HV := hid (HV.out.kp hk); have HG := hid (HG.out.trans (grown_kp hk _)); clear hk)
            go_upto_region 12 with (go_at_call 85; go_must (refine (sign_yes _ rp ⟨#[42]⟩ [42] rfl HV.out c).mono ?_); rintro e wn ⟨rfl, hs, hk⟩; have HV := hid hs; have HG := hid (HG.out.trans hk); clear hs hk)
            go_wp2_with (go_at_call 65; go_must (refine (want_yes _ rp ⟨#[105, 110, 116]⟩ [105, 110, 116] rfl HV.out e).mono ?_); rintro e wn ⟨rfl, hs, hk⟩; have HV := hid hs; have HG := hid (HG.out.trans hk); clear hs hk)
            go_ret
            rw [HR.out]
            exact ⟨rfl, by decide, HV.out.weak (by omega), HG.out⟩
          have g2 := eq_false_of_ne_true c
          clear c
          by_cases c3 : isSign kFunc l = true
          rotate_left
          · have e2 := eq_false_of_ne_true c3
            have HR := hid (show typF (f + 1) l = .bad from by rw [typF, hf]; simp [g1, g2, e2, want, Pr.bind])
            clear hf
            go_upto_region 11 with (go_at_call 85; go_must (refine (sign_no _ rp ⟨#[91]⟩ [91] rfl HV.out.e g1).mono ?_); rintro e wn ⟨rfl, hk⟩; have HV := hid (HV.out.kp hk); have HG := hid (HG.out.trans (grown_kp hk _)); clear hk)
            go_upto_region 14 with (go_at_call 85; go_must (refine (sign_no _ rp ⟨#[42]⟩ [42] rfl HV.out.e g2).mono ?_); rintro e wn ⟨rfl, hk⟩; have HV := hid (HV.out.kp hk); have HG := hid (HG.out.trans (grown_kp hk _)); clear hk)
            go_wp2_with (go_at_call 65; go_must (refine (want_no _ rp ⟨#[102, 117, 110, 99]⟩ [102, 117, 110, 99] rfl HV.out.e e2).mono ?_); rintro e wn ⟨rfl, hk⟩; unfold stopP; have HB := hid (HV0.out.below HG.out hk); clear hk)
            rw [HR.out]
            exact ⟨rfl, rfl, HB.out⟩
          by_cases c4 : isSign [40] l.tail = true
          rotate_left
          · have e2 := eq_false_of_ne_true c4
            have HR := hid (show typF (f + 1) l = .bad from by rw [typF, hf]; simp [g1, g2, c3, e2, want, Pr.bind])
            clear hf
            go_upto_region 11 with (go_at_call 85; go_must (refine (sign_no _ rp ⟨#[91]⟩ [91] rfl HV.out.e g1).mono ?_); rintro e wn ⟨rfl, hk⟩; have HV := hid (HV.out.kp hk); have HG := hid (HG.out.trans (grown_kp hk _)); clear hk)
            go_upto_region 14 with (go_at_call 85; go_must (refine (sign_no _ rp ⟨#[42]⟩ [42] rfl HV.out.e g2).mono ?_); rintro e wn ⟨rfl, hk⟩; have HV := hid (HV.out.kp hk); have HG := hid (HG.out.trans (grown_kp hk _)); clear hk)
            go_upto_region 15 with (go_at_call 65; go_must (refine (want_yes _ rp ⟨#[102, 117, 110, 99]⟩ [102, 117, 110, 99] rfl HV.out c3).mono ?_); rintro e wn ⟨rfl, hs, hk⟩; have HV := hid hs; have HG := hid (HG.out.trans hk); clear hs hk)
            go_wp2_with (go_at_call 65; go_must (refine (want_no _ rp ⟨#[40]⟩ [40] rfl HV.out.e e2).mono ?_); rintro e wn ⟨rfl, hk⟩; unfold stopP; have HB := hid (HV0.out.below HG.out hk); clear hk)
            rw [HR.out]
            exact ⟨rfl, rfl, HB.out⟩
          have e1 : typF (f + 1) l = (typsF f [] l.tail.tail).bind fun ps r => (if typed r then typF f r else .ok [] r).bind fun q r => if (Ty.funcM (ps.map sB) (sB q)).2 = 0 then .ok (Ty.funcM (ps.map sB) (sB q)).1 r else .bad := by rw [typF, hf]; simp [g1, g2, c3, c4, want, Pr.bind]
          have HE := hid e1
          generalize hR : typsF f [] l.tail.tail = R at e1
          have HR := hid hR
          have HNR := hid (show R ≠ .out by intro e; rw [e] at e1; exact HNE.out e1)
          clear hf e1 hR
          go_upto_region 11 with (go_at_call 85; go_must (refine (sign_no _ rp ⟨#[91]⟩ [91] rfl HV.out.e g1).mono ?_); rintro e wn ⟨rfl, hk⟩; have HV := hid (HV.out.kp hk); have HG := hid (HG.out.trans (grown_kp hk _)); clear hk)
          go_upto_region 14 with (go_at_call 85; go_must (refine (sign_no _ rp ⟨#[42]⟩ [42] rfl HV.out.e g2).mono ?_); rintro e wn ⟨rfl, hk⟩; have HV := hid (HV.out.kp hk); have HG := hid (HG.out.trans (grown_kp hk _)); clear hk)
          go_upto_region 15 with (go_at_call 65; go_must (refine (want_yes _ rp ⟨#[102, 117, 110, 99]⟩ [102, 117, 110, 99] rfl HV.out c3).mono ?_); rintro e wn ⟨rfl, hs, hk⟩; have HV := hid hs; have HG := hid (HG.out.trans hk); clear hs hk)
          go_upto_region 17 with (go_at_call 65; go_must (refine (want_yes _ rp ⟨#[40]⟩ [40] rfl HV.out c4).mono ?_); rintro e wn ⟨rfl, hs, hk⟩; have HV := hid hs; have HG := hid (HG.out.trans hk); clear hs hk)
          have HWZ := hid HV0.out.lt
          clear HKK
          go_loopw [5] (fun kv wr => ∃ (g : Nat) (us : List Bs) (l' : List Tk) (A : Option Addr) (c : Nat), g ≤ f ∧ typsF g us l' = R ∧ kv = .slice A us.length c ∧ OwnS wr w.heap.size (.slice A us.length c) (us.map sB) ∧ (∀ x ∈ us, (sB x).size ≤ 1000) ∧ PrsV wr rp L l' qs s lv tv ∧ w.grownBy wr (some rp) ∧ us.length + l'.length ≤ 2000) (fun _ wr => L.length - atOf wr rp)
          case atStart => exact ⟨f, [], l.tail.tail, none, 0, Nat.le_refl _, HR.out, rfl, OwnS.nil _ _, fun x hx => absurd hx (by simp), HV.out.weak (by omega), HG.out, by have := HV.out.short; simpa using this⟩
          case round =>
            clear HV HG
            obtain ⟨g, us, l', A, c, hg, hr, rfl, ho, hsz, hv, hgr, hul⟩ := hrel
            have HV := hid hv
            have HG := hid hgr
            have HO := hid ho
            have HSZ := hid hsz
            have HAT := hid hv.at_
            clear hv hgr ho hsz c3 c4 g1 g2
            cases g with
            | zero => exact absurd (by rw [← hr, typsF]) HNR.out
            | succ g =>
              rw [typsF] at hr
              by_cases d : isSign [41] l' = true
              · rw [if_pos d] at hr
                have HE2 := hid (show typF (f + 1) l = (if typed l'.tail then typF f l'.tail else .ok [] l'.tail).bind fun q r => if (Ty.funcM (us.map sB) (sB q)).2 = 0 then .ok (Ty.funcM (us.map sB) (sB q)).1 r else .bad by rw [HE.out, HR.out, ← hr]; simp [d, Pr.bind])
                clear hr
                have HUL := hid (show us.length ≤ 2000 by omega)
                by_cases ty : typed l'.tail = true
                rotate_left
                · have tf := eq_false_of_ne_true ty
                  clear ty
                  have HQZ := hid (show (sB []).size ≤ 1000 by decide)
                  by_cases fz : (Ty.funcM (us.map sB) (sB [])).2 = 0
                  · have HT := hid (show typF (f + 1) l = .ok (Ty.funcM (us.map sB) (sB [])).1 l'.tail by rw [HE2.out]; simp [tf, fz, Pr.bind])
                    go_upto_region 22 with (go_at_call 85; go_must (refine (sign_yes _ rp ⟨#[41]⟩ [41] rfl HV.out d).mono ?_); rintro e wn ⟨rfl, hs, hk⟩; have HO := hid (OwnS.gr HO.out hk HWZ.out); have HV := hid hs; have HG := hid (HG.out.trans hk); clear hs hk)
                    go_upto_region 24 with (go_at_call 87; go_must (refine (typed_v HV.out).mono ?_); rintro e wn ⟨rfl, hk⟩; rw [tf]; have HO := hid (HO.out.kp hk); have HV := hid (HV.out.kp hk); have HG := hid (HG.out.trans (grown_kp hk _)); clear hk)
                    go_upto_region 25 with (go_at_call 95; go_must (refine (func_v HO.out HSZ.out HUL.out HQZ.out).mono ?_); rintro e wn ⟨rfl, hk⟩; have HV := hid (HV.out.kp hk); have HG := hid (HG.out.trans (grown_kp hk _)); clear hk)
                    have HLL := hid (func_len fz)
                    generalize Ty.funcM (us.map sB) (sB []) = FM at fz HT HLL ⊢
                    obtain ⟨f1, f2⟩ := FM
                    simp only at fz
                    subst fz
                    go_wp2_with fail
                    go_ret
                    rw [HT.out]
                    exact ⟨rfl, HLL.out, HV.out.weak (by omega), HG.out⟩
                  have HT := hid (show typF (f + 1) l = .bad by rw [HE2.out]; simp [tf, fz, Pr.bind])
                  go_upto_region 22 with (go_at_call 85; go_must (refine (sign_yes _ rp ⟨#[41]⟩ [41] rfl HV.out d).mono ?_); rintro e wn ⟨rfl, hs, hk⟩; have HO := hid (OwnS.gr HO.out hk HWZ.out); have HV := hid hs; have HG := hid (HG.out.trans hk); clear hs hk)
                  go_upto_region 24 with (go_at_call 87; go_must (refine (typed_v HV.out).mono ?_); rintro e wn ⟨rfl, hk⟩; rw [tf]; have HO := hid (HO.out.kp hk); have HV := hid (HV.out.kp hk); have HG := hid (HG.out.trans (grown_kp hk _)); clear hk)
                  go_upto_region 25 with (go_at_call 95; go_must (refine (func_v HO.out HSZ.out HUL.out HQZ.out).mono ?_); rintro e wn ⟨rfl, hk⟩; have HV := hid (HV.out.kp hk); have HG := hid (HG.out.trans (grown_kp hk _)); clear hk)
                  generalize Ty.funcM (us.map sB) (sB []) = FM at fz ⊢
                  obtain ⟨f1, f2⟩ := FM
                  simp only at fz ⊢
                  have z1 : (f2 != 0) = true := by rw [bne_iff_ne]; exact fz
                  have z2 : (f2 == 0) = false := by rw [beq_eq_false_iff_ne]; exact fz
                  go_wp2_with (go_at_call 68; go_must (refine (fail_any _ _).mono ?_); rintro e wn ⟨rfl, hk⟩; unfold stopP; have HB := hid (HV0.out.below HG.out hk); clear hk)
                  rw [HT.out]
                  exact ⟨rfl, rfl, HB.out⟩
                cases hq : typF f l'.tail with
                | out => exact absurd (by rw [HE2.out]; simp [ty, hq, Pr.bind]) HNE.out
                | bad =>
                  have hnq : typF f l'.tail ≠ .out := by rw [hq]; intro e; cases e
                  have HT := hid (show typF (f + 1) l = .bad by rw [HE2.out]; simp [ty, hq, Pr.bind])
                  go_upto_region 22 with (go_at_call 85; go_must (refine (sign_yes _ rp ⟨#[41]⟩ [41] rfl HV.out d).mono ?_); rintro e wn ⟨rfl, hs, hk⟩; have HO := hid (OwnS.gr HO.out hk HWZ.out); have HV := hid hs; have HG := hid (HG.out.trans hk); clear hs hk)
                  go_wp2_with first | (go_at_call 87; go_must (refine (typed_v HV.out).mono ?_); rintro e wn ⟨rfl, hk⟩; rw [ty]; have HO := hid (HO.out.kp hk); have HV := hid (HV.out.kp hk); have HG := hid (HG.out.trans (grown_kp hk _)); clear hk) | (go_at_call 86; go_must (refine ((H f (Nat.le_refl _) HV.out hnq).mono fun _ _ x => ResV.bad x hq).mono ?_); rintro e wn ⟨rfl, hb⟩; unfold stopP; have HB := hid (HV0.out.below2 HG.out hb); clear hb)
                  rw [HT.out]
                  exact ⟨rfl, rfl, HB.out⟩
                | ok q r2 =>
                  have hnq : typF f l'.tail ≠ .out := by rw [hq]; intro e; cases e
                  by_cases fz : (Ty.funcM (us.map sB) (sB q)).2 = 0
                  · have HT := hid (show typF (f + 1) l = .ok (Ty.funcM (us.map sB) (sB q)).1 r2 by rw [HE2.out]; simp [ty, hq, fz, Pr.bind])
                    go_upto_region 22 with (go_at_call 85; go_must (refine (sign_yes _ rp ⟨#[41]⟩ [41] rfl HV.out d).mono ?_); rintro e wn ⟨rfl, hs, hk⟩; have HO := hid (OwnS.gr HO.out hk HWZ.out); have HV := hid hs; have HG := hid (HG.out.trans hk); clear hs hk)
                    go_upto_region 24 with first | (go_at_call 87; go_must (refine (typed_v HV.out).mono ?_); rintro e wn ⟨rfl, hk⟩; rw [ty]; have HO := hid (HO.out.kp hk); have HV := hid (HV.out.kp hk); have HG := hid (HG.out.trans (grown_kp hk _)); clear hk) | (go_at_call 86; go_must (refine ((H f (Nat.le_refl _) HV.out hnq).mono fun _ _ x => ResV.ok x hq).mono ?_); rintro e wn ⟨rfl, hz, hs, hk⟩; have HQZ := hid hz; have HO := hid (OwnS.gr HO.out hk HWZ.out); clear hz; have HV := hid hs; have HG := hid (HG.out.trans hk); clear hs hk)
                    go_upto_region 25 with (go_at_call 95; go_must (refine (func_v HO.out HSZ.out HUL.out HQZ.out).mono ?_); rintro e wn ⟨rfl, hk⟩; have HV := hid (HV.out.kp hk); have HG := hid (HG.out.trans (grown_kp hk _)); clear hk)
                    have HLL := hid (func_len fz)
                    generalize Ty.funcM (us.map sB) (sB q) = FM at fz HT HLL ⊢
                    obtain ⟨f1, f2⟩ := FM
                    simp only at fz
                    subst fz
                    go_wp2_with fail
                    go_ret
                    rw [HT.out]
                    exact ⟨rfl, HLL.out, HV.out.weak (by omega), HG.out⟩
                  have HT := hid (show typF (f + 1) l = .bad by rw [HE2.out]; simp [ty, hq, fz, Pr.bind])
                  go_upto_region 22 with (go_at_call 85; go_must (refine (sign_yes _ rp ⟨#[41]⟩ [41] rfl HV.out d).mono ?_); rintro e wn ⟨rfl, hs, hk⟩; have HO := hid (OwnS.gr HO.out hk HWZ.out); have HV := hid hs; have HG := hid (HG.out.trans hk); clear hs hk)
                  go_upto_region 24 with first | (go_at_call 87; go_must (refine (typed_v HV.out).mono ?_); rintro e wn ⟨rfl, hk⟩; rw [ty]; have HO := hid (HO.out.kp hk); have HV := hid (HV.out.kp hk); have HG := hid (HG.out.trans (grown_kp hk _)); clear hk) | (go_at_call 86; go_must (refine ((H f (Nat.le_refl _) HV.out hnq).mono fun _ _ x => ResV.ok x hq).mono ?_); rintro e wn ⟨rfl, hz, hs, hk⟩; have HQZ := hid hz; have HO := hid (OwnS.gr HO.out hk HWZ.out); clear hz; have HV := hid hs; have HG := hid (HG.out.trans hk); clear hs hk)
                  go_upto_region 25 with (go_at_call 95; go_must (refine (func_v HO.out HSZ.out HUL.out HQZ.out).mono ?_); rintro e wn ⟨rfl, hk⟩; have HV := hid (HV.out.kp hk); have HG := hid (HG.out.trans (grown_kp hk _)); clear hk)
                  generalize Ty.funcM (us.map sB) (sB q) = FM at fz ⊢
                  obtain ⟨f1, f2⟩ := FM
                  simp only at fz ⊢
                  have z1 : (f2 != 0) = true := by rw [bne_iff_ne]; exact fz
                  have z2 : (f2 == 0) = false := by rw [beq_eq_false_iff_ne]; exact fz
                  go_wp2_with (go_at_call 68; go_must (refine (fail_any _ _).mono ?_); rintro e wn ⟨rfl, hk⟩; unfold stopP; have HB := hid (HV0.out.below HG.out hk); clear hk)
                  rw [HT.out]
                  exact ⟨rfl, rfl, HB.out⟩
              have e := eq_false_of_ne_true d
              rw [if_neg d] at hr
              clear d
              by_cases un : us = []
              · rw [if_pos un] at hr
                simp only [Pr.bind] at hr
                have u1 : ¬ (0 : Int) < (us.length : Int) := by rw [un]; simp
                clear un
                cases hu : typF g l' with
                | out => exact absurd (by rw [← hr, hu] <;> rfl) HNR.out
                | bad =>
                  have hnu : typF g l' ≠ .out := by rw [hu]; intro e; cases e
                  rw [hu] at hr
                  have HT := hid (show typF (f + 1) l = .bad by rw [HE.out, HR.out, ← hr]; rfl)
                  clear hr
                  go_upto_region 20 with (go_at_call 85; go_must (refine (sign_no _ rp ⟨#[41]⟩ [41] rfl HV.out.e e).mono ?_); rintro e wn ⟨rfl, hk⟩; have HO := hid (HO.out.kp hk); have HV := hid (HV.out.kp hk); have HG := hid (HG.out.trans (grown_kp hk _)); clear hk)
                  go_wp2_with (go_at_call 86; go_must (refine ((H g (by omega) HV.out hnu).mono fun _ _ x => ResV.bad x hu).mono ?_); rintro e wn ⟨rfl, hb⟩; unfold stopP; have HB := hid (HV0.out.below2 HG.out hb); clear hb)
                  rw [HT.out]
                  exact ⟨rfl, rfl, HB.out⟩
                | ok t r2 =>
                  have hnu : typF g l' ≠ .out := by rw [hu]; intro e; cases e
                  rw [hu] at hr
                  simp only [Pr.bind] at hr
                  have HR2 := hid hr
                  have hlt := typ_lt hu
                  clear hr
                  go_upto_region 20 with (go_at_call 85; go_must (refine (sign_no _ rp ⟨#[41]⟩ [41] rfl HV.out.e e).mono ?_); rintro e wn ⟨rfl, hk⟩; have HO := hid (HO.out.kp hk); have HV := hid (HV.out.kp hk); have HG := hid (HG.out.trans (grown_kp hk _)); clear hk)
                  go_wp2_with first | (go_at_call 86; go_must (refine ((H g (by omega) HV.out hnu).mono fun _ _ x => ResV.ok x hu).mono ?_); rintro e wn ⟨rfl, hz, hs, hk⟩; have HQZ := hid hz; have HO := hid (OwnS.gr HO.out hk HWZ.out); clear hz; have HV := hid hs; have HG := hid (HG.out.trans hk); clear hs hk) | (at_builtin; go_must (refine app_lit elStr rfl (.tmp 42) (.tmp 45) rfl HO.out rfl #[.string (sB t)] 9 1 1 rfl rfl (by intro u hu; simp at hu; subst hu; rfl) (by rw [List.length_map]; unfold maxLen; omega) (by rw [List.length_map]; omega) HG.out.size ?_); intro v1 wn g1 g2 g3 g4 g5)
                  obtain ⟨A1, c1, rfl⟩ := own_form g1
                  rw [List.length_map] at g1
                  have HV2 := hid (HV.out.grownS HO.out HWZ.out g2)
                  refine ⟨⟨g, us ++ [t], r2, A1, c1, by omega, HR2.out, by simp, ?_, fun x hx => ?_, HV2.out.weak (by omega), grown_own HG.out g2 (fun k hk => (World.ownsRow.lt HO.out k hk).1), by rw [List.length_append]; simp; omega⟩, by rw [HAT.out, HV2.out.at_]; omega⟩
                  · unfold OwnS; rw [List.length_append, List.length_map, List.map_append, List.map_append]; simp only [List.length_cons, List.length_nil, List.map_cons, List.map_nil]; simpa using g1
                  · rcases List.mem_append.1 hx with hx | hx
                    · exact HSZ.out x hx
                    · rw [List.mem_singleton] at hx; subst hx; exact HQZ.out
              rw [if_neg un] at hr
              have u1 : (0 : Int) < (us.length : Int) := by have := List.length_pos_iff.2 un; omega
              by_cases d : isSign [44] l' = true
              rotate_left
              · have d2 := eq_false_of_ne_true d
                have HT := hid (show typF (f + 1) l = .bad by rw [HE.out, HR.out, ← hr]; simp [want, d2, Pr.bind])
                clear hr d
                go_upto_region 19 with (go_at_call 85; go_must (refine (sign_no _ rp ⟨#[41]⟩ [41] rfl HV.out.e e).mono ?_); rintro e wn ⟨rfl, hk⟩; have HO := hid (HO.out.kp hk); have HV := hid (HV.out.kp hk); have HG := hid (HG.out.trans (grown_kp hk _)); clear hk)
                go_wp2_with (go_at_call 65; go_must (refine (want_no _ rp ⟨#[44]⟩ [44] rfl HV.out.e d2).mono ?_); rintro e wn ⟨rfl, hk⟩; unfold stopP; have HB := hid (HV0.out.below HG.out hk); clear hk)
                rw [HT.out]
                exact ⟨rfl, rfl, HB.out⟩
              have hlt0 := sign_pos d
              rw [want, if_pos d] at hr
              simp only [Pr.bind] at hr
              cases hu : typF g l'.tail with
              | out => exact absurd (by rw [← hr, hu] <;> rfl) HNR.out
              | bad =>
                have hnu : typF g l'.tail ≠ .out := by rw [hu]; intro e; cases e
                rw [hu] at hr
                have HT := hid (show typF (f + 1) l = .bad by rw [HE.out, HR.out, ← hr]; rfl)
                clear hr
                go_upto_region 19 with (go_at_call 85; go_must (refine (sign_no _ rp ⟨#[41]⟩ [41] rfl HV.out.e e).mono ?_); rintro e wn ⟨rfl, hk⟩; have HO := hid (HO.out.kp hk); have HV := hid (HV.out.kp hk); have HG := hid (HG.out.trans (grown_kp hk _)); clear hk)
                go_upto_region 20 with (go_at_call 65; go_must (refine (want_yes _ rp ⟨#[44]⟩ [44] rfl HV.out d).mono ?_); rintro e wn ⟨rfl, hs, hk⟩; have HO := hid (OwnS.gr HO.out hk HWZ.out); have HV := hid hs; have HG := hid (HG.out.trans hk); clear hs hk)
                go_wp2_with (go_at_call 86; go_must (refine ((H g (by omega) HV.out hnu).mono fun _ _ x => ResV.bad x hu).mono ?_); rintro e wn ⟨rfl, hb⟩; unfold stopP; have HB := hid (HV0.out.below2 HG.out hb); clear hb)
                rw [HT.out]
                exact ⟨rfl, rfl, HB.out⟩
              | ok t r2 =>
                have hnu : typF g l'.tail ≠ .out := by rw [hu]; intro e; cases e
                rw [hu] at hr
                simp only [Pr.bind] at hr
                have HR2 := hid hr
                have hlt := typ_lt hu
                clear hr
                go_upto_region 19 with (go_at_call 85; go_must (refine (sign_no _ rp ⟨#[41]⟩ [41] rfl HV.out.e e).mono ?_); rintro e wn ⟨rfl, hk⟩; have HO := hid (HO.out.kp hk); have HV := hid (HV.out.kp hk); have HG := hid (HG.out.trans (grown_kp hk _)); clear hk)
                go_upto_region 20 with (go_at_call 65; go_must (refine (want_yes _ rp ⟨#[44]⟩ [44] rfl HV.out d).mono ?_); rintro e wn ⟨rfl, hs, hk⟩; have HO := hid (OwnS.gr HO.out hk HWZ.out); have HV := hid hs; have HG := hid (HG.out.trans hk); clear hs hk)
                go_wp2_with first | (go_at_call 86; go_must (refine ((H g (by omega) HV.out hnu).mono fun _ _ x => ResV.ok x hu).mono ?_); rintro e wn ⟨rfl, hz, hs, hk⟩; have HQZ := hid hz; have HO := hid (OwnS.gr HO.out hk HWZ.out); clear hz; have HV := hid hs; have HG := hid (HG.out.trans hk); clear hs hk) | (at_builtin; go_must (refine app_lit elStr rfl (.tmp 42) (.tmp 45) rfl HO.out rfl #[.string (sB t)] 9 1 1 rfl rfl (by intro u hu; simp at hu; subst hu; rfl) (by rw [List.length_map]; unfold maxLen; omega) (by rw [List.length_map]; omega) HG.out.size ?_); intro v1 wn g1 g2 g3 g4 g5)
                obtain ⟨A1, c1, rfl⟩ := own_form g1
                rw [List.length_map] at g1
                have HV2 := hid (HV.out.grownS HO.out HWZ.out g2)
                refine ⟨⟨g, us ++ [t], r2, A1, c1, by omega, HR2.out, by simp, ?_, fun x hx => ?_, HV2.out.weak (by omega), grown_own HG.out g2 (fun k hk => (World.ownsRow.lt HO.out k hk).1), by rw [List.length_append]; simp; omega⟩, by rw [HAT.out, HV2.out.at_]; omega⟩
                · unfold OwnS; rw [List.length_append, List.length_map, List.map_append, List.map_append]; simp only [List.length_cons, List.length_nil, List.map_cons, List.map_nil]; simpa using g1
                · rcases List.mem_append.1 hx with hx | hx
                  · exact HSZ.out x hx
                  · rw [List.mem_singleton] at hx; subst hx; exact HQZ.out
theorem typ_ok (f : Nat) : CY 86 (typF f) := CV.y (typ_v f)
end Go.Proofs.Ytgonekmmbeedeaa.Pa
