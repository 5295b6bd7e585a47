/-
  strings.Builder at this program: copyCheck, WriteByte, WriteString. Condition: at most 2^47 bytes.
-/
import Derived.Test.YtiicdknmoakocaaDoorByte
import Derived.Test.YtiicdknmoakocaaDoorOwnL
import Derived.Test.YtiicdknmoakocaaDoorBlk
import Derived.Test.YtiicdknmoakocaaDoorShelf
import Derived.Lib.Builder
import Derived.Lib.AppendStr
import Derived.Laws.Externs
import Derived.Deep.DeepCutAuto
namespace Go.Proofs.YtiicdknmoakocaaDoor
open Go.RowKit
set_option linter.unusedVariables false
set_option linter.unusedSimpArgs false

/-- The builder at block b holds these bytes; all of it is the call's own, from B on. -/
abbrev IsB (w : World) (B b : Nat) (l : List UInt8) : Prop := Lib.IsBuilder 52 5 B b (Lib.byteCells l) w
/-- Blocks but for b that hold no bytes are as they were. -/
def OthB (b : Nat) (w w' : World) : Prop := ∀ k o, k ≠ b → w.heap[k]? = some o → (∀ cs fr, o ≠ Obj.cells cs 5 fr) → w'.heap[k]? = some o
theorem OthB.refl (b : Nat) (w : World) : OthB b w w := fun _ _ _ h _ => h
theorem OthB.trans {b : Nat} {w w1 w2 : World} (h : OthB b w w1) (h2 : OthB b w1 w2) : OthB b w w2 := fun k o hk ho hn => h2 k o hk (h k o hk ho hn) hn
theorem OthB.set {b j : Nat} {w : World} (v : Value) : OthB b w (w.setCell ⟨b, j, none⟩ v) := fun k o hk ho _ => (blk_far (p := ⟨b, j, none⟩) hk v).trans ho
theorem OthB.of_touch {b : Nat} {w w' : World} (h : Touch 5 w w') : OthB b w w' := fun k o _ ho hn => h.2 k o ho hn
theorem b_info : (Tryd.prog.info? 52).map (·.size) = some 2 := by kernel_rfl
theorem b_lies : liesAt Tryd.prog Tryd.prog.depth 52 (2 / Tryd.prog.cellsOf 52) 0 52 1 = true := by kernel_rfl
theorem noesc (x : Value) (w : World) : Sem.run Tryd.prog (callFunc 43 #[x]) w = .ok (.value x) w := by
  rw [run_callFunc_extern Tryd.func43 (by kernel_rfl) (by kernel_rfl) (by kernel_rfl) (e := Extern.AbiNoEscape.same) (by kernel_rfl)]
  rw [Lib.run_noEscape]
  rfl
set_option maxRecDepth 100000 in
set_option maxHeartbeats 1000000 in
theorem bcheck_used (b : Nat) (w : World) (h0 : w.cell? ⟨b, 0, none⟩ = some (.pointer (some ⟨b, 0, none⟩))) : Calls Tryd.prog 29 #[.pointer (some ⟨b, 0, none⟩)] w fun e w' => e = .returned (.tuple #[]) ∧ w' = w := by
  obtain ⟨j, hj, _⟩ := Option.map_eq_some_iff.1 b_info
  have hne := Lib.run_neq_ptr_same (P := Tryd.prog) w ⟨b, 0, none⟩ Tryd.underlying49 hj
  go_enter Tryd.func29, Tryd.ntmps29
  go_wp2
  first | go_end0 | refine bodyPost_ret (results_none rfl _ _ _) rfl ?_
  exact ⟨rfl, rfl⟩
set_option maxRecDepth 100000 in
set_option maxHeartbeats 1000000 in
theorem bcheck_fresh (b : Nat) (w : World) (h0 : w.cell? ⟨b, 0, none⟩ = some (.pointer none)) (hsh : w.shape? b = some (52, 2)) (hfz : w.frozen? ⟨b, 0, none⟩ = false) : Calls Tryd.prog 29 #[.pointer (some ⟨b, 0, none⟩)] w fun e w' => e = .returned (.tuple #[]) ∧ w' = w.setCell ⟨b, 0, none⟩ (.pointer (some ⟨b, 0, none⟩)) := by
  obtain ⟨j, hj, hjs⟩ := Option.map_eq_some_iff.1 b_info
  have h1 := Lib.run_to_unsafe (P := Tryd.prog) w ⟨b, 0, none⟩ Tryd.underlying49 Tryd.underlying95 hj (by rw [hjs]; decide) hsh (Nat.zero_lt_succ 1)
  have h2 := noesc (.pointer (some ⟨b, 0, none⟩)) w
  have h3 := Lib.run_from_unsafe (P := Tryd.prog) w ⟨b, 0, none⟩ Tryd.underlying95 Tryd.underlying49 hj hsh b_lies
  go_enter Tryd.func29, Tryd.ntmps29
  go_wp2
  first | go_end0 | refine bodyPost_ret (results_none rfl _ _ _) rfl ?_
  exact ⟨rfl, rfl⟩
theorem bcheck_any (B b : Nat) (bs : List Value) (w : World) (h : Lib.IsBuilder 52 5 B b bs w) : Calls Tryd.prog 29 #[.pointer (some ⟨b, 0, none⟩)] w fun e w' => e = .returned (.tuple #[]) ∧ Lib.BuilderAt 52 5 B b (.pointer (some ⟨b, 0, none⟩)) bs w' ∧ Below B w w' ∧ OthB b w w' := by
  rcases h with h | h
  · refine (bcheck_fresh b w h.cell0 h.shape h.frozen0).mono ?_
    rintro e w' ⟨rfl, rfl⟩
    exact ⟨rfl, h.used _, (Below.refl B w).setCell (p := ⟨b, 0, none⟩) h.1 _, OthB.set _⟩
  · refine (bcheck_used b w h.cell0).mono ?_
    rintro e w' ⟨rfl, rfl⟩
    exact ⟨rfl, h, Below.refl B _, OthB.refl _ _⟩
set_option maxRecDepth 100000 in
set_option maxHeartbeats 2000000 in
theorem wbyte_any (B b : Nat) (l : List UInt8) (c : UInt8) (w : World) (h : IsB w B b l) (hlen : l.length + 1 ≤ 140737488355328) (hBw : B ≤ w.heap.size) : Calls Tryd.prog 21 #[.pointer (some ⟨b, 0, none⟩), .int .u8 c.toNat] w fun e w' => e = .returned .nilIface ∧ IsB w' B b (l ++ [c]) ∧ Below B w w' ∧ OthB b w w' := by
  have HLN := hid hlen; have HBW := hid hBw; have H := hid h
  clear hlen hBw h
  go_enter Tryd.func21, Tryd.ntmps21
  go_upto_region 2 with (go_at_call 29; go_must (refine (bcheck_any B b _ w H.out).mono ?_); rintro e w1 ⟨rfl, h1, hb1, ho1⟩; have HOT := hid ho1; clear ho1; obtain ⟨hB, v, hbk, hown, hne⟩ := h1; have HB := hid hB; have HBK := hid hbk; have HOWN := hid hown; have HB1 := hid hb1; have HNE := hid hne; have c1 := blk_cell (o := 1) (v := v) hbk rfl; have hlt := blk_lt hbk; obtain ⟨A, cp, rfl⟩ := own_form hown; clear hB hbk hown hb1 hne)
  have hbl : (Lib.byteCells l).length = l.length := Lib.byteCells_length l
  have HBL := hid hbl
  have HBS := hid (Nat.le_trans HBW.out HB1.out.size)
  clear hbl
  go_wp2_with (at_builtin; refine app_lit elByte ?p0 (.tmp 11) (.tmp 13) ?p1 HOWN.out ?p2 #[.int .u8 c.toNat] 5 1 1 ?p3 ?p4 ?p5 ?p6 ?p7 HBS.out ?p8)
  case p0 => rfl
  case p1 => rfl
  case p2 => rfl
  case p3 => rfl
  case p4 => rfl
  case p5 => first | rfl | (intro u hu; simp at hu; subst hu; rfl)
  case p6 => rw [HBL.out]; have := HLN.out; unfold maxLen; omega
  case p7 => rw [HBL.out]; have := HLN.out; omega
  case p8 =>
    intro v' w2 hown' hg hm _ hb2
    have hbk2 : w2.heap[b]? = some (.cells #[.pointer (some ⟨b, 0, none⟩), .slice A (Lib.byteCells l).length cp] 52 (0, 0)) := by
      rw [hg.block b hlt (fun e => HNE.out e.symm)]; exact HBK.out
    have HBK2 := hid hbk2
    have d1 := blk_cell (o := 1) (v := .slice A (Lib.byteCells l).length cp) hbk2 rfl
    have f1 := blk_free (o := 1) hbk2
    have HTT := hid (OthB.of_touch (b := b) (Touch.of_grown HOWN.out hg))
    obtain ⟨A2, cp2, rfl⟩ := own_form hown'
    have HO2 := hid hown'; have HB2 := hid hb2
    clear hown' hg hm hb2 hbk2 c1
    go_wp2
    go_ret
    refine ⟨rfl, .inr ?_, (Below.trans HB1.out HB2.out).setCell HB.out _, HOT.out.trans (HTT.out.trans (OthB.set _))⟩
    have h := Lib.BuilderAt.put (T := 52) (e := 5) (bs' := Lib.byteCells (l ++ [c])) (v' := .slice A2 ((Lib.byteCells l).length + 1) cp2) HB.out HBK2.out (by
      have h2 := HO2.out
      unfold Lib.byteCells at h2 ⊢
      simpa using h2) (by decide)
    exact h
set_option maxRecDepth 100000 in
set_option maxHeartbeats 2000000 in
theorem wstr_any (B b : Nat) (l : List UInt8) (s : ByteArray) (w : World) (h : IsB w B b l) (hlen : l.length + s.size ≤ 140737488355328) (hBw : B ≤ w.heap.size) : Calls Tryd.prog 20 #[.pointer (some ⟨b, 0, none⟩), .string s] w fun e w' => e = .returned (.tuple #[.int .i64 s.size, .nilIface]) ∧ IsB w' B b (l ++ s.data.toList) ∧ Below B w w' ∧ OthB b w w' := by
  have HLN := hid hlen; have HBW := hid hBw; have H := hid h
  obtain ⟨i0, hi, hz0, hz1, hz2⟩ := info_parts (show (Tryd.prog.info? 5).map (fun i => (i.zero, i.size, i.bytes)) = some (some (.int .u8 0), 1, 1) by kernel_rfl)
  clear hlen hBw h
  go_enter Tryd.func20, Tryd.ntmps20
  go_upto_region 2 with (go_at_call 29; go_must (refine (bcheck_any B b _ w H.out).mono ?_); rintro e w1 ⟨rfl, h1, hb1, ho1⟩; have HOT := hid ho1; clear ho1; obtain ⟨hB, v, hbk, hown, hne⟩ := h1; have HB := hid hB; have HBK := hid hbk; have HOWN := hid hown; have HB1 := hid hb1; have HNE := hid hne; have c1 := blk_cell (o := 1) (v := v) hbk rfl; have hlt := blk_lt hbk; obtain ⟨A, cp, rfl⟩ := own_form hown; clear hB hbk hown hb1 hne)
  have hbl : (Lib.byteCells l).length = l.length := Lib.byteCells_length l
  have HBL := hid hbl
  have HBS := hid (Nat.le_trans HBW.out HB1.out.size)
  clear hbl
  go_wp2_with (at_builtin; refine Lib.wpList_append_own_string _ ?p0 (.tmp 12) (.tmp 13) 50 9 ?p1 B 5 i0 Tryd.underlying50 Tryd.underlying9 hi hz0 hz1 hz2 _ _ _ ?p2 HOWN.out s ?p3 ?p4 ?p5 HBS.out ?p8)
  case p0 => rfl
  case p1 => rfl
  case p2 => rfl
  case p3 => rfl
  case p4 => rw [HBL.out]; have := HLN.out; unfold maxLen; omega
  case p5 => rw [HBL.out]; have := HLN.out; omega
  case p8 =>
    intro v' w2 hown' hg _
    have hbk2 : w2.heap[b]? = some (.cells #[.pointer (some ⟨b, 0, none⟩), .slice A (Lib.byteCells l).length cp] 52 (0, 0)) := by
      rw [hg.block b hlt (fun e => HNE.out e.symm)]; exact HBK.out
    have HBK2 := hid hbk2
    have d1 := blk_cell (o := 1) (v := .slice A (Lib.byteCells l).length cp) hbk2 rfl
    have f1 := blk_free (o := 1) hbk2
    have HTT := hid (OthB.of_touch (b := b) (Touch.of_grown HOWN.out hg))
    obtain ⟨A2, cp2, rfl⟩ := own_form hown'
    have HO2 := hid hown'; have HB2 := hid (own_below HOWN.out hg HBS.out)
    clear hown' hg hbk2 c1
    go_wp2
    go_ret2
    refine ⟨rfl, .inr ?_, (Below.trans HB1.out HB2.out).setCell HB.out _, HOT.out.trans (HTT.out.trans (OthB.set _))⟩
    have hlen2 : (Lib.byteCells (l ++ s.data.toList)).length = (Lib.byteCells l).length + s.size := by
      rw [Lib.byteCells_length, Lib.byteCells_length, List.length_append, Array.length_toList]; rfl
    have h := Lib.BuilderAt.put (T := 52) (e := 5) (bs' := Lib.byteCells (l ++ s.data.toList)) (v' := .slice A2 ((Lib.byteCells l).length + s.size) cp2) HB.out HBK2.out (by
      have h2 := HO2.out
      rw [hlen2]
      unfold Lib.byteCells Lib.strCells at *
      rw [List.map_append]; exact h2) (by decide)
    exact h
theorem IsB.kp {w w' : World} {B b : Nat} {l : List UInt8} (h : IsB w B b l) (hk : Kp w w') : IsB w' B b l := by
  rcases h with ⟨h1, v, h2, h3, h4⟩ | ⟨h1, v, h2, h3, h4⟩
  · exact .inl ⟨h1, v, (hk.block b (blk_lt h2)).trans h2, ownsRow_keep h3 hk, h4⟩
  · exact .inr ⟨h1, v, (hk.block b (blk_lt h2)).trans h2, ownsRow_keep h3 hk, h4⟩
theorem IsB.new (w : World) : IsB (w.alloc (.cells #[.pointer none, .slice none 0 0] 52)) w.heap.size w.heap.size [] := .inl ⟨Nat.le_refl _, .slice none 0 0, blk_new _ _, World.ownsRow_nil _ _ _ _, by simp [Value.ownBlock]⟩
theorem bstr_any (B b : Nat) (l : List UInt8) (w : World) (h : IsB w B b l) (hBw : B ≤ w.heap.size) : Calls Tryd.prog 23 #[.pointer (some ⟨b, 0, none⟩)] w fun e w' => e = .returned (.string ⟨l.toArray⟩) ∧ Below B w w' := Tryd.Builder_String_any B b l w h hBw
end Go.Proofs.YtiicdknmoakocaaDoor
