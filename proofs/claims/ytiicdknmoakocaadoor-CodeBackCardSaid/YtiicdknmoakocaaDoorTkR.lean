/-
Package code: a function's line. Condition: the line is short, the code is within the reach; a global number of the library is there.
Package code: an instruction's line. Condition: the line is short, the code is within the reach; a global number of the library is there.
Package code: take, Read. Condition: the text is short; a global number of the library is there.
-/
import Derived.Test.YtiicdknmoakocaaDoorTk
import Derived.Test.YtiicdknmoakocaaDoorRegF
import Derived.Lib.IndexBytes
import Derived.Lib.CutLaws
import Derived.Test.YtiicdknmoakocaaDoorShw
namespace Go.Proofs.YtiicdknmoakocaaDoor
open Go.RowKit
set_option linter.unusedVariables false
set_option linter.unusedSimpArgs false

theorem ix_cases (l : List UInt8) (c : UInt8) : Lib.indexByte l c = -1 ∨ ∃ i : Nat, Lib.indexByte l c = i ∧ i + 1 ≤ l.length := by
  have h := Lib.indexB_cases ⟨l.toArray⟩ ⟨#[c]⟩
  have e : Lib.indexB ⟨l.toArray⟩ ⟨#[c]⟩ = Lib.indexByte l c := Lib.index_one _ _
  rw [e] at h
  rcases h with h | ⟨i, h1, h2⟩
  · exact .inl h
  · exact .inr ⟨i, h1, by simpa [ByteArray.size] using h2⟩
theorem ext_le (s : ByteArray) (a b : Nat) : (s.extract a b).size ≤ s.size := by
  have hz : s.data.toList.length = s.size := by rw [Array.length_toList]; rfl
  rw [Lib.extract_eq]
  show (List.toArray _).size ≤ _
  rw [List.size_toArray, List.length_take, List.length_drop, hz]; omega
theorem own3 {w : World} {B : Nat} {A : Option Addr} {k c : Nat} {a b d : Int} (h : OwnI w B (.slice A k c) [a, b, d]) : ∃ g, A = some ⟨g, 0, none⟩ ∧ k = 3 ∧ w.ownsRow B 3 1 (.slice (some ⟨g, 0, none⟩) 3 c) 3 [.int .i64 a, .int .i64 b, .int .i64 d] := by
  obtain ⟨A', c', hv⟩ := own_form h
  injection hv with h1 h2 h3
  have h2 : k = 3 := h2
  subst h2
  obtain ⟨g, c2, hv, _⟩ := rowSome h (by simp)
  injection hv with h1 _ h3
  subst h1; subst h3
  exact ⟨g, rfl, rfl, h⟩
theorem own5 {w : World} {B : Nat} {A : Option Addr} {k c : Nat} {a b d e f : Int} (h : OwnI w B (.slice A k c) [a, b, d, e, f]) : ∃ g, A = some ⟨g, 0, none⟩ ∧ k = 5 ∧ w.ownsRow B 3 1 (.slice (some ⟨g, 0, none⟩) 5 c) 5 [.int .i64 a, .int .i64 b, .int .i64 d, .int .i64 e, .int .i64 f] := by
  obtain ⟨A', c', hv⟩ := own_form h
  injection hv with h1 h2 h3
  have h2 : k = 5 := h2
  subst h2
  obtain ⟨g, c2, hv, _⟩ := rowSome h (by simp)
  injection hv with h1 _ h3
  subst h1; subst h3
  exact ⟨g, rfl, rfl, h⟩
set_option maxRecDepth 20000 in
set_option maxHeartbeats 8000000 in
theorem take_func (W : World) (cb N : Nat) (vf vt : Value) (c : CodeM) (s : ByteArray) (u : World) (h : TkX W cb N vf vt c u) (hN : N + 1 ≤ 4294967296) (hs : s.size < 4294967281) (hp0 : textP.isPrefixOf s.data.toList = false) (hp : funcP.isPrefixOf s.data.toList = true) (m : Int) (hm : u.cell? ⟨0, 0, none⟩ = some (.int .i64 m)) :
    Calls Tryd.prog 27 #[.pointer (some ⟨cb, 0, none⟩), .string s] u (TkPost W cb N (takeF c (mk (s.data.toList.drop 5)))) := by
  have HC0 := hid (fun w => cp_miss s ⟨#[116, 101, 120, 116, 32]⟩ w hp0)
  have HCP := hid (fun w => cp_hit s ⟨#[102, 117, 110, 99, 32]⟩ w hp)
  rw [show (mk (s.data.toList.drop (⟨#[102, 117, 110, 99, 32]⟩ : ByteArray).data.toList.length)) = mk (s.data.toList.drop 5) from rfl] at HCP
  have hRs := drop_le s 5
  generalize mk (s.data.toList.drop 5) = R at HCP hRs ⊢
  have HIX := hid (fun w => Tryd.strings_IndexByte R 32 w)
  rw [show (32 : Int).toNat.toUInt8 = 32 from rfl] at HIX
  have HR : Hid (takeF c R = if Lib.indexByte R.data.toList 32 < 0 then none else match numsM 3 (R.extract (Lib.indexByte R.data.toList 32).toNat R.size) with
    | some [x, y, z] => some ⟨c.funcs ++ [⟨R.extract 0 (Lib.indexByte R.data.toList 32).toNat, x, y, z, []⟩], c.texts⟩
    | _ => none) := hid rfl
  generalize takeF c R = res at HR ⊢
  have HX := hid h
  have HKP := hid h.kp
  have hz : R.data.toList.length = R.size := by rw [Array.length_toList]; rfl
  rcases ix_cases R.data.toList 32 with hi | ⟨i, hi, hil⟩
  · rw [hi] at HIX HR
    have HN := hid (show res = none from by rw [HR.out, if_pos (by decide)])
    clear h hp hp0 hRs hi HR hm hz hs hN
    go_enter Tryd.func27, Tryd.ntmps27
    go_upto_region 6 with (go_at_call 37; go_must (refine (HC0.out _).mono ?_); rintro e w1 ⟨rfl, rfl⟩)
    go_upto_region 7 with (go_at_call 37; go_must (refine (HCP.out _).mono ?_); rintro e w1 ⟨rfl, rfl⟩)
    go_wp2_with first | (go_at_call 39; go_must (refine (HIX.out _).mono ?_); rintro e w1 ⟨rfl, rfl⟩)
    go_ret
    exact tk_fail HN.out HKP.out
  · rw [hi] at HIX HR
    have hnn : ¬ ((i : Int) < 0) := by omega
    rw [if_neg hnn, Int.toNat_natCast] at HR
    have i0 : (0 : Int) ≤ (i : Int) := by omega
    have i1 : (i : Int) ≤ (R.size : Int) := by omega
    have hES := ext_le R i R.size
    have HNM := hid (cnums_any (R.extract i R.size) 3 3 rfl (by decide) (by decide) (by omega) m u hm)
    have HIL := hid (show i ≤ R.size by omega)
    have HRS := hid (show R.size < 4294967281 by omega)
    have HFS := hid (ext_le R 0 i)
    clear h hp hp0 hRs hm hz hs hi hil hES
    cases hn : numsM 3 (R.extract i R.size) with
    | none =>
      rw [hn] at HR
      have HN := hid (show res = none from HR.out)
      have HNM2 := hid (show Calls Tryd.prog 40 #[.string (R.extract i R.size), .int .i64 3] u fun e w' => (∃ A k c, e = .returned (.tuple #[.slice A k c, .bool false])) ∧ Kp u w' from HNM.out.mono (by
        rintro e w' ⟨⟨A, k, c, rfl, _⟩, h2⟩; exact ⟨⟨A, k, c, by rw [hn]; rfl⟩, h2⟩))
      clear hn HR HNM
      go_enter Tryd.func27, Tryd.ntmps27
      go_upto_region 6 with (go_at_call 37; go_must (refine (HC0.out _).mono ?_); rintro e w1 ⟨rfl, rfl⟩)
      go_upto_region 7 with (go_at_call 37; go_must (refine (HCP.out _).mono ?_); rintro e w1 ⟨rfl, rfl⟩)
      go_wp2_with first | (go_at_call 39; go_must (refine (HIX.out _).mono ?_); rintro e w1 ⟨rfl, rfl⟩) | (go_at_call 40; go_must (refine HNM2.out.mono ?_); rintro e w1 ⟨⟨A3, k3, c3, rfl⟩, hk1⟩; have HK1 := hid hk1; clear hk1)
      go_ret
      exact tk_fail HN.out (HKP.out.trans HK1.out)
    | some l =>
      obtain ⟨hll, hlo⟩ := numsM_ok hn
      obtain ⟨z1, z2, z3, rfl⟩ : ∃ a b d, l = [a, b, d] := by
        match l, hll with
        | [a, b, d], _ => exact ⟨a, b, d, rfl⟩
      rw [hn] at HR
      have HNM2 := hid (show Calls Tryd.prog 40 #[.string (R.extract i R.size), .int .i64 3] u fun e w' => (∃ g c, e = .returned (.tuple #[.slice (some ⟨g, 0, none⟩) 3 c, .bool true]) ∧ w'.ownsRow u.heap.size 3 1 (.slice (some ⟨g, 0, none⟩) 3 c) 3 [.int .i64 z1, .int .i64 z2, .int .i64 z3]) ∧ Kp u w' from HNM.out.mono (by
        rintro e w' ⟨⟨A, k, c, rfl, h1⟩, h2⟩
        obtain ⟨g, rfl, rfl, h3⟩ := own3 (h1 _ hn)
        exact ⟨⟨g, c, by rw [hn]; rfl, h3⟩, h2⟩))
      generalize u.heap.size = Bn at HNM2
      obtain ⟨NM, hNM⟩ : ∃ NM, R.extract 0 i = NM := ⟨_, rfl⟩
      have HOK := hid (show okFnB ⟨NM, z1, z2, z3, []⟩ from ⟨by rw [← hNM]; have := HFS.out; have := HRS.out; show (R.extract 0 i).size ≤ _; omega, hlo z1 (by simp), hlo z2 (by simp), hlo z3 (by simp), by show 0 * 48 ≤ _; omega⟩)
      have HN := hid (show res = some ⟨c.funcs ++ [⟨NM, z1, z2, z3, []⟩], c.texts⟩ by rw [HR.out, ← hNM])
      have HNME := hid hNM
      have hlf : (∃ A cc, vf = .slice A c.funcs.length cc) := by
        obtain ⟨xs, h1, _⟩ := HX.out.fns.row HX.out.lt
        exact own_form h1
      obtain ⟨Af, cf, rfl⟩ := hlf
      have B1 := hid (show c.funcs.length + 1 ≤ maxLen by have := HX.out.fN; unfold maxLen; omega)
      have B2 := hid (show (c.funcs.length + 1) * 64 ≤ 140737488355328 by have := HX.out.fN; omega)
      have i2 : (i : Int) ≤ (R.size : Int) := i1
      clear hn HR HNM hll hlo hNM hN
      go_enter Tryd.func27, Tryd.ntmps27
      go_upto_region 6 with (go_at_call 37; go_must (refine (HC0.out _).mono ?_); rintro e w1 ⟨rfl, rfl⟩)
      go_upto_region 7 with (go_at_call 37; go_must (refine (HCP.out _).mono ?_); rintro e w1 ⟨rfl, rfl⟩)
      go_upto_region 13 with first | (go_at_call 39; go_must (refine (HIX.out _).mono ?_); rintro e w1 ⟨rfl, rfl⟩) | (go_at_call 40; go_must (refine HNM2.out.mono ?_); rintro e w1 ⟨⟨g3, c3, rfl, ho3⟩, hk1⟩; have HK1 := hid hk1; have HO3 := hid ho3; clear hk1 ho3)
      have HX1 := hid (HX.out.keep HK1.out)
      have BF := hid (show ∀ g, (Value.slice Af c.funcs.length cf).ownBlock = some g → g < w1.heap.size by obtain ⟨xs, q, _⟩ := HX1.out.fns.row HX1.out.lt; exact fun g hg => (q.lt g hg).2)
      have BC := hid (show cb < w1.heap.size from HX1.out.lt)
      refine wp_region_phase [19, 22] [(0, 1), (0, 0), (0, 0), (0, 0), (0, 0), (0, 0), (0, 0), (0, 0), (0, 0), (0, 0), (0, 0), (0, 0), (0, 0), (0, 0), (0, 0), (0, 0), (0, 0), (0, 0), (0, 0), (0, 0), (0, 1), (0, 1), (0, 0)] (KpF w1.heap.size) [[], [], [1], [2], [3], [], [], [5, 6], [], [8], [9], [], [11], [12], [], [14], [15], [7, 10, 13, 16], [17], [4, 18], [0], [20], [19, 21]]
        (fun (p : Nat) (x : Nat → Value) (u : World) => match p with | 0 => TkX W cb N (.slice Af c.funcs.length cf) vt c u ∧ u.ownsRow Bn 3 1 (.slice (some ⟨g3, 0, none⟩) 3 c3) 3 [.int .i64 z1, .int .i64 z2, .int .i64 z3] ∧ w1.heap.size ≤ u.heap.size | 1 => ∃ A c', x 19 = .slice A (c.funcs.length + 1) c' ∧ TkY W cb (N + 1) (.slice Af c.funcs.length cf) (.slice A (c.funcs.length + 1) c') vt ⟨c.funcs ++ [⟨NM, z1, z2, z3, []⟩], c.texts⟩ u | _ => ∃ A c', TkX W cb (N + 1) (.slice A (c.funcs.length + 1) c') vt ⟨c.funcs ++ [⟨NM, z1, z2, z3, []⟩], c.texts⟩ u)
        [fun (y : Value) (u : World) => y = (.pointer (some ⟨cb, 0, none⟩) : Value),
         fun (y : Value) (u : World) => y = (.pointer (some ⟨cb, 0, none⟩) : Value),
         fun (y : Value) (u : World) => y = (.pointer (some ⟨cb, 0, none⟩) : Value),
         fun (y : Value) (u : World) => y = (.pointer (some ⟨cb, 0, none⟩) : Value),
         fun (y : Value) (u : World) => y = (.slice Af c.funcs.length cf : Value),
         fun (y : Value) (u : World) => y = (.string R : Value),
         fun (y : Value) (u : World) => y = (.int .i64 (i : Int) : Value),
         fun (y : Value) (u : World) => y = (.string NM : Value),
         fun (y : Value) (u : World) => y = (.slice (some ⟨g3, 0, none⟩) 3 c3 : Value),
         fun (y : Value) (u : World) => y = (.pointer (some ⟨g3, 0, none⟩) : Value),
         fun (y : Value) (u : World) => y = (.int .i64 z1 : Value),
         fun (y : Value) (u : World) => y = (.slice (some ⟨g3, 0, none⟩) 3 c3 : Value),
         fun (y : Value) (u : World) => y = (.pointer (some ⟨g3, 1, none⟩) : Value),
         fun (y : Value) (u : World) => y = (.int .i64 z2 : Value),
         fun (y : Value) (u : World) => y = (.slice (some ⟨g3, 0, none⟩) 3 c3 : Value),
         fun (y : Value) (u : World) => y = (.pointer (some ⟨g3, 2, none⟩) : Value),
         fun (y : Value) (u : World) => y = (.int .i64 z3 : Value),
         fun (y : Value) (u : World) => y = (.agg #[.string NM, .int .i64 z1, .int .i64 z2, .int .i64 z3, .slice none 0 0] : Value),
         fun (y : Value) (u : World) => LitAt w1.heap.size 60 #[.string NM, .int .i64 z1, .int .i64 z2, .int .i64 z3, .slice none 0 0] y u,
         fun (y : Value) (u : World) => True,
         fun (y : Value) (u : World) => y = (.pointer (some ⟨cb, 0, none⟩) : Value),
         fun (y : Value) (u : World) => y = (.pointer (some ⟨cb, 0, none⟩) : Value),
         fun (y : Value) (u : World) => True]
        (by kernel_rfl) (by kernel_rfl) (by kernel_rfl) (by kernel_rfl) (by kernel_rfl) (by kernel_rfl) (fun _ _ hk => KpF.of_kp hk) (⟨HX1.out.keep (Kp.refl _).drew, ownsRow_keep HO3.out (Kp.refl _).drew, Nat.le_refl _⟩) ?hKb ?hXb ⟨fun _ _ _ _ h => h, fun _ _ _ _ h => h, fun _ _ _ _ h => h, fun _ _ _ _ h => h, fun _ _ _ _ h => h, fun _ _ _ _ h => h, fun _ _ _ _ h => h, fun _ _ _ _ h => h, fun _ _ _ _ h => h, fun _ _ _ _ h => h, fun _ _ _ _ h => h, fun _ _ _ _ h => h, fun _ _ _ _ h => h, fun _ _ _ _ h => h, fun _ _ _ _ h => h, fun _ _ _ _ h => h, fun _ _ _ _ h => h, fun _ _ _ _ h => h, fun _ _ _ hk h => h.keep hk, fun _ _ _ _ _ => trivial, fun _ _ _ _ h => h, fun _ _ _ _ h => h, fun _ _ _ _ _ => trivial, trivial⟩ ⟨?sb0, ?sb1, ?sb2, ?sb3, ?sb4, ?sb5, ?sb6, ?sb7, ?sb8, ?sb9, ?sb10, ?sb11, ?sb12, ?sb13, ?sb14, ?sb15, ?sb16, ?sb17, ?sb18, ?sb19, ?sb20, ?sb21, ?sb22, trivial⟩ ?hEb
      case hKb =>
        intro p x w w' hk h
        rcases p with _ | _ | p
        · exact ⟨h.1.keep hk, ownsRow_keep h.2.1 hk, Nat.le_trans h.2.2 hk.le⟩
        · exact (by obtain ⟨A, c, h1, h2⟩ := h; exact ⟨A, c, h1, h2.keep hk⟩)
        · exact (by obtain ⟨A, c, h1⟩ := h; exact ⟨A, c, h1.keep hk⟩)
      case hXb =>
        intro p x i v w hi h
        have e0 : upd x i v 19 = x 19 := if_neg (fun hh => hi (by rw [← hh]; decide))
        have e1 : upd x i v 22 = x 22 := if_neg (fun hh => hi (by rw [← hh]; decide))
        rcases p with _ | _ | p
        · first | exact h | (simp only [e0, e1]; exact h)
        · first | exact h | (simp only [e0, e1]; exact h)
        · first | exact h | (simp only [e0, e1]; exact h)
      case sb0 =>
        refine OpStepQ.off 0 1 (by kernel_rfl) (by kernel_rfl) ?_
        intro x u p hp hg hd K hK
        clear hd
        refine ⟨?_⟩
        simp only [putsFrom, Act.put, List.setIfInBounds_toArray, List.set_cons_zero, List.set_cons_succ, Nat.reduceAdd] at hK ⊢
        go_simp
        exact hK.out _ _ (Kp.refl _) rfl
      case sb1 =>
        refine OpStepQ.off 0 0 (by kernel_rfl) (by kernel_rfl) ?_
        intro x u p hp hg hd K hK
        obtain rfl : p = 0 := by omega
        change TkX W cb N (.slice Af c.funcs.length cf) vt c u ∧ u.ownsRow Bn 3 1 (.slice (some ⟨g3, 0, none⟩) 3 c3) 3 [.int .i64 z1, .int .i64 z2, .int .i64 z3] ∧ w1.heap.size ≤ u.heap.size at hg
        clear hd
        refine ⟨?_⟩
        simp only [putsFrom, Act.put, List.setIfInBounds_toArray, List.set_cons_zero, List.set_cons_succ, Nat.reduceAdd] at hK ⊢
        go_simp
        exact hK.out _ _ (Kp.refl _) rfl
      case sb2 =>
        refine OpStepQ.off 0 0 (by kernel_rfl) (by kernel_rfl) ?_
        intro x u p hp hg hd K hK
        obtain rfl : p = 0 := by omega
        change TkX W cb N (.slice Af c.funcs.length cf) vt c u ∧ u.ownsRow Bn 3 1 (.slice (some ⟨g3, 0, none⟩) 3 c3) 3 [.int .i64 z1, .int .i64 z2, .int .i64 z3] ∧ w1.heap.size ≤ u.heap.size at hg
        have d1 : (x 1) = .pointer (some ⟨cb, 0, none⟩) := And.left hd
        clear hd
        refine ⟨?_⟩
        simp only [putsFrom, Act.put, List.setIfInBounds_toArray, List.set_cons_zero, List.set_cons_succ, Nat.reduceAdd, d1] at hK ⊢
        go_simp
        exact hK.out _ _ (Kp.refl _) rfl
      case sb3 =>
        refine OpStepQ.off 0 0 (by kernel_rfl) (by kernel_rfl) ?_
        intro x u p hp hg hd K hK
        obtain rfl : p = 0 := by omega
        change TkX W cb N (.slice Af c.funcs.length cf) vt c u ∧ u.ownsRow Bn 3 1 (.slice (some ⟨g3, 0, none⟩) 3 c3) 3 [.int .i64 z1, .int .i64 z2, .int .i64 z3] ∧ w1.heap.size ≤ u.heap.size at hg
        have d2 : (x 2) = .pointer (some ⟨cb, 0, none⟩) := And.left hd
        clear hd
        refine ⟨?_⟩
        simp only [putsFrom, Act.put, List.setIfInBounds_toArray, List.set_cons_zero, List.set_cons_succ, Nat.reduceAdd, d2] at hK ⊢
        go_simp
        exact hK.out _ _ (Kp.refl _) rfl
      case sb4 =>
        refine OpStepQ.off 0 0 (by kernel_rfl) (by kernel_rfl) ?_
        intro x u p hp hg hd K hK
        obtain rfl : p = 0 := by omega
        change TkX W cb N (.slice Af c.funcs.length cf) vt c u ∧ u.ownsRow Bn 3 1 (.slice (some ⟨g3, 0, none⟩) 3 c3) 3 [.int .i64 z1, .int .i64 z2, .int .i64 z3] ∧ w1.heap.size ≤ u.heap.size at hg
        have d3 : (x 3) = .pointer (some ⟨cb, 0, none⟩) := And.left hd
        clear hd
        have q := blk_cell (o := 0) (v := Value.slice Af c.funcs.length cf) hg.1.box rfl
        clear hg
        refine ⟨?_⟩
        simp only [putsFrom, Act.put, List.setIfInBounds_toArray, List.set_cons_zero, List.set_cons_succ, Nat.reduceAdd, d3] at hK ⊢
        go_simp
        exact hK.out _ _ (Kp.refl _) rfl
      case sb5 =>
        refine OpStepQ.off 0 0 (by kernel_rfl) (by kernel_rfl) ?_
        intro x u p hp hg hd K hK
        obtain rfl : p = 0 := by omega
        change TkX W cb N (.slice Af c.funcs.length cf) vt c u ∧ u.ownsRow Bn 3 1 (.slice (some ⟨g3, 0, none⟩) 3 c3) 3 [.int .i64 z1, .int .i64 z2, .int .i64 z3] ∧ w1.heap.size ≤ u.heap.size at hg
        clear hd
        refine ⟨?_⟩
        simp only [putsFrom, Act.put, List.setIfInBounds_toArray, List.set_cons_zero, List.set_cons_succ, Nat.reduceAdd] at hK ⊢
        go_simp
        exact hK.out _ _ (Kp.refl _) rfl
      case sb6 =>
        refine OpStepQ.off 0 0 (by kernel_rfl) (by kernel_rfl) ?_
        intro x u p hp hg hd K hK
        obtain rfl : p = 0 := by omega
        change TkX W cb N (.slice Af c.funcs.length cf) vt c u ∧ u.ownsRow Bn 3 1 (.slice (some ⟨g3, 0, none⟩) 3 c3) 3 [.int .i64 z1, .int .i64 z2, .int .i64 z3] ∧ w1.heap.size ≤ u.heap.size at hg
        clear hd
        refine ⟨?_⟩
        simp only [putsFrom, Act.put, List.setIfInBounds_toArray, List.set_cons_zero, List.set_cons_succ, Nat.reduceAdd] at hK ⊢
        go_simp
        exact hK.out _ _ (Kp.refl _) rfl
      case sb7 =>
        refine OpStepQ.off 0 0 (by kernel_rfl) (by kernel_rfl) ?_
        intro x u p hp hg hd K hK
        obtain rfl : p = 0 := by omega
        change TkX W cb N (.slice Af c.funcs.length cf) vt c u ∧ u.ownsRow Bn 3 1 (.slice (some ⟨g3, 0, none⟩) 3 c3) 3 [.int .i64 z1, .int .i64 z2, .int .i64 z3] ∧ w1.heap.size ≤ u.heap.size at hg
        have d5 : (x 5) = .string R := And.left hd
        have d6 : (x 6) = .int .i64 (i : Int) := And.left (And.right hd)
        clear hd
        have HE := HNME.out
        clear hg
        refine ⟨?_⟩
        simp only [putsFrom, Act.put, List.setIfInBounds_toArray, List.set_cons_zero, List.set_cons_succ, Nat.reduceAdd, d5, d6] at hK ⊢
        go_simp
        exact hK.out _ _ (Kp.refl _) rfl
      case sb8 =>
        refine OpStepQ.off 0 0 (by kernel_rfl) (by kernel_rfl) ?_
        intro x u p hp hg hd K hK
        obtain rfl : p = 0 := by omega
        change TkX W cb N (.slice Af c.funcs.length cf) vt c u ∧ u.ownsRow Bn 3 1 (.slice (some ⟨g3, 0, none⟩) 3 c3) 3 [.int .i64 z1, .int .i64 z2, .int .i64 z3] ∧ w1.heap.size ≤ u.heap.size at hg
        clear hd
        refine ⟨?_⟩
        simp only [putsFrom, Act.put, List.setIfInBounds_toArray, List.set_cons_zero, List.set_cons_succ, Nat.reduceAdd] at hK ⊢
        go_simp
        exact hK.out _ _ (Kp.refl _) rfl
      case sb9 =>
        refine OpStepQ.off 0 0 (by kernel_rfl) (by kernel_rfl) ?_
        intro x u p hp hg hd K hK
        obtain rfl : p = 0 := by omega
        change TkX W cb N (.slice Af c.funcs.length cf) vt c u ∧ u.ownsRow Bn 3 1 (.slice (some ⟨g3, 0, none⟩) 3 c3) 3 [.int .i64 z1, .int .i64 z2, .int .i64 z3] ∧ w1.heap.size ≤ u.heap.size at hg
        have d8 : (x 8) = .slice (some ⟨g3, 0, none⟩) 3 c3 := And.left hd
        clear hd
        refine ⟨?_⟩
        simp only [putsFrom, Act.put, List.setIfInBounds_toArray, List.set_cons_zero, List.set_cons_succ, Nat.reduceAdd, d8] at hK ⊢
        go_simp
        exact hK.out _ _ (Kp.refl _) rfl
      case sb10 =>
        refine OpStepQ.off 0 0 (by kernel_rfl) (by kernel_rfl) ?_
        intro x u p hp hg hd K hK
        obtain rfl : p = 0 := by omega
        change TkX W cb N (.slice Af c.funcs.length cf) vt c u ∧ u.ownsRow Bn 3 1 (.slice (some ⟨g3, 0, none⟩) 3 c3) 3 [.int .i64 z1, .int .i64 z2, .int .i64 z3] ∧ w1.heap.size ≤ u.heap.size at hg
        have d9 : (x 9) = .pointer (some ⟨g3, 0, none⟩) := And.left hd
        clear hd
        obtain ⟨q, _⟩ := rowAt hg.2.1 (j := 0) (by decide)
        clear hg
        refine ⟨?_⟩
        simp only [putsFrom, Act.put, List.setIfInBounds_toArray, List.set_cons_zero, List.set_cons_succ, Nat.reduceAdd, d9] at hK ⊢
        go_simp
        exact hK.out _ _ (Kp.refl _) rfl
      case sb11 =>
        refine OpStepQ.off 0 0 (by kernel_rfl) (by kernel_rfl) ?_
        intro x u p hp hg hd K hK
        obtain rfl : p = 0 := by omega
        change TkX W cb N (.slice Af c.funcs.length cf) vt c u ∧ u.ownsRow Bn 3 1 (.slice (some ⟨g3, 0, none⟩) 3 c3) 3 [.int .i64 z1, .int .i64 z2, .int .i64 z3] ∧ w1.heap.size ≤ u.heap.size at hg
        clear hd
        refine ⟨?_⟩
        simp only [putsFrom, Act.put, List.setIfInBounds_toArray, List.set_cons_zero, List.set_cons_succ, Nat.reduceAdd] at hK ⊢
        go_simp
        exact hK.out _ _ (Kp.refl _) rfl
      case sb12 =>
        refine OpStepQ.off 0 0 (by kernel_rfl) (by kernel_rfl) ?_
        intro x u p hp hg hd K hK
        obtain rfl : p = 0 := by omega
        change TkX W cb N (.slice Af c.funcs.length cf) vt c u ∧ u.ownsRow Bn 3 1 (.slice (some ⟨g3, 0, none⟩) 3 c3) 3 [.int .i64 z1, .int .i64 z2, .int .i64 z3] ∧ w1.heap.size ≤ u.heap.size at hg
        have d11 : (x 11) = .slice (some ⟨g3, 0, none⟩) 3 c3 := And.left hd
        clear hd
        refine ⟨?_⟩
        simp only [putsFrom, Act.put, List.setIfInBounds_toArray, List.set_cons_zero, List.set_cons_succ, Nat.reduceAdd, d11] at hK ⊢
        go_simp
        exact hK.out _ _ (Kp.refl _) rfl
      case sb13 =>
        refine OpStepQ.off 0 0 (by kernel_rfl) (by kernel_rfl) ?_
        intro x u p hp hg hd K hK
        obtain rfl : p = 0 := by omega
        change TkX W cb N (.slice Af c.funcs.length cf) vt c u ∧ u.ownsRow Bn 3 1 (.slice (some ⟨g3, 0, none⟩) 3 c3) 3 [.int .i64 z1, .int .i64 z2, .int .i64 z3] ∧ w1.heap.size ≤ u.heap.size at hg
        have d12 : (x 12) = .pointer (some ⟨g3, 1, none⟩) := And.left hd
        clear hd
        obtain ⟨q, _⟩ := rowAt hg.2.1 (j := 1) (by decide)
        clear hg
        refine ⟨?_⟩
        simp only [putsFrom, Act.put, List.setIfInBounds_toArray, List.set_cons_zero, List.set_cons_succ, Nat.reduceAdd, d12] at hK ⊢
        go_simp
        exact hK.out _ _ (Kp.refl _) rfl
      case sb14 =>
        refine OpStepQ.off 0 0 (by kernel_rfl) (by kernel_rfl) ?_
        intro x u p hp hg hd K hK
        obtain rfl : p = 0 := by omega
        change TkX W cb N (.slice Af c.funcs.length cf) vt c u ∧ u.ownsRow Bn 3 1 (.slice (some ⟨g3, 0, none⟩) 3 c3) 3 [.int .i64 z1, .int .i64 z2, .int .i64 z3] ∧ w1.heap.size ≤ u.heap.size at hg
        clear hd
        refine ⟨?_⟩
        simp only [putsFrom, Act.put, List.setIfInBounds_toArray, List.set_cons_zero, List.set_cons_succ, Nat.reduceAdd] at hK ⊢
        go_simp
        exact hK.out _ _ (Kp.refl _) rfl
      case sb15 =>
        refine OpStepQ.off 0 0 (by kernel_rfl) (by kernel_rfl) ?_
        intro x u p hp hg hd K hK
        obtain rfl : p = 0 := by omega
        change TkX W cb N (.slice Af c.funcs.length cf) vt c u ∧ u.ownsRow Bn 3 1 (.slice (some ⟨g3, 0, none⟩) 3 c3) 3 [.int .i64 z1, .int .i64 z2, .int .i64 z3] ∧ w1.heap.size ≤ u.heap.size at hg
        have d14 : (x 14) = .slice (some ⟨g3, 0, none⟩) 3 c3 := And.left hd
        clear hd
        refine ⟨?_⟩
        simp only [putsFrom, Act.put, List.setIfInBounds_toArray, List.set_cons_zero, List.set_cons_succ, Nat.reduceAdd, d14] at hK ⊢
        go_simp
        exact hK.out _ _ (Kp.refl _) rfl
      case sb16 =>
        refine OpStepQ.off 0 0 (by kernel_rfl) (by kernel_rfl) ?_
        intro x u p hp hg hd K hK
        obtain rfl : p = 0 := by omega
        change TkX W cb N (.slice Af c.funcs.length cf) vt c u ∧ u.ownsRow Bn 3 1 (.slice (some ⟨g3, 0, none⟩) 3 c3) 3 [.int .i64 z1, .int .i64 z2, .int .i64 z3] ∧ w1.heap.size ≤ u.heap.size at hg
        have d15 : (x 15) = .pointer (some ⟨g3, 2, none⟩) := And.left hd
        clear hd
        obtain ⟨q, _⟩ := rowAt hg.2.1 (j := 2) (by decide)
        clear hg
        refine ⟨?_⟩
        simp only [putsFrom, Act.put, List.setIfInBounds_toArray, List.set_cons_zero, List.set_cons_succ, Nat.reduceAdd, d15] at hK ⊢
        go_simp
        exact hK.out _ _ (Kp.refl _) rfl
      case sb17 =>
        refine OpStepQ.off 0 0 (by kernel_rfl) (by kernel_rfl) ?_
        intro x u p hp hg hd K hK
        obtain rfl : p = 0 := by omega
        change TkX W cb N (.slice Af c.funcs.length cf) vt c u ∧ u.ownsRow Bn 3 1 (.slice (some ⟨g3, 0, none⟩) 3 c3) 3 [.int .i64 z1, .int .i64 z2, .int .i64 z3] ∧ w1.heap.size ≤ u.heap.size at hg
        have d7 : (x 7) = .string NM := And.left hd
        have d10 : (x 10) = .int .i64 z1 := And.left (And.right hd)
        have d13 : (x 13) = .int .i64 z2 := And.left (And.right (And.right hd))
        have d16 : (x 16) = .int .i64 z3 := And.left (And.right (And.right (And.right hd)))
        clear hd
        refine ⟨?_⟩
        simp only [putsFrom, Act.put, List.setIfInBounds_toArray, List.set_cons_zero, List.set_cons_succ, Nat.reduceAdd, d7, d10, d13, d16] at hK ⊢
        go_simp
        exact hK.out _ _ (Kp.refl _) rfl
      case sb18 =>
        refine OpStepQ.off 0 0 (by kernel_rfl) (by kernel_rfl) ?_
        intro x u p hp hg hd K hK
        obtain rfl : p = 0 := by omega
        change TkX W cb N (.slice Af c.funcs.length cf) vt c u ∧ u.ownsRow Bn 3 1 (.slice (some ⟨g3, 0, none⟩) 3 c3) 3 [.int .i64 z1, .int .i64 z2, .int .i64 z3] ∧ w1.heap.size ≤ u.heap.size at hg
        have d17 : (x 17) = .agg #[.string NM, .int .i64 z1, .int .i64 z2, .int .i64 z3, .slice none 0 0] := And.left hd
        clear hd
        refine ⟨?_⟩
        simp only [putsFrom, Act.put, List.setIfInBounds_toArray, List.set_cons_zero, List.set_cons_succ, Nat.reduceAdd, d17] at hK ⊢
        go_simp
        exact hK.out _ _ ((Kp.refl _).alloc _) ⟨_, rfl, hg.2.2, blk_new _ _⟩
      case sb19 =>
        refine OpStepQ.on 0 (by kernel_rfl) (by kernel_rfl) ?_
        intro x u hg hd K hK
        change TkX W cb N (.slice Af c.funcs.length cf) vt c u ∧ u.ownsRow Bn 3 1 (.slice (some ⟨g3, 0, none⟩) 3 c3) 3 [.int .i64 z1, .int .i64 z2, .int .i64 z3] ∧ w1.heap.size ≤ u.heap.size at hg
        have d4 : (x 4) = .slice Af c.funcs.length cf := And.left hd
        have d18 : LitAt w1.heap.size 60 #[.string NM, .int .i64 z1, .int .i64 z2, .int .i64 z3, .slice none 0 0] (x 18) u := And.left (And.right hd)
        clear hd
        obtain ⟨b, e6, hb6, hlit⟩ := d18
        obtain ⟨xs, l1, l2⟩ := hg.1.fns.row hg.1.lt
        refine ⟨?_⟩
        simp only [putsFrom, Act.put, List.setIfInBounds_toArray, List.set_cons_zero, List.set_cons_succ, Nat.reduceAdd, d4, e6] at hK ⊢
        rw [if_pos (by simp [Region.wanted])]
        refine wp_appP elFn (.tmp 77) (.tmp 91) (by rfl) l1 (by rfl) [.string NM, .int .i64 z1, .int .i64 z2, .int .i64 z3, .slice none 0 0] _ 1 1 (by rfl) rfl (fun _ => ⟨_, rfl, lit_src hlit⟩) (by intro u hu; simp at hu; rcases hu with rfl | rfl | rfl | rfl | rfl <;> rfl) B1.out B2.out hg.1.lt ?_
        intro v' w' G1 G2 G3 G4
        obtain ⟨A', c', rfl⟩ := own_form G1
        exact hK.out _ w' (KpF.of_grown G2 BF.out) ⟨A', c', rfl, hg.1.func l2 (Touch.of_grown l1 G2) G4 HOK.out rfl G1⟩ trivial
      case sb20 =>
        refine OpStepQ.off 0 1 (by kernel_rfl) (by kernel_rfl) ?_
        intro x u p hp hg hd K hK
        have d0 : (x 0) = .pointer (some ⟨cb, 0, none⟩) := And.left hd
        clear hd
        refine ⟨?_⟩
        simp only [putsFrom, Act.put, List.setIfInBounds_toArray, List.set_cons_zero, List.set_cons_succ, Nat.reduceAdd, d0] at hK ⊢
        go_simp
        exact hK.out _ _ (Kp.refl _) rfl
      case sb21 =>
        refine OpStepQ.off 0 1 (by kernel_rfl) (by kernel_rfl) ?_
        intro x u p hp hg hd K hK
        have d20 : (x 20) = .pointer (some ⟨cb, 0, none⟩) := And.left hd
        clear hd
        refine ⟨?_⟩
        simp only [putsFrom, Act.put, List.setIfInBounds_toArray, List.set_cons_zero, List.set_cons_succ, Nat.reduceAdd, d20] at hK ⊢
        go_simp
        exact hK.out _ _ (Kp.refl _) rfl
      case sb22 =>
        refine OpStepQ.on 1 (by kernel_rfl) (by kernel_rfl) ?_
        intro x u hg hd K hK
        change ∃ A c', x 19 = .slice A (c.funcs.length + 1) c' ∧ TkY W cb (N + 1) (.slice Af c.funcs.length cf) (.slice A (c.funcs.length + 1) c') vt ⟨c.funcs ++ [⟨NM, z1, z2, z3, []⟩], c.texts⟩ u at hg
        have d21 : (x 21) = .pointer (some ⟨cb, 0, none⟩) := And.left (And.right hd)
        clear hd
        obtain ⟨A7, c7, e7, hg2⟩ := hg
        have hb := hg2.box
        have q := blk_cell (o := 0) (v := Value.slice Af c.funcs.length cf) hb rfl
        have qf := blk_free (o := 0) hb
        have HG1 := hid hg2.set
        clear hb hg2
        refine ⟨?_⟩
        simp only [putsFrom, Act.put, List.setIfInBounds_toArray, List.set_cons_zero, List.set_cons_succ, Nat.reduceAdd, d21, e7] at hK ⊢
        go_simp
        exact hK.out undef _ (KpF.setCell BC.out _) ⟨A7, c7, HG1.out⟩ trivial
      intro x u hg he
      have d0 : (x 0) = .pointer (some ⟨cb, 0, none⟩) := And.left he
      have d1 : (x 1) = .pointer (some ⟨cb, 0, none⟩) := And.left (And.right he)
      have d2 : (x 2) = .pointer (some ⟨cb, 0, none⟩) := And.left (And.right (And.right he))
      have d3 : (x 3) = .pointer (some ⟨cb, 0, none⟩) := And.left (And.right (And.right (And.right he)))
      have d4 : (x 4) = .slice Af c.funcs.length cf := And.left (And.right (And.right (And.right (And.right he))))
      have d5 : (x 5) = .string R := And.left (And.right (And.right (And.right (And.right (And.right he)))))
      have d6 : (x 6) = .int .i64 (i : Int) := And.left (And.right (And.right (And.right (And.right (And.right (And.right he))))))
      have d7 : (x 7) = .string NM := And.left (And.right (And.right (And.right (And.right (And.right (And.right (And.right he)))))))
      have d8 : (x 8) = .slice (some ⟨g3, 0, none⟩) 3 c3 := And.left (And.right (And.right (And.right (And.right (And.right (And.right (And.right (And.right he))))))))
      have d9 : (x 9) = .pointer (some ⟨g3, 0, none⟩) := And.left (And.right (And.right (And.right (And.right (And.right (And.right (And.right (And.right (And.right he)))))))))
      have d10 : (x 10) = .int .i64 z1 := And.left (And.right (And.right (And.right (And.right (And.right (And.right (And.right (And.right (And.right (And.right he))))))))))
      have d11 : (x 11) = .slice (some ⟨g3, 0, none⟩) 3 c3 := And.left (And.right (And.right (And.right (And.right (And.right (And.right (And.right (And.right (And.right (And.right (And.right he)))))))))))
      have d12 : (x 12) = .pointer (some ⟨g3, 1, none⟩) := And.left (And.right (And.right (And.right (And.right (And.right (And.right (And.right (And.right (And.right (And.right (And.right (And.right he))))))))))))
      have d13 : (x 13) = .int .i64 z2 := And.left (And.right (And.right (And.right (And.right (And.right (And.right (And.right (And.right (And.right (And.right (And.right (And.right (And.right he)))))))))))))
      have d14 : (x 14) = .slice (some ⟨g3, 0, none⟩) 3 c3 := And.left (And.right (And.right (And.right (And.right (And.right (And.right (And.right (And.right (And.right (And.right (And.right (And.right (And.right (And.right he))))))))))))))
      have d15 : (x 15) = .pointer (some ⟨g3, 2, none⟩) := And.left (And.right (And.right (And.right (And.right (And.right (And.right (And.right (And.right (And.right (And.right (And.right (And.right (And.right (And.right (And.right he)))))))))))))))
      have d16 : (x 16) = .int .i64 z3 := And.left (And.right (And.right (And.right (And.right (And.right (And.right (And.right (And.right (And.right (And.right (And.right (And.right (And.right (And.right (And.right (And.right he))))))))))))))))
      have d17 : (x 17) = .agg #[.string NM, .int .i64 z1, .int .i64 z2, .int .i64 z3, .slice none 0 0] := And.left (And.right (And.right (And.right (And.right (And.right (And.right (And.right (And.right (And.right (And.right (And.right (And.right (And.right (And.right (And.right (And.right (And.right he)))))))))))))))))
      have d18 : LitAt w1.heap.size 60 #[.string NM, .int .i64 z1, .int .i64 z2, .int .i64 z3, .slice none 0 0] (x 18) u := And.left (And.right (And.right (And.right (And.right (And.right (And.right (And.right (And.right (And.right (And.right (And.right (And.right (And.right (And.right (And.right (And.right (And.right (And.right he))))))))))))))))))
      have d20 : (x 20) = .pointer (some ⟨cb, 0, none⟩) := And.left (And.right (And.right (And.right (And.right (And.right (And.right (And.right (And.right (And.right (And.right (And.right (And.right (And.right (And.right (And.right (And.right (And.right (And.right (And.right (And.right he))))))))))))))))))))
      have d21 : (x 21) = .pointer (some ⟨cb, 0, none⟩) := And.left (And.right (And.right (And.right (And.right (And.right (And.right (And.right (And.right (And.right (And.right (And.right (And.right (And.right (And.right (And.right (And.right (And.right (And.right (And.right (And.right (And.right he)))))))))))))))))))))
      clear he
      change ∃ A c', TkX W cb (N + 1) (.slice A (c.funcs.length + 1) c') vt ⟨c.funcs ++ [⟨NM, z1, z2, z3, []⟩], c.texts⟩ u at hg
      refine ⟨?_⟩
      simp only [putsFrom, Act.put, List.setIfInBounds_toArray, List.set_cons_zero, List.set_cons_succ, Nat.reduceAdd, d0, d1, d2, d3, d4, d5, d6, d7, d8, d9, d10, d11, d12, d13, d14, d15, d16, d17, d20, d21]
      clear d0 d1 d2 d3 d4 d5 d6 d7 d8 d9 d10 d11 d12 d13 d14 d15 d16 d17 d20 d21
      obtain ⟨A7, c7, hX7⟩ := hg
      have HX7 := hid hX7
      clear hX7
      go_wp2
      go_ret
      exact tk_ok HN.out HX7.out
end Go.Proofs.YtiicdknmoakocaaDoor
namespace Go.Proofs.YtiicdknmoakocaaDoor
open Go.RowKit
set_option linter.unusedVariables false
set_option linter.unusedSimpArgs false

theorem words_nodup : mwordsL.Nodup := by decide
theorem op_hit {R : ByteArray} {k : Nat} (hk : k < 42) (h : mwordsL.getD k [] = (Lib.cut R.data.toList [32]).1) : opOf R = k := by
  have hl : k < mwordsL.length := hk
  rw [List.getD_eq_getElem?_getD, List.getElem?_eq_getElem hl] at h
  unfold opOf
  rw [← h]
  exact words_nodup.idxOf_getElem k hl
theorem op_none {R : ByteArray} (h : ∀ k, 0 < k → k < 42 → mwordsL.getD k [] ≠ (Lib.cut R.data.toList [32]).1) : ¬ (0 < opOf R ∧ opOf R < 42) := by
  rintro ⟨h1, h2⟩
  have hl : opOf R < mwordsL.length := h2
  refine h _ h1 h2 ?_
  rw [List.getD_eq_getElem?_getD, List.getElem?_eq_getElem hl]
  exact List.getElem_idxOf hl
theorem cut_le (R : ByteArray) : (Lib.cut R.data.toList [32]).1.length ≤ R.size := by
  have hz : R.data.toList.length = R.size := by rw [Array.length_toList]; rfl
  unfold Lib.cut
  split
  · show (List.take _ _).length ≤ _
    rw [List.length_take]; omega
  · show R.data.toList.length ≤ _
    omega
theorem tk_round {k : Nat} {W u : World} {P : Nat → Prop} (hk : k < 42) (h : P (k + 1)) (hkp : Kp W u) : (∃ k' : Nat, k' ≤ 42 ∧ Value.int .i64 ((k : Int) + 1) = .int .i64 (k' : Int) ∧ P k' ∧ Kp W u) ∧ 42 - (intOf (Value.int .i64 ((k : Int) + 1))).toNat < 42 - (intOf (Value.int .i64 (k : Int))).toNat :=
  ⟨⟨k + 1, hk, by congr 1, h, hkp⟩, by simp only [intOf]; omega⟩
set_option maxRecDepth 20000 in
set_option maxHeartbeats 8000000 in
theorem take_none (W : World) (cb N : Nat) (c : CodeM) (s : ByteArray) (u : World) (h : Kp W u) (hp0 : textP.isPrefixOf s.data.toList = false) (hp1 : funcP.isPrefixOf s.data.toList = false) (hp2 : ([32, 32] : List UInt8).isPrefixOf s.data.toList = false) :
    Calls Tryd.prog 27 #[.pointer (some ⟨cb, 0, none⟩), .string s] u (TkPost W cb N none) := by
  have HC0 := hid (fun w => cp_miss s ⟨#[116, 101, 120, 116, 32]⟩ w hp0)
  have HC1 := hid (fun w => cp_miss s ⟨#[102, 117, 110, 99, 32]⟩ w hp1)
  have HC2 := hid (fun w => cp_miss s ⟨#[32, 32]⟩ w hp2)
  have HK := hid h
  clear h hp0 hp1 hp2
  go_enter Tryd.func27, Tryd.ntmps27
  go_upto_region 6 with (go_at_call 37; go_must (refine (HC0.out _).mono ?_); rintro e w1 ⟨rfl, rfl⟩)
  go_upto_region 15 with (go_at_call 37; go_must (refine (HC1.out _).mono ?_); rintro e w1 ⟨rfl, rfl⟩)
  go_wp2_with (go_at_call 37; go_must (refine (HC2.out _).mono ?_); rintro e w1 ⟨rfl, rfl⟩)
  go_ret
  exact tk_fail rfl HK.out
set_option maxRecDepth 20000 in
set_option maxHeartbeats 8000000 in
theorem take_ins (W : World) (cb N : Nat) (vf vt : Value) (c : CodeM) (s : ByteArray) (u : World) (h : TkX W cb N vf vt c u) (hN : N + 1 ≤ 4294967296) (hs : s.size < 4294967281) (hp0 : textP.isPrefixOf s.data.toList = false) (hp1 : funcP.isPrefixOf s.data.toList = false) (hp2 : ([32, 32] : List UInt8).isPrefixOf s.data.toList = true) (m : Int) (hm : ∀ u', Kp u u' → u'.cell? ⟨0, 0, none⟩ = some (.int .i64 m)) :
    Calls Tryd.prog 27 #[.pointer (some ⟨cb, 0, none⟩), .string s] u (TkPost W cb N (takeI c (mk (s.data.toList.drop 2)))) := by
  have HC0 := hid (fun w => cp_miss s ⟨#[116, 101, 120, 116, 32]⟩ w hp0)
  have HC1 := hid (fun w => cp_miss s ⟨#[102, 117, 110, 99, 32]⟩ w hp1)
  have HC2 := hid (fun w => cp_hit s ⟨#[32, 32]⟩ w hp2)
  rw [show (mk (s.data.toList.drop (⟨#[32, 32]⟩ : ByteArray).data.toList.length)) = mk (s.data.toList.drop 2) from rfl] at HC2
  have hRs := drop_le s 2
  generalize mk (s.data.toList.drop 2) = R at HC2 hRs ⊢
  have HX := hid h
  have HKP := hid h.kp
  have HR : Hid (takeI c R = if c.funcs = [] ∨ ¬ (0 < opOf R ∧ opOf R < 42) then none else match numsM 5 (R.extract (Lib.cut R.data.toList [32]).1.length R.size) with
    | some [x1, x2, x3, x4, x5] => some ⟨addIns c.funcs ⟨opOf R, x1, x2, x3, x4, x5⟩, c.texts⟩
    | _ => none) := hid rfl
  generalize takeI c R = res at HR ⊢
  by_cases hf : c.funcs = []
  · have HN := hid (show res = none by rw [HR.out, if_pos (.inl hf)])
    have hlf : (∃ A cc, vf = .slice A c.funcs.length cc) := by
      obtain ⟨xs, h1, _⟩ := h.fns.row h.lt
      exact own_form h1
    obtain ⟨Af, cf, rfl⟩ := hlf
    have q0 := blk_cell (o := 0) (v := Value.slice Af c.funcs.length cf) h.box rfl
    have ql := blk_lt h.box
    rw [hf] at q0
    clear h hp0 hp1 hp2 hf HR hs hRs hN hm
    go_enter Tryd.func27, Tryd.ntmps27
    go_upto_region 6 with (go_at_call 37; go_must (refine (HC0.out _).mono ?_); rintro e w1 ⟨rfl, rfl⟩)
    go_upto_region 15 with (go_at_call 37; go_must (refine (HC1.out _).mono ?_); rintro e w1 ⟨rfl, rfl⟩)
    go_wp2_with (go_at_call 37; go_must (refine (HC2.out _).mono ?_); rintro e w1 ⟨rfl, rfl⟩)
    go_ret
    exact tk_fail HN.out HKP.out
  · obtain ⟨g, cc, ini, f, xs, lins, M, rfl, hfe, hL⟩ := h.last hf
    have HFE := hid hfe; have HL := hid hL
    have HNF := hid hf
    have HCT := hid (fun w => cut1_any R 32 w (by omega))
    have HCL := hid (cut_le R)
    have HOH := hid (fun k hk h => op_hit (R := R) (k := k) hk h)
    have HON := hid (op_none (R := R))
    generalize (Lib.cut R.data.toList [32]).1 = OPB at HCT HCL HR HOH HON
    generalize (Lib.cut R.data.toList [32]).2.1 = OPC at HCT
    generalize (Lib.cut R.data.toList [32]).2.2 = OPD at HCT
    obtain ⟨OPS, hOPS⟩ : ∃ x : ByteArray, (⟨OPB.toArray⟩ : ByteArray) = x := ⟨_, rfl⟩
    have HOS := hid hOPS
    have hoz : OPS.size = OPB.length := by rw [← hOPS]; simp [ByteArray.size]
    have HOZ := hid hoz
    rw [hOPS] at HCT
    have o1 : (OPS.size : Int) ≤ (R.size : Int) := by have := HCL.out; omega
    have o0 : (0 : Int) ≤ (OPS.size : Int) := by omega
    have HRS := hid (show R.size < 4294967281 by omega)
    have q0 := blk_cell (o := 0) (v := Value.slice (some ⟨g, 0, none⟩) (ini.length + 1) cc) h.box rfl
    have ql := blk_lt h.box
    have nz : ((ini.length : Int) + 1 == 0) = false := by rw [beq_eq_false_iff_ne]; omega
    have HM := hid hm
    clear h hp0 hp1 hp2 hf hs hRs hm hOPS hoz hL hfe
    go_enter Tryd.func27, Tryd.ntmps27
    go_upto_region 6 with (go_at_call 37; go_must (refine (HC0.out _).mono ?_); rintro e w1 ⟨rfl, rfl⟩)
    go_upto_region 15 with (go_at_call 37; go_must (refine (HC1.out _).mono ?_); rintro e w1 ⟨rfl, rfl⟩)
    go_upto_region 18 with (go_at_call 37; go_must (refine (HC2.out _).mono ?_); rintro e w1 ⟨rfl, rfl⟩)
    clear q0 ql nz
    go_wp2_with first | (go_at_call 26; go_must (refine (HCT.out _).mono ?_); rintro e w2 ⟨rfl, hk2⟩; have HK2 := hid hk2; clear hk2) | (go_at_call 30; go_must (refine (words_any _).mono ?_); rintro e w3 ⟨rfl, hk3⟩; have HK3 := hid hk3; clear hk3)
    have HKA := hid (HK2.out.trans HK3.out)
    go_loopw [118] (fun kv wr => ∃ k : Nat, k ≤ 42 ∧ kv = .int .i64 (k : Int) ∧ (∀ j, 0 < j → j < k → mwordsL.getD j [] ≠ OPB) ∧ Kp w3 wr) (fun kv _ => 42 - (intOf kv).toNat)
    case atStart => exact ⟨0, by omega, rfl, fun j h1 h2 => absurd h2 (by omega), Kp.refl _⟩
    case round =>
      obtain ⟨k, hk, rfl, hno, hkp⟩ := hrel
      have HNO := hid hno; have HKR := hid hkp
      clear hno hkp
      by_cases hlt : k < 42
      · have i1 : (k : Int) < 42 := by omega
        have k1 : IntKind.i64.wrap ((k : Int) + 1) = (k : Int) + 1 := by rw [IntKind.wrap_i64]; omega
        have q9 := words_idx k hlt wr
        obtain ⟨WD, hWD⟩ : ∃ x : ByteArray, (⟨(mwordsL.getD k []).toArray⟩ : ByteArray) = x := ⟨_, rfl⟩
        rw [hWD] at q9
        by_cases hk0 : 0 < k
        · have i2 : (0 : Int) < (k : Int) := by omega
          by_cases heq : mwordsL.getD k [] = OPB
          · have t9 : (WD.toList == OPS.toList) = true := by
              rw [beq_iff_eq, ← hWD, ← HOS.out, heq]
            have HOP := hid (HOH.out k hlt heq)
            have hR := HR.out
            rw [if_neg (by rintro (h | h); exact HNF.out h; exact h (by rw [HOP.out]; exact ⟨hk0, hlt⟩)), HOP.out, ← HOZ.out] at hR
            have HR2 := hid hR
            have hES := ext_le R OPS.size R.size
            have HNM := hid (cnums_any (R.extract OPS.size R.size) 5 5 rfl (by decide) (by decide) (by have := HRS.out; omega) m wr (HM.out wr (HKA.out.trans HKR.out)))
            have HXR := hid (HX.out.keep (HKA.out.trans HKR.out))
            have HLR := hid (HL.out.keep (HKA.out.trans HKR.out))
            clear hWD heq hR hES
            cases hn : numsM 5 (R.extract OPS.size R.size) with
            | none =>
              rw [hn] at HR2
              have HN := hid (show res = none from HR2.out)
              have HNM2 := hid (show Calls Tryd.prog 40 #[.string (R.extract OPS.size R.size), .int .i64 5] wr fun e w' => (∃ A k c, e = .returned (.tuple #[.slice A k c, .bool false])) ∧ Kp wr w' from HNM.out.mono (by
                rintro e w' ⟨⟨A, k, c, rfl, _⟩, h2⟩; exact ⟨⟨A, k, c, by rw [hn]; rfl⟩, h2⟩))
              clear hn HNM HR2
              go_wp2_with (go_at_call 40; go_must (refine HNM2.out.mono ?_); rintro e w4 ⟨⟨A4, k4, c4, rfl⟩, hk4⟩; have HK4 := hid hk4; clear hk4)
              go_ret
              exact tk_fail HN.out (HXR.out.kp.trans HK4.out)
            | some l =>
              obtain ⟨hll, hlo⟩ := numsM_ok hn
              obtain ⟨z1, z2, z3, z4, z5, rfl⟩ : ∃ a b d e f, l = [a, b, d, e, f] := by
                match l, hll with
                | [a, b, d, e, f], _ => exact ⟨a, b, d, e, f, rfl⟩
              rw [hn] at HR2
              have HN := hid (show res = some ⟨addIns c.funcs ⟨k, z1, z2, z3, z4, z5⟩, c.texts⟩ from HR2.out)
              have HNM2 := hid (show Calls Tryd.prog 40 #[.string (R.extract OPS.size R.size), .int .i64 5] wr fun e w' => (∃ g c, e = .returned (.tuple #[.slice (some ⟨g, 0, none⟩) 5 c, .bool true]) ∧ w'.ownsRow wr.heap.size 3 1 (.slice (some ⟨g, 0, none⟩) 5 c) 5 [.int .i64 z1, .int .i64 z2, .int .i64 z3, .int .i64 z4, .int .i64 z5]) ∧ Kp wr w' from HNM.out.mono (by
                rintro e w' ⟨⟨A, k, c, rfl, h1⟩, h2⟩
                obtain ⟨g, rfl, rfl, h3⟩ := own5 (h1 _ hn)
                exact ⟨⟨g, c, by rw [hn]; rfl, h3⟩, h2⟩))
              generalize wr.heap.size = Bn at HNM2
              have HOI := hid (show okIn ⟨k, z1, z2, z3, z4, z5⟩ from ⟨⟨by show _ ≤ (k : Int); omega, by show (k : Int) ≤ _; omega⟩, hlo z1 (by simp), hlo z2 (by simp), hlo z3 (by simp), hlo z4 (by simp), hlo z5 (by simp)⟩)
              clear hn HNM HR2 hll hlo
              obtain ⟨xsi, li1, li2⟩ := HLR.out.ins
              obtain ⟨Ai, ci, hlins⟩ := own_form li1
              subst hlins
              have HIL := hid (HXR.out.iN f (by rw [HFE.out]; simp))
              have HIN := hid (show ini.length + 1 ≤ N by have h := HXR.out.fN; rw [HFE.out] at h; simpa using h)
              have B1 := hid (show f.ins.length + 1 ≤ maxLen by have := HIL.out; unfold maxLen; omega)
              have B2 := hid (show (f.ins.length + 1) * 48 ≤ 140737488355328 by have := HIL.out; omega)
              have HNB := hid hN
              clear li1 li2 hN
              go_upto_region 25 with (go_at_call 40; go_must (refine HNM2.out.mono ?_); rintro e w4 ⟨⟨g4, c4, rfl, ho4⟩, hk4⟩; have HK4 := hid hk4; have HO4 := hid ho4; clear hk4 ho4)
              clear i1 k1 q9 t9 i2 o0 o1
              have HXQ := hid (HXR.out.keep HK4.out)
              have HLQ := hid (HLR.out.keep HK4.out)
              have r0 := blk_cell (o := 0) (v := Value.slice (some ⟨g, 0, none⟩) (ini.length + 1) cc) HXQ.out.box rfl
              have rl := blk_lt HXQ.out.box
              have j0 : (0 : Int) ≤ (ini.length : Int) := by omega
              have j1 : (ini.length : Int) < (ini.length : Int) + 1 := by omega
              have kw : IntKind.i64.wrap ((ini.length : Int) + 1 - 1) = (ini.length : Int) := by have := HIN.out; have := HNB.out; rw [IntKind.wrap_i64]; omega
              have kw2 : IntKind.i64.wrap (ini.length : Int) = (ini.length : Int) := by have := HIN.out; have := HNB.out; rw [IntKind.wrap_i64]; omega
              refine wp_region_kp [[], [0], [1], [2], [], [4], [5], [6], [7], [8], [3, 9], [10]] (fun u => Kp w4 u)
                [fun (y : Value) (u : World) => y = (.pointer (some ⟨cb, 0, none⟩) : Value),
                 fun (y : Value) (u : World) => y = (.pointer (some ⟨cb, 0, none⟩) : Value),
                 fun (y : Value) (u : World) => y = (.pointer (some ⟨cb, 0, none⟩) : Value),
                 fun (y : Value) (u : World) => y = (.slice (some ⟨g, 0, none⟩) (ini.length + 1) cc : Value),
                 fun (y : Value) (u : World) => y = (.pointer (some ⟨cb, 0, none⟩) : Value),
                 fun (y : Value) (u : World) => y = (.pointer (some ⟨cb, 0, none⟩) : Value),
                 fun (y : Value) (u : World) => y = (.pointer (some ⟨cb, 0, none⟩) : Value),
                 fun (y : Value) (u : World) => y = (.slice (some ⟨g, 0, none⟩) (ini.length + 1) cc : Value),
                 fun (y : Value) (u : World) => y = (.int .i64 ((ini.length + 1) : Int) : Value),
                 fun (y : Value) (u : World) => y = (.int .i64 (ini.length : Int) : Value),
                 fun (y : Value) (u : World) => y = (.pointer (some ⟨g, (ini.length) * 5, none⟩) : Value),
                 fun (y : Value) (u : World) => y = (.pointer (some ⟨g, (ini.length) * 5, none⟩) : Value)]
                (by kernel_rfl) (by kernel_rfl) (by kernel_rfl) (by kernel_rfl) ((Kp.refl _).drew) (fun _ _ hk h => h.trans hk) ⟨fun _ _ _ _ h => h, fun _ _ _ _ h => h, fun _ _ _ _ h => h, fun _ _ _ _ h => h, fun _ _ _ _ h => h, fun _ _ _ _ h => h, fun _ _ _ _ h => h, fun _ _ _ _ h => h, fun _ _ _ _ h => h, fun _ _ _ _ h => h, fun _ _ _ _ h => h, fun _ _ _ _ h => h, trivial⟩ ⟨?sc0, ?sc1, ?sc2, ?sc3, ?sc4, ?sc5, ?sc6, ?sc7, ?sc8, ?sc9, ?sc10, ?sc11, trivial⟩ ?hEc
              case sc0 =>
                intro x u hg hd K hK
                clear hd
                refine ⟨?_⟩
                simp only [putsFrom, Act.put, List.setIfInBounds_toArray, List.set_cons_zero, List.set_cons_succ, Nat.reduceAdd] at hK ⊢
                go_simp
                exact hK.out _ _ (Kp.refl _) rfl
              case sc1 =>
                intro x u hg hd K hK
                have d0 : (x 0) = .pointer (some ⟨cb, 0, none⟩) := And.left hd
                clear hd
                refine ⟨?_⟩
                simp only [putsFrom, Act.put, List.setIfInBounds_toArray, List.set_cons_zero, List.set_cons_succ, Nat.reduceAdd, d0] at hK ⊢
                go_simp
                exact hK.out _ _ (Kp.refl _) rfl
              case sc2 =>
                intro x u hg hd K hK
                have d1 : (x 1) = .pointer (some ⟨cb, 0, none⟩) := And.left hd
                clear hd
                refine ⟨?_⟩
                simp only [putsFrom, Act.put, List.setIfInBounds_toArray, List.set_cons_zero, List.set_cons_succ, Nat.reduceAdd, d1] at hK ⊢
                go_simp
                exact hK.out _ _ (Kp.refl _) rfl
              case sc3 =>
                intro x u hg hd K hK
                have d2 : (x 2) = .pointer (some ⟨cb, 0, none⟩) := And.left hd
                clear hd
                have q0 := cell_kp hg rl r0
                refine ⟨?_⟩
                simp only [putsFrom, Act.put, List.setIfInBounds_toArray, List.set_cons_zero, List.set_cons_succ, Nat.reduceAdd, d2] at hK ⊢
                go_simp
                exact hK.out _ _ (Kp.refl _) rfl
              case sc4 =>
                intro x u hg hd K hK
                clear hd
                refine ⟨?_⟩
                simp only [putsFrom, Act.put, List.setIfInBounds_toArray, List.set_cons_zero, List.set_cons_succ, Nat.reduceAdd] at hK ⊢
                go_simp
                exact hK.out _ _ (Kp.refl _) rfl
              case sc5 =>
                intro x u hg hd K hK
                have d4 : (x 4) = .pointer (some ⟨cb, 0, none⟩) := And.left hd
                clear hd
                refine ⟨?_⟩
                simp only [putsFrom, Act.put, List.setIfInBounds_toArray, List.set_cons_zero, List.set_cons_succ, Nat.reduceAdd, d4] at hK ⊢
                go_simp
                exact hK.out _ _ (Kp.refl _) rfl
              case sc6 =>
                intro x u hg hd K hK
                have d5 : (x 5) = .pointer (some ⟨cb, 0, none⟩) := And.left hd
                clear hd
                refine ⟨?_⟩
                simp only [putsFrom, Act.put, List.setIfInBounds_toArray, List.set_cons_zero, List.set_cons_succ, Nat.reduceAdd, d5] at hK ⊢
                go_simp
                exact hK.out _ _ (Kp.refl _) rfl
              case sc7 =>
                intro x u hg hd K hK
                have d6 : (x 6) = .pointer (some ⟨cb, 0, none⟩) := And.left hd
                clear hd
                have q0 := cell_kp hg rl r0
                refine ⟨?_⟩
                simp only [putsFrom, Act.put, List.setIfInBounds_toArray, List.set_cons_zero, List.set_cons_succ, Nat.reduceAdd, d6] at hK ⊢
                go_simp
                exact hK.out _ _ (Kp.refl _) rfl
              case sc8 =>
                intro x u hg hd K hK
                have d7 : (x 7) = .slice (some ⟨g, 0, none⟩) (ini.length + 1) cc := And.left hd
                clear hd
                refine ⟨?_⟩
                simp only [putsFrom, Act.put, List.setIfInBounds_toArray, List.set_cons_zero, List.set_cons_succ, Nat.reduceAdd, d7] at hK ⊢
                go_simp
                exact hK.out _ _ (Kp.refl _) rfl
              case sc9 =>
                intro x u hg hd K hK
                have d8 : (x 8) = .int .i64 ((ini.length + 1) : Int) := And.left hd
                clear hd
                refine ⟨?_⟩
                simp only [putsFrom, Act.put, List.setIfInBounds_toArray, List.set_cons_zero, List.set_cons_succ, Nat.reduceAdd, d8] at hK ⊢
                go_simp
                exact hK.out _ _ (Kp.refl _) rfl
              case sc10 =>
                intro x u hg hd K hK
                have d3 : (x 3) = .slice (some ⟨g, 0, none⟩) (ini.length + 1) cc := And.left hd
                have d9 : (x 9) = .int .i64 (ini.length : Int) := And.left (And.right hd)
                clear hd
                refine ⟨?_⟩
                simp only [putsFrom, Act.put, List.setIfInBounds_toArray, List.set_cons_zero, List.set_cons_succ, Nat.reduceAdd, d3, d9] at hK ⊢
                go_simp
                exact hK.out _ _ (Kp.refl _) rfl
              case sc11 =>
                intro x u hg hd K hK
                have d10 : (x 10) = .pointer (some ⟨g, (ini.length) * 5, none⟩) := And.left hd
                clear hd
                refine ⟨?_⟩
                simp only [putsFrom, Act.put, List.setIfInBounds_toArray, List.set_cons_zero, List.set_cons_succ, Nat.reduceAdd, d10] at hK ⊢
                go_simp
                exact hK.out _ _ (Kp.refl _) rfl
              intro x u hg he
              have d0 : (x 0) = .pointer (some ⟨cb, 0, none⟩) := And.left he
              have d1 : (x 1) = .pointer (some ⟨cb, 0, none⟩) := And.left (And.right he)
              have d2 : (x 2) = .pointer (some ⟨cb, 0, none⟩) := And.left (And.right (And.right he))
              have d3 : (x 3) = .slice (some ⟨g, 0, none⟩) (ini.length + 1) cc := And.left (And.right (And.right (And.right he)))
              have d4 : (x 4) = .pointer (some ⟨cb, 0, none⟩) := And.left (And.right (And.right (And.right (And.right he))))
              have d5 : (x 5) = .pointer (some ⟨cb, 0, none⟩) := And.left (And.right (And.right (And.right (And.right (And.right he)))))
              have d6 : (x 6) = .pointer (some ⟨cb, 0, none⟩) := And.left (And.right (And.right (And.right (And.right (And.right (And.right he))))))
              have d7 : (x 7) = .slice (some ⟨g, 0, none⟩) (ini.length + 1) cc := And.left (And.right (And.right (And.right (And.right (And.right (And.right (And.right he)))))))
              have d8 : (x 8) = .int .i64 ((ini.length + 1) : Int) := And.left (And.right (And.right (And.right (And.right (And.right (And.right (And.right (And.right he))))))))
              have d9 : (x 9) = .int .i64 (ini.length : Int) := And.left (And.right (And.right (And.right (And.right (And.right (And.right (And.right (And.right (And.right he)))))))))
              have d10 : (x 10) = .pointer (some ⟨g, (ini.length) * 5, none⟩) := And.left (And.right (And.right (And.right (And.right (And.right (And.right (And.right (And.right (And.right (And.right he))))))))))
              have d11 : (x 11) = .pointer (some ⟨g, (ini.length) * 5, none⟩) := And.left (And.right (And.right (And.right (And.right (And.right (And.right (And.right (And.right (And.right (And.right (And.right he)))))))))))
              clear he
              refine ⟨?_⟩
              simp only [putsFrom, Act.put, List.setIfInBounds_toArray, List.set_cons_zero, List.set_cons_succ, Nat.reduceAdd, d0, d1, d2, d3, d4, d5, d6, d7, d8, d9, d10, d11]
              clear d0 d1 d2 d3 d4 d5 d6 d7 d8 d9 d10 d11
              have HXQ2 := hid (HXQ.out.keep hg)
              have HLQ2 := hid (HLQ.out.keep hg)
              have HO5 := hid (ownsRow_keep HO4.out hg)
              clear hg r0 rl j0 j1 kw kw2
              go_upto_region 26 with fail
              have BF := hid (show ∀ b, (Value.slice Ai f.ins.length ci).ownBlock = some b → b < u.heap.size from fun b hb => (own_blk_lt HLQ2.out.ins b hb).2)
              have BG := hid (show g < u.heap.size from (rowGe HLQ2.out.row).2)
              have HU := hid (show u = u from rfl)
              obtain ⟨w5, hw5⟩ : ∃ w5, w5 = u := ⟨_, rfl⟩
              rw [← hw5] at BF BG HXQ2 HLQ2 HO5 ⊢
              clear hw5 HU
              refine wp_region_phase [23, 26] [(0, 1), (0, 0), (0, 0), (0, 0), (0, 0), (0, 0), (0, 0), (0, 0), (0, 0), (0, 0), (0, 0), (0, 0), (0, 0), (0, 0), (0, 0), (0, 0), (0, 0), (0, 0), (0, 0), (0, 0), (0, 0), (0, 0), (0, 0), (0, 0), (0, 1), (0, 1), (0, 0)] (KpF w5.heap.size) [[], [], [1], [2], [3], [], [], [6], [7], [], [9], [10], [], [12], [13], [], [15], [16], [], [18], [19], [5, 8, 11, 14, 17, 20], [21], [4, 22], [0], [24], [23, 25]]
                (fun (p : Nat) (x : Nat → Value) (u : World) => match p with | 0 => TkX W cb N (.slice (some ⟨g, 0, none⟩) (ini.length + 1) cc) vt c u ∧ TkL (cb + 1) u g cc ini f xs (.slice Ai f.ins.length ci) M ∧ u.ownsRow Bn 3 1 (.slice (some ⟨g4, 0, none⟩) 5 c4) 5 [.int .i64 z1, .int .i64 z2, .int .i64 z3, .int .i64 z4, .int .i64 z5] ∧ w5.heap.size ≤ u.heap.size | 1 => ∃ A c', x 23 = .slice A (f.ins.length + 1) c' ∧ TkZ W cb N g cc ini f xs (.slice Ai f.ins.length ci) M vt c ⟨k, z1, z2, z3, z4, z5⟩ (.slice A (f.ins.length + 1) c') u | _ => TkX W cb (N + 1) (.slice (some ⟨g, 0, none⟩) (ini.length + 1) cc) vt ⟨addIns c.funcs ⟨k, z1, z2, z3, z4, z5⟩, c.texts⟩ u)
                [fun (y : Value) (u : World) => y = (.pointer (some ⟨g, ini.length * 5, none⟩) : Value),
                 fun (y : Value) (u : World) => y = (.pointer (some ⟨g, ini.length * 5, none⟩) : Value),
                 fun (y : Value) (u : World) => y = (.pointer (some ⟨g, ini.length * 5, none⟩) : Value),
                 fun (y : Value) (u : World) => y = (.pointer (some ⟨g, ini.length * 5 + 4, none⟩) : Value),
                 fun (y : Value) (u : World) => y = (.slice Ai f.ins.length ci : Value),
                 fun (y : Value) (u : World) => y = (.int .i64 (k : Int) : Value),
                 fun (y : Value) (u : World) => y = (.slice (some ⟨g4, 0, none⟩) 5 c4 : Value),
                 fun (y : Value) (u : World) => y = (.pointer (some ⟨g4, 0, none⟩) : Value),
                 fun (y : Value) (u : World) => y = (.int .i64 z1 : Value),
                 fun (y : Value) (u : World) => y = (.slice (some ⟨g4, 0, none⟩) 5 c4 : Value),
                 fun (y : Value) (u : World) => y = (.pointer (some ⟨g4, 1, none⟩) : Value),
                 fun (y : Value) (u : World) => y = (.int .i64 z2 : Value),
                 fun (y : Value) (u : World) => y = (.slice (some ⟨g4, 0, none⟩) 5 c4 : Value),
                 fun (y : Value) (u : World) => y = (.pointer (some ⟨g4, 2, none⟩) : Value),
                 fun (y : Value) (u : World) => y = (.int .i64 z3 : Value),
                 fun (y : Value) (u : World) => y = (.slice (some ⟨g4, 0, none⟩) 5 c4 : Value),
                 fun (y : Value) (u : World) => y = (.pointer (some ⟨g4, 3, none⟩) : Value),
                 fun (y : Value) (u : World) => y = (.int .i64 z4 : Value),
                 fun (y : Value) (u : World) => y = (.slice (some ⟨g4, 0, none⟩) 5 c4 : Value),
                 fun (y : Value) (u : World) => y = (.pointer (some ⟨g4, 4, none⟩) : Value),
                 fun (y : Value) (u : World) => y = (.int .i64 z5 : Value),
                 fun (y : Value) (u : World) => y = (.agg #[.int .i64 (k : Int), .int .i64 z1, .int .i64 z2, .int .i64 z3, .int .i64 z4, .int .i64 z5] : Value),
                 fun (y : Value) (u : World) => LitAt w5.heap.size 64 #[.int .i64 (k : Int), .int .i64 z1, .int .i64 z2, .int .i64 z3, .int .i64 z4, .int .i64 z5] y u,
                 fun (y : Value) (u : World) => True,
                 fun (y : Value) (u : World) => y = (.pointer (some ⟨g, ini.length * 5, none⟩) : Value),
                 fun (y : Value) (u : World) => y = (.pointer (some ⟨g, ini.length * 5 + 4, none⟩) : Value),
                 fun (y : Value) (u : World) => True]
                (by kernel_rfl) (by kernel_rfl) (by kernel_rfl) (by kernel_rfl) (by kernel_rfl) (by kernel_rfl) (fun _ _ hk => KpF.of_kp hk) (⟨HXQ2.out.keep (Kp.refl _).drew, HLQ2.out.keep (Kp.refl _).drew, ownsRow_keep HO5.out (Kp.refl _).drew, Nat.le_refl _⟩) ?hKd ?hXd ⟨fun _ _ _ _ h => h, fun _ _ _ _ h => h, fun _ _ _ _ h => h, fun _ _ _ _ h => h, fun _ _ _ _ h => h, fun _ _ _ _ h => h, fun _ _ _ _ h => h, fun _ _ _ _ h => h, fun _ _ _ _ h => h, fun _ _ _ _ h => h, fun _ _ _ _ h => h, fun _ _ _ _ h => h, fun _ _ _ _ h => h, fun _ _ _ _ h => h, fun _ _ _ _ h => h, fun _ _ _ _ h => h, fun _ _ _ _ h => h, fun _ _ _ _ h => h, fun _ _ _ _ h => h, fun _ _ _ _ h => h, fun _ _ _ _ h => h, fun _ _ _ _ h => h, fun _ _ _ hk h => h.keep hk, fun _ _ _ _ _ => trivial, fun _ _ _ _ h => h, fun _ _ _ _ h => h, fun _ _ _ _ _ => trivial, trivial⟩ ⟨?sd0, ?sd1, ?sd2, ?sd3, ?sd4, ?sd5, ?sd6, ?sd7, ?sd8, ?sd9, ?sd10, ?sd11, ?sd12, ?sd13, ?sd14, ?sd15, ?sd16, ?sd17, ?sd18, ?sd19, ?sd20, ?sd21, ?sd22, ?sd23, ?sd24, ?sd25, ?sd26, trivial⟩ ?hEd
              case hKd =>
                intro p x w w' hk h
                rcases p with _ | _ | p
                · exact ⟨h.1.keep hk, h.2.1.keep hk, ownsRow_keep h.2.2.1 hk, Nat.le_trans h.2.2.2 hk.le⟩
                · exact (by obtain ⟨A, c, h1, h2⟩ := h; exact ⟨A, c, h1, h2.keep hk⟩)
                · exact (h.keep hk)
              case hXd =>
                intro p x i v w hi h
                have e0 : upd x i v 23 = x 23 := if_neg (fun hh => hi (by rw [← hh]; decide))
                have e1 : upd x i v 26 = x 26 := if_neg (fun hh => hi (by rw [← hh]; decide))
                rcases p with _ | _ | p
                · first | exact h | (simp only [e0, e1]; exact h)
                · first | exact h | (simp only [e0, e1]; exact h)
                · first | exact h | (simp only [e0, e1]; exact h)
              case sd0 =>
                refine OpStepQ.off 0 1 (by kernel_rfl) (by kernel_rfl) ?_
                intro x u p hp hg hd K hK
                clear hd
                refine ⟨?_⟩
                simp only [putsFrom, Act.put, List.setIfInBounds_toArray, List.set_cons_zero, List.set_cons_succ, Nat.reduceAdd] at hK ⊢
                go_simp
                exact hK.out _ _ (Kp.refl _) rfl
              case sd1 =>
                refine OpStepQ.off 0 0 (by kernel_rfl) (by kernel_rfl) ?_
                intro x u p hp hg hd K hK
                obtain rfl : p = 0 := by omega
                change TkX W cb N (.slice (some ⟨g, 0, none⟩) (ini.length + 1) cc) vt c u ∧ TkL (cb + 1) u g cc ini f xs (.slice Ai f.ins.length ci) M ∧ u.ownsRow Bn 3 1 (.slice (some ⟨g4, 0, none⟩) 5 c4) 5 [.int .i64 z1, .int .i64 z2, .int .i64 z3, .int .i64 z4, .int .i64 z5] ∧ w5.heap.size ≤ u.heap.size at hg
                clear hd
                refine ⟨?_⟩
                simp only [putsFrom, Act.put, List.setIfInBounds_toArray, List.set_cons_zero, List.set_cons_succ, Nat.reduceAdd] at hK ⊢
                go_simp
                exact hK.out _ _ (Kp.refl _) rfl
              case sd2 =>
                refine OpStepQ.off 0 0 (by kernel_rfl) (by kernel_rfl) ?_
                intro x u p hp hg hd K hK
                obtain rfl : p = 0 := by omega
                change TkX W cb N (.slice (some ⟨g, 0, none⟩) (ini.length + 1) cc) vt c u ∧ TkL (cb + 1) u g cc ini f xs (.slice Ai f.ins.length ci) M ∧ u.ownsRow Bn 3 1 (.slice (some ⟨g4, 0, none⟩) 5 c4) 5 [.int .i64 z1, .int .i64 z2, .int .i64 z3, .int .i64 z4, .int .i64 z5] ∧ w5.heap.size ≤ u.heap.size at hg
                have d1 : (x 1) = .pointer (some ⟨g, ini.length * 5, none⟩) := And.left hd
                clear hd
                refine ⟨?_⟩
                simp only [putsFrom, Act.put, List.setIfInBounds_toArray, List.set_cons_zero, List.set_cons_succ, Nat.reduceAdd, d1] at hK ⊢
                go_simp
                exact hK.out _ _ (Kp.refl _) rfl
              case sd3 =>
                refine OpStepQ.off 0 0 (by kernel_rfl) (by kernel_rfl) ?_
                intro x u p hp hg hd K hK
                obtain rfl : p = 0 := by omega
                change TkX W cb N (.slice (some ⟨g, 0, none⟩) (ini.length + 1) cc) vt c u ∧ TkL (cb + 1) u g cc ini f xs (.slice Ai f.ins.length ci) M ∧ u.ownsRow Bn 3 1 (.slice (some ⟨g4, 0, none⟩) 5 c4) 5 [.int .i64 z1, .int .i64 z2, .int .i64 z3, .int .i64 z4, .int .i64 z5] ∧ w5.heap.size ≤ u.heap.size at hg
                have d2 : (x 2) = .pointer (some ⟨g, ini.length * 5, none⟩) := And.left hd
                clear hd
                refine ⟨?_⟩
                simp only [putsFrom, Act.put, List.setIfInBounds_toArray, List.set_cons_zero, List.set_cons_succ, Nat.reduceAdd, d2] at hK ⊢
                go_simp
                exact hK.out _ _ (Kp.refl _) rfl
              case sd4 =>
                refine OpStepQ.off 0 0 (by kernel_rfl) (by kernel_rfl) ?_
                intro x u p hp hg hd K hK
                obtain rfl : p = 0 := by omega
                change TkX W cb N (.slice (some ⟨g, 0, none⟩) (ini.length + 1) cc) vt c u ∧ TkL (cb + 1) u g cc ini f xs (.slice Ai f.ins.length ci) M ∧ u.ownsRow Bn 3 1 (.slice (some ⟨g4, 0, none⟩) 5 c4) 5 [.int .i64 z1, .int .i64 z2, .int .i64 z3, .int .i64 z4, .int .i64 z5] ∧ w5.heap.size ≤ u.heap.size at hg
                have d3 : (x 3) = .pointer (some ⟨g, ini.length * 5 + 4, none⟩) := And.left hd
                clear hd
                have q := hg.2.1.at_.1
                clear hg
                refine ⟨?_⟩
                simp only [putsFrom, Act.put, List.setIfInBounds_toArray, List.set_cons_zero, List.set_cons_succ, Nat.reduceAdd, d3] at hK ⊢
                go_simp
                exact hK.out _ _ (Kp.refl _) rfl
              case sd5 =>
                refine OpStepQ.off 0 0 (by kernel_rfl) (by kernel_rfl) ?_
                intro x u p hp hg hd K hK
                obtain rfl : p = 0 := by omega
                change TkX W cb N (.slice (some ⟨g, 0, none⟩) (ini.length + 1) cc) vt c u ∧ TkL (cb + 1) u g cc ini f xs (.slice Ai f.ins.length ci) M ∧ u.ownsRow Bn 3 1 (.slice (some ⟨g4, 0, none⟩) 5 c4) 5 [.int .i64 z1, .int .i64 z2, .int .i64 z3, .int .i64 z4, .int .i64 z5] ∧ w5.heap.size ≤ u.heap.size at hg
                clear hd
                refine ⟨?_⟩
                simp only [putsFrom, Act.put, List.setIfInBounds_toArray, List.set_cons_zero, List.set_cons_succ, Nat.reduceAdd] at hK ⊢
                go_simp
                exact hK.out _ _ (Kp.refl _) rfl
              case sd6 =>
                refine OpStepQ.off 0 0 (by kernel_rfl) (by kernel_rfl) ?_
                intro x u p hp hg hd K hK
                obtain rfl : p = 0 := by omega
                change TkX W cb N (.slice (some ⟨g, 0, none⟩) (ini.length + 1) cc) vt c u ∧ TkL (cb + 1) u g cc ini f xs (.slice Ai f.ins.length ci) M ∧ u.ownsRow Bn 3 1 (.slice (some ⟨g4, 0, none⟩) 5 c4) 5 [.int .i64 z1, .int .i64 z2, .int .i64 z3, .int .i64 z4, .int .i64 z5] ∧ w5.heap.size ≤ u.heap.size at hg
                clear hd
                refine ⟨?_⟩
                simp only [putsFrom, Act.put, List.setIfInBounds_toArray, List.set_cons_zero, List.set_cons_succ, Nat.reduceAdd] at hK ⊢
                go_simp
                exact hK.out _ _ (Kp.refl _) rfl
              case sd7 =>
                refine OpStepQ.off 0 0 (by kernel_rfl) (by kernel_rfl) ?_
                intro x u p hp hg hd K hK
                obtain rfl : p = 0 := by omega
                change TkX W cb N (.slice (some ⟨g, 0, none⟩) (ini.length + 1) cc) vt c u ∧ TkL (cb + 1) u g cc ini f xs (.slice Ai f.ins.length ci) M ∧ u.ownsRow Bn 3 1 (.slice (some ⟨g4, 0, none⟩) 5 c4) 5 [.int .i64 z1, .int .i64 z2, .int .i64 z3, .int .i64 z4, .int .i64 z5] ∧ w5.heap.size ≤ u.heap.size at hg
                have d6 : (x 6) = .slice (some ⟨g4, 0, none⟩) 5 c4 := And.left hd
                clear hd
                refine ⟨?_⟩
                simp only [putsFrom, Act.put, List.setIfInBounds_toArray, List.set_cons_zero, List.set_cons_succ, Nat.reduceAdd, d6] at hK ⊢
                go_simp
                exact hK.out _ _ (Kp.refl _) rfl
              case sd8 =>
                refine OpStepQ.off 0 0 (by kernel_rfl) (by kernel_rfl) ?_
                intro x u p hp hg hd K hK
                obtain rfl : p = 0 := by omega
                change TkX W cb N (.slice (some ⟨g, 0, none⟩) (ini.length + 1) cc) vt c u ∧ TkL (cb + 1) u g cc ini f xs (.slice Ai f.ins.length ci) M ∧ u.ownsRow Bn 3 1 (.slice (some ⟨g4, 0, none⟩) 5 c4) 5 [.int .i64 z1, .int .i64 z2, .int .i64 z3, .int .i64 z4, .int .i64 z5] ∧ w5.heap.size ≤ u.heap.size at hg
                have d7 : (x 7) = .pointer (some ⟨g4, 0, none⟩) := And.left hd
                clear hd
                obtain ⟨q, _⟩ := rowAt hg.2.2.1 (j := 0) (by decide)
                clear hg
                refine ⟨?_⟩
                simp only [putsFrom, Act.put, List.setIfInBounds_toArray, List.set_cons_zero, List.set_cons_succ, Nat.reduceAdd, d7] at hK ⊢
                go_simp
                exact hK.out _ _ (Kp.refl _) rfl
              case sd9 =>
                refine OpStepQ.off 0 0 (by kernel_rfl) (by kernel_rfl) ?_
                intro x u p hp hg hd K hK
                obtain rfl : p = 0 := by omega
                change TkX W cb N (.slice (some ⟨g, 0, none⟩) (ini.length + 1) cc) vt c u ∧ TkL (cb + 1) u g cc ini f xs (.slice Ai f.ins.length ci) M ∧ u.ownsRow Bn 3 1 (.slice (some ⟨g4, 0, none⟩) 5 c4) 5 [.int .i64 z1, .int .i64 z2, .int .i64 z3, .int .i64 z4, .int .i64 z5] ∧ w5.heap.size ≤ u.heap.size at hg
                clear hd
                refine ⟨?_⟩
                simp only [putsFrom, Act.put, List.setIfInBounds_toArray, List.set_cons_zero, List.set_cons_succ, Nat.reduceAdd] at hK ⊢
                go_simp
                exact hK.out _ _ (Kp.refl _) rfl
              case sd10 =>
                refine OpStepQ.off 0 0 (by kernel_rfl) (by kernel_rfl) ?_
                intro x u p hp hg hd K hK
                obtain rfl : p = 0 := by omega
                change TkX W cb N (.slice (some ⟨g, 0, none⟩) (ini.length + 1) cc) vt c u ∧ TkL (cb + 1) u g cc ini f xs (.slice Ai f.ins.length ci) M ∧ u.ownsRow Bn 3 1 (.slice (some ⟨g4, 0, none⟩) 5 c4) 5 [.int .i64 z1, .int .i64 z2, .int .i64 z3, .int .i64 z4, .int .i64 z5] ∧ w5.heap.size ≤ u.heap.size at hg
                have d9 : (x 9) = .slice (some ⟨g4, 0, none⟩) 5 c4 := And.left hd
                clear hd
                refine ⟨?_⟩
                simp only [putsFrom, Act.put, List.setIfInBounds_toArray, List.set_cons_zero, List.set_cons_succ, Nat.reduceAdd, d9] at hK ⊢
                go_simp
                exact hK.out _ _ (Kp.refl _) rfl
              case sd11 =>
                refine OpStepQ.off 0 0 (by kernel_rfl) (by kernel_rfl) ?_
                intro x u p hp hg hd K hK
                obtain rfl : p = 0 := by omega
                change TkX W cb N (.slice (some ⟨g, 0, none⟩) (ini.length + 1) cc) vt c u ∧ TkL (cb + 1) u g cc ini f xs (.slice Ai f.ins.length ci) M ∧ u.ownsRow Bn 3 1 (.slice (some ⟨g4, 0, none⟩) 5 c4) 5 [.int .i64 z1, .int .i64 z2, .int .i64 z3, .int .i64 z4, .int .i64 z5] ∧ w5.heap.size ≤ u.heap.size at hg
                have d10 : (x 10) = .pointer (some ⟨g4, 1, none⟩) := And.left hd
                clear hd
                obtain ⟨q, _⟩ := rowAt hg.2.2.1 (j := 1) (by decide)
                clear hg
                refine ⟨?_⟩
                simp only [putsFrom, Act.put, List.setIfInBounds_toArray, List.set_cons_zero, List.set_cons_succ, Nat.reduceAdd, d10] at hK ⊢
                go_simp
                exact hK.out _ _ (Kp.refl _) rfl
              case sd12 =>
                refine OpStepQ.off 0 0 (by kernel_rfl) (by kernel_rfl) ?_
                intro x u p hp hg hd K hK
                obtain rfl : p = 0 := by omega
                change TkX W cb N (.slice (some ⟨g, 0, none⟩) (ini.length + 1) cc) vt c u ∧ TkL (cb + 1) u g cc ini f xs (.slice Ai f.ins.length ci) M ∧ u.ownsRow Bn 3 1 (.slice (some ⟨g4, 0, none⟩) 5 c4) 5 [.int .i64 z1, .int .i64 z2, .int .i64 z3, .int .i64 z4, .int .i64 z5] ∧ w5.heap.size ≤ u.heap.size at hg
                clear hd
                refine ⟨?_⟩
                simp only [putsFrom, Act.put, List.setIfInBounds_toArray, List.set_cons_zero, List.set_cons_succ, Nat.reduceAdd] at hK ⊢
                go_simp
                exact hK.out _ _ (Kp.refl _) rfl
              case sd13 =>
                refine OpStepQ.off 0 0 (by kernel_rfl) (by kernel_rfl) ?_
                intro x u p hp hg hd K hK
                obtain rfl : p = 0 := by omega
                change TkX W cb N (.slice (some ⟨g, 0, none⟩) (ini.length + 1) cc) vt c u ∧ TkL (cb + 1) u g cc ini f xs (.slice Ai f.ins.length ci) M ∧ u.ownsRow Bn 3 1 (.slice (some ⟨g4, 0, none⟩) 5 c4) 5 [.int .i64 z1, .int .i64 z2, .int .i64 z3, .int .i64 z4, .int .i64 z5] ∧ w5.heap.size ≤ u.heap.size at hg
                have d12 : (x 12) = .slice (some ⟨g4, 0, none⟩) 5 c4 := And.left hd
                clear hd
                refine ⟨?_⟩
                simp only [putsFrom, Act.put, List.setIfInBounds_toArray, List.set_cons_zero, List.set_cons_succ, Nat.reduceAdd, d12] at hK ⊢
                go_simp
                exact hK.out _ _ (Kp.refl _) rfl
              case sd14 =>
                refine OpStepQ.off 0 0 (by kernel_rfl) (by kernel_rfl) ?_
                intro x u p hp hg hd K hK
                obtain rfl : p = 0 := by omega
                change TkX W cb N (.slice (some ⟨g, 0, none⟩) (ini.length + 1) cc) vt c u ∧ TkL (cb + 1) u g cc ini f xs (.slice Ai f.ins.length ci) M ∧ u.ownsRow Bn 3 1 (.slice (some ⟨g4, 0, none⟩) 5 c4) 5 [.int .i64 z1, .int .i64 z2, .int .i64 z3, .int .i64 z4, .int .i64 z5] ∧ w5.heap.size ≤ u.heap.size at hg
                have d13 : (x 13) = .pointer (some ⟨g4, 2, none⟩) := And.left hd
                clear hd
                obtain ⟨q, _⟩ := rowAt hg.2.2.1 (j := 2) (by decide)
                clear hg
                refine ⟨?_⟩
                simp only [putsFrom, Act.put, List.setIfInBounds_toArray, List.set_cons_zero, List.set_cons_succ, Nat.reduceAdd, d13] at hK ⊢
                go_simp
                exact hK.out _ _ (Kp.refl _) rfl
              case sd15 =>
                refine OpStepQ.off 0 0 (by kernel_rfl) (by kernel_rfl) ?_
                intro x u p hp hg hd K hK
                obtain rfl : p = 0 := by omega
                change TkX W cb N (.slice (some ⟨g, 0, none⟩) (ini.length + 1) cc) vt c u ∧ TkL (cb + 1) u g cc ini f xs (.slice Ai f.ins.length ci) M ∧ u.ownsRow Bn 3 1 (.slice (some ⟨g4, 0, none⟩) 5 c4) 5 [.int .i64 z1, .int .i64 z2, .int .i64 z3, .int .i64 z4, .int .i64 z5] ∧ w5.heap.size ≤ u.heap.size at hg
                clear hd
                refine ⟨?_⟩
                simp only [putsFrom, Act.put, List.setIfInBounds_toArray, List.set_cons_zero, List.set_cons_succ, Nat.reduceAdd] at hK ⊢
                go_simp
                exact hK.out _ _ (Kp.refl _) rfl
              case sd16 =>
                refine OpStepQ.off 0 0 (by kernel_rfl) (by kernel_rfl) ?_
                intro x u p hp hg hd K hK
                obtain rfl : p = 0 := by omega
                change TkX W cb N (.slice (some ⟨g, 0, none⟩) (ini.length + 1) cc) vt c u ∧ TkL (cb + 1) u g cc ini f xs (.slice Ai f.ins.length ci) M ∧ u.ownsRow Bn 3 1 (.slice (some ⟨g4, 0, none⟩) 5 c4) 5 [.int .i64 z1, .int .i64 z2, .int .i64 z3, .int .i64 z4, .int .i64 z5] ∧ w5.heap.size ≤ u.heap.size at hg
                have d15 : (x 15) = .slice (some ⟨g4, 0, none⟩) 5 c4 := And.left hd
                clear hd
                refine ⟨?_⟩
                simp only [putsFrom, Act.put, List.setIfInBounds_toArray, List.set_cons_zero, List.set_cons_succ, Nat.reduceAdd, d15] at hK ⊢
                go_simp
                exact hK.out _ _ (Kp.refl _) rfl
              case sd17 =>
                refine OpStepQ.off 0 0 (by kernel_rfl) (by kernel_rfl) ?_
                intro x u p hp hg hd K hK
                obtain rfl : p = 0 := by omega
                change TkX W cb N (.slice (some ⟨g, 0, none⟩) (ini.length + 1) cc) vt c u ∧ TkL (cb + 1) u g cc ini f xs (.slice Ai f.ins.length ci) M ∧ u.ownsRow Bn 3 1 (.slice (some ⟨g4, 0, none⟩) 5 c4) 5 [.int .i64 z1, .int .i64 z2, .int .i64 z3, .int .i64 z4, .int .i64 z5] ∧ w5.heap.size ≤ u.heap.size at hg
                have d16 : (x 16) = .pointer (some ⟨g4, 3, none⟩) := And.left hd
                clear hd
                obtain ⟨q, _⟩ := rowAt hg.2.2.1 (j := 3) (by decide)
                clear hg
                refine ⟨?_⟩
                simp only [putsFrom, Act.put, List.setIfInBounds_toArray, List.set_cons_zero, List.set_cons_succ, Nat.reduceAdd, d16] at hK ⊢
                go_simp
                exact hK.out _ _ (Kp.refl _) rfl
              case sd18 =>
                refine OpStepQ.off 0 0 (by kernel_rfl) (by kernel_rfl) ?_
                intro x u p hp hg hd K hK
                obtain rfl : p = 0 := by omega
                change TkX W cb N (.slice (some ⟨g, 0, none⟩) (ini.length + 1) cc) vt c u ∧ TkL (cb + 1) u g cc ini f xs (.slice Ai f.ins.length ci) M ∧ u.ownsRow Bn 3 1 (.slice (some ⟨g4, 0, none⟩) 5 c4) 5 [.int .i64 z1, .int .i64 z2, .int .i64 z3, .int .i64 z4, .int .i64 z5] ∧ w5.heap.size ≤ u.heap.size at hg
                clear hd
                refine ⟨?_⟩
                simp only [putsFrom, Act.put, List.setIfInBounds_toArray, List.set_cons_zero, List.set_cons_succ, Nat.reduceAdd] at hK ⊢
                go_simp
                exact hK.out _ _ (Kp.refl _) rfl
              case sd19 =>
                refine OpStepQ.off 0 0 (by kernel_rfl) (by kernel_rfl) ?_
                intro x u p hp hg hd K hK
                obtain rfl : p = 0 := by omega
                change TkX W cb N (.slice (some ⟨g, 0, none⟩) (ini.length + 1) cc) vt c u ∧ TkL (cb + 1) u g cc ini f xs (.slice Ai f.ins.length ci) M ∧ u.ownsRow Bn 3 1 (.slice (some ⟨g4, 0, none⟩) 5 c4) 5 [.int .i64 z1, .int .i64 z2, .int .i64 z3, .int .i64 z4, .int .i64 z5] ∧ w5.heap.size ≤ u.heap.size at hg
                have d18 : (x 18) = .slice (some ⟨g4, 0, none⟩) 5 c4 := And.left hd
                clear hd
                refine ⟨?_⟩
                simp only [putsFrom, Act.put, List.setIfInBounds_toArray, List.set_cons_zero, List.set_cons_succ, Nat.reduceAdd, d18] at hK ⊢
                go_simp
                exact hK.out _ _ (Kp.refl _) rfl
              case sd20 =>
                refine OpStepQ.off 0 0 (by kernel_rfl) (by kernel_rfl) ?_
                intro x u p hp hg hd K hK
                obtain rfl : p = 0 := by omega
                change TkX W cb N (.slice (some ⟨g, 0, none⟩) (ini.length + 1) cc) vt c u ∧ TkL (cb + 1) u g cc ini f xs (.slice Ai f.ins.length ci) M ∧ u.ownsRow Bn 3 1 (.slice (some ⟨g4, 0, none⟩) 5 c4) 5 [.int .i64 z1, .int .i64 z2, .int .i64 z3, .int .i64 z4, .int .i64 z5] ∧ w5.heap.size ≤ u.heap.size at hg
                have d19 : (x 19) = .pointer (some ⟨g4, 4, none⟩) := And.left hd
                clear hd
                obtain ⟨q, _⟩ := rowAt hg.2.2.1 (j := 4) (by decide)
                clear hg
                refine ⟨?_⟩
                simp only [putsFrom, Act.put, List.setIfInBounds_toArray, List.set_cons_zero, List.set_cons_succ, Nat.reduceAdd, d19] at hK ⊢
                go_simp
                exact hK.out _ _ (Kp.refl _) rfl
              case sd21 =>
                refine OpStepQ.off 0 0 (by kernel_rfl) (by kernel_rfl) ?_
                intro x u p hp hg hd K hK
                obtain rfl : p = 0 := by omega
                change TkX W cb N (.slice (some ⟨g, 0, none⟩) (ini.length + 1) cc) vt c u ∧ TkL (cb + 1) u g cc ini f xs (.slice Ai f.ins.length ci) M ∧ u.ownsRow Bn 3 1 (.slice (some ⟨g4, 0, none⟩) 5 c4) 5 [.int .i64 z1, .int .i64 z2, .int .i64 z3, .int .i64 z4, .int .i64 z5] ∧ w5.heap.size ≤ u.heap.size at hg
                have d5 : (x 5) = .int .i64 (k : Int) := And.left hd
                have d8 : (x 8) = .int .i64 z1 := And.left (And.right hd)
                have d11 : (x 11) = .int .i64 z2 := And.left (And.right (And.right hd))
                have d14 : (x 14) = .int .i64 z3 := And.left (And.right (And.right (And.right hd)))
                have d17 : (x 17) = .int .i64 z4 := And.left (And.right (And.right (And.right (And.right hd))))
                have d20 : (x 20) = .int .i64 z5 := And.left (And.right (And.right (And.right (And.right (And.right hd)))))
                clear hd
                refine ⟨?_⟩
                simp only [putsFrom, Act.put, List.setIfInBounds_toArray, List.set_cons_zero, List.set_cons_succ, Nat.reduceAdd, d5, d8, d11, d14, d17, d20] at hK ⊢
                go_simp
                exact hK.out _ _ (Kp.refl _) rfl
              case sd22 =>
                refine OpStepQ.off 0 0 (by kernel_rfl) (by kernel_rfl) ?_
                intro x u p hp hg hd K hK
                obtain rfl : p = 0 := by omega
                change TkX W cb N (.slice (some ⟨g, 0, none⟩) (ini.length + 1) cc) vt c u ∧ TkL (cb + 1) u g cc ini f xs (.slice Ai f.ins.length ci) M ∧ u.ownsRow Bn 3 1 (.slice (some ⟨g4, 0, none⟩) 5 c4) 5 [.int .i64 z1, .int .i64 z2, .int .i64 z3, .int .i64 z4, .int .i64 z5] ∧ w5.heap.size ≤ u.heap.size at hg
                have d21 : (x 21) = .agg #[.int .i64 (k : Int), .int .i64 z1, .int .i64 z2, .int .i64 z3, .int .i64 z4, .int .i64 z5] := And.left hd
                clear hd
                refine ⟨?_⟩
                simp only [putsFrom, Act.put, List.setIfInBounds_toArray, List.set_cons_zero, List.set_cons_succ, Nat.reduceAdd, d21] at hK ⊢
                go_simp
                exact hK.out _ _ ((Kp.refl _).alloc _) ⟨_, rfl, hg.2.2.2, blk_new _ _⟩
              case sd23 =>
                refine OpStepQ.on 0 (by kernel_rfl) (by kernel_rfl) ?_
                intro x u hg hd K hK
                change TkX W cb N (.slice (some ⟨g, 0, none⟩) (ini.length + 1) cc) vt c u ∧ TkL (cb + 1) u g cc ini f xs (.slice Ai f.ins.length ci) M ∧ u.ownsRow Bn 3 1 (.slice (some ⟨g4, 0, none⟩) 5 c4) 5 [.int .i64 z1, .int .i64 z2, .int .i64 z3, .int .i64 z4, .int .i64 z5] ∧ w5.heap.size ≤ u.heap.size at hg
                have d4 : (x 4) = .slice Ai f.ins.length ci := And.left hd
                have d22 : LitAt w5.heap.size 64 #[.int .i64 (k : Int), .int .i64 z1, .int .i64 z2, .int .i64 z3, .int .i64 z4, .int .i64 z5] (x 22) u := And.left (And.right hd)
                clear hd
                obtain ⟨b, e6, hb6, hlit⟩ := d22
                obtain ⟨xsj, l1, l2⟩ := hg.2.1.ins
                refine ⟨?_⟩
                simp only [putsFrom, Act.put, List.setIfInBounds_toArray, List.set_cons_zero, List.set_cons_succ, Nat.reduceAdd, d4, e6] at hK ⊢
                rw [if_pos (by simp [Region.wanted])]
                refine wp_appP elIns (.tmp 153) (.tmp 171) (by rfl) l1 (by rfl) [.int .i64 (k : Int), .int .i64 z1, .int .i64 z2, .int .i64 z3, .int .i64 z4, .int .i64 z5] _ 1 1 (by rfl) rfl (fun _ => ⟨_, rfl, lit_src hlit⟩) (by intro u hu; simp at hu; rcases hu with rfl | rfl | rfl | rfl | rfl | rfl <;> rfl) B1.out B2.out hg.2.1.lt ?_
                intro v' w' G1 G2 G3 G4
                obtain ⟨A', c', rfl⟩ := own_form G1
                exact hK.out _ w' (KpF.of_grown G2 BF.out) ⟨A', c', rfl, _, xsj, hg.1, hg.2.1, l1, l2, G2, G4, G1⟩ trivial
              case sd24 =>
                refine OpStepQ.off 0 1 (by kernel_rfl) (by kernel_rfl) ?_
                intro x u p hp hg hd K hK
                have d0 : (x 0) = .pointer (some ⟨g, ini.length * 5, none⟩) := And.left hd
                clear hd
                refine ⟨?_⟩
                simp only [putsFrom, Act.put, List.setIfInBounds_toArray, List.set_cons_zero, List.set_cons_succ, Nat.reduceAdd, d0] at hK ⊢
                go_simp
                exact hK.out _ _ (Kp.refl _) rfl
              case sd25 =>
                refine OpStepQ.off 0 1 (by kernel_rfl) (by kernel_rfl) ?_
                intro x u p hp hg hd K hK
                have d24 : (x 24) = .pointer (some ⟨g, ini.length * 5, none⟩) := And.left hd
                clear hd
                refine ⟨?_⟩
                simp only [putsFrom, Act.put, List.setIfInBounds_toArray, List.set_cons_zero, List.set_cons_succ, Nat.reduceAdd, d24] at hK ⊢
                go_simp
                exact hK.out _ _ (Kp.refl _) rfl
              case sd26 =>
                refine OpStepQ.on 1 (by kernel_rfl) (by kernel_rfl) ?_
                intro x u hg hd K hK
                change ∃ A c', x 23 = .slice A (f.ins.length + 1) c' ∧ TkZ W cb N g cc ini f xs (.slice Ai f.ins.length ci) M vt c ⟨k, z1, z2, z3, z4, z5⟩ (.slice A (f.ins.length + 1) c') u at hg
                have d25 : (x 25) = .pointer (some ⟨g, ini.length * 5 + 4, none⟩) := And.left (And.right hd)
                clear hd
                obtain ⟨A7, c7, e7, hg2⟩ := hg
                obtain ⟨q, qf⟩ := hg2.at_
                have HG1 := hid (hg2.set HFE.out HOI.out HNB.out)
                clear hg2
                refine ⟨?_⟩
                simp only [putsFrom, Act.put, List.setIfInBounds_toArray, List.set_cons_zero, List.set_cons_succ, Nat.reduceAdd, d25, e7] at hK ⊢
                go_simp
                exact hK.out undef _ (KpF.setCell BG.out _) HG1.out trivial
              intro x u hg he
              have d0 : (x 0) = .pointer (some ⟨g, ini.length * 5, none⟩) := And.left he
              have d1 : (x 1) = .pointer (some ⟨g, ini.length * 5, none⟩) := And.left (And.right he)
              have d2 : (x 2) = .pointer (some ⟨g, ini.length * 5, none⟩) := And.left (And.right (And.right he))
              have d3 : (x 3) = .pointer (some ⟨g, ini.length * 5 + 4, none⟩) := And.left (And.right (And.right (And.right he)))
              have d4 : (x 4) = .slice Ai f.ins.length ci := And.left (And.right (And.right (And.right (And.right he))))
              have d5 : (x 5) = .int .i64 (k : Int) := And.left (And.right (And.right (And.right (And.right (And.right he)))))
              have d6 : (x 6) = .slice (some ⟨g4, 0, none⟩) 5 c4 := And.left (And.right (And.right (And.right (And.right (And.right (And.right he))))))
              have d7 : (x 7) = .pointer (some ⟨g4, 0, none⟩) := And.left (And.right (And.right (And.right (And.right (And.right (And.right (And.right he)))))))
              have d8 : (x 8) = .int .i64 z1 := And.left (And.right (And.right (And.right (And.right (And.right (And.right (And.right (And.right he))))))))
              have d9 : (x 9) = .slice (some ⟨g4, 0, none⟩) 5 c4 := And.left (And.right (And.right (And.right (And.right (And.right (And.right (And.right (And.right (And.right he)))))))))
              have d10 : (x 10) = .pointer (some ⟨g4, 1, none⟩) := And.left (And.right (And.right (And.right (And.right (And.right (And.right (And.right (And.right (And.right (And.right he))))))))))
              have d11 : (x 11) = .int .i64 z2 := And.left (And.right (And.right (And.right (And.right (And.right (And.right (And.right (And.right (And.right (And.right (And.right he)))))))))))
              have d12 : (x 12) = .slice (some ⟨g4, 0, none⟩) 5 c4 := And.left (And.right (And.right (And.right (And.right (And.right (And.right (And.right (And.right (And.right (And.right (And.right (And.right he))))))))))))
              have d13 : (x 13) = .pointer (some ⟨g4, 2, none⟩) := And.left (And.right (And.right (And.right (And.right (And.right (And.right (And.right (And.right (And.right (And.right (And.right (And.right (And.right he)))))))))))))
              have d14 : (x 14) = .int .i64 z3 := And.left (And.right (And.right (And.right (And.right (And.right (And.right (And.right (And.right (And.right (And.right (And.right (And.right (And.right (And.right he))))))))))))))
              have d15 : (x 15) = .slice (some ⟨g4, 0, none⟩) 5 c4 := And.left (And.right (And.right (And.right (And.right (And.right (And.right (And.right (And.right (And.right (And.right (And.right (And.right (And.right (And.right (And.right he)))))))))))))))
              have d16 : (x 16) = .pointer (some ⟨g4, 3, none⟩) := And.left (And.right (And.right (And.right (And.right (And.right (And.right (And.right (And.right (And.right (And.right (And.right (And.right (And.right (And.right (And.right (And.right he))))))))))))))))
              have d17 : (x 17) = .int .i64 z4 := And.left (And.right (And.right (And.right (And.right (And.right (And.right (And.right (And.right (And.right (And.right (And.right (And.right (And.right (And.right (And.right (And.right (And.right he)))))))))))))))))
              have d18 : (x 18) = .slice (some ⟨g4, 0, none⟩) 5 c4 := And.left (And.right (And.right (And.right (And.right (And.right (And.right (And.right (And.right (And.right (And.right (And.right (And.right (And.right (And.right (And.right (And.right (And.right (And.right he))))))))))))))))))
              have d19 : (x 19) = .pointer (some ⟨g4, 4, none⟩) := And.left (And.right (And.right (And.right (And.right (And.right (And.right (And.right (And.right (And.right (And.right (And.right (And.right (And.right (And.right (And.right (And.right (And.right (And.right (And.right he)))))))))))))))))))
              have d20 : (x 20) = .int .i64 z5 := And.left (And.right (And.right (And.right (And.right (And.right (And.right (And.right (And.right (And.right (And.right (And.right (And.right (And.right (And.right (And.right (And.right (And.right (And.right (And.right (And.right he))))))))))))))))))))
              have d21 : (x 21) = .agg #[.int .i64 (k : Int), .int .i64 z1, .int .i64 z2, .int .i64 z3, .int .i64 z4, .int .i64 z5] := And.left (And.right (And.right (And.right (And.right (And.right (And.right (And.right (And.right (And.right (And.right (And.right (And.right (And.right (And.right (And.right (And.right (And.right (And.right (And.right (And.right (And.right he)))))))))))))))))))))
              have d22 : LitAt w5.heap.size 64 #[.int .i64 (k : Int), .int .i64 z1, .int .i64 z2, .int .i64 z3, .int .i64 z4, .int .i64 z5] (x 22) u := And.left (And.right (And.right (And.right (And.right (And.right (And.right (And.right (And.right (And.right (And.right (And.right (And.right (And.right (And.right (And.right (And.right (And.right (And.right (And.right (And.right (And.right (And.right he))))))))))))))))))))))
              have d24 : (x 24) = .pointer (some ⟨g, ini.length * 5, none⟩) := And.left (And.right (And.right (And.right (And.right (And.right (And.right (And.right (And.right (And.right (And.right (And.right (And.right (And.right (And.right (And.right (And.right (And.right (And.right (And.right (And.right (And.right (And.right (And.right (And.right he))))))))))))))))))))))))
              have d25 : (x 25) = .pointer (some ⟨g, ini.length * 5 + 4, none⟩) := And.left (And.right (And.right (And.right (And.right (And.right (And.right (And.right (And.right (And.right (And.right (And.right (And.right (And.right (And.right (And.right (And.right (And.right (And.right (And.right (And.right (And.right (And.right (And.right (And.right (And.right he)))))))))))))))))))))))))
              clear he
              change TkX W cb (N + 1) (.slice (some ⟨g, 0, none⟩) (ini.length + 1) cc) vt ⟨addIns c.funcs ⟨k, z1, z2, z3, z4, z5⟩, c.texts⟩ u at hg
              refine ⟨?_⟩
              simp only [putsFrom, Act.put, List.setIfInBounds_toArray, List.set_cons_zero, List.set_cons_succ, Nat.reduceAdd, d0, d1, d2, d3, d4, d5, d6, d7, d8, d9, d10, d11, d12, d13, d14, d15, d16, d17, d18, d19, d20, d21, d24, d25]
              clear d0 d1 d2 d3 d4 d5 d6 d7 d8 d9 d10 d11 d12 d13 d14 d15 d16 d17 d18 d19 d20 d21 d24 d25
              have HX7 := hid hg
              clear hg
              go_wp2
              go_ret
              exact tk_ok HN.out HX7.out
          · have t9 : (WD.toList == OPS.toList) = false := by
              rw [beq_eq_false_iff_ne, ← hWD, ← HOS.out]
              intro h
              apply heq
              rw [ByteArray.toList_eq, ByteArray.toList_eq] at h
              simpa using h
            have HNX := hid (show ∀ j, 0 < j → j < k + 1 → mwordsL.getD j [] ≠ OPB from fun j h1 h2 => by
              rcases Nat.lt_or_ge j k with h | h
              · exact HNO.out j h1 h
              · obtain rfl : j = k := by omega
                exact heq)
            clear hWD heq
            go_wp2
            exact tk_round hlt HNX.out HKR.out
        · have i2 : ¬ (0 : Int) < (k : Int) := by omega
          have HNX := hid (show ∀ j, 0 < j → j < k + 1 → mwordsL.getD j [] ≠ OPB from fun j h1 h2 => by omega)
          clear hWD
          go_wp2
          exact tk_round hlt HNX.out HKR.out
      · obtain rfl : k = 42 := by omega
        have hR := HR.out
        rw [if_pos (.inr (HON.out HNO.out))] at hR
        have HN := hid (show res = none from hR)
        clear hR
        go_wp2
        go_ret
        exact tk_fail HN.out (HX.out.kp.trans (HKA.out.trans HKR.out))
end Go.Proofs.YtiicdknmoakocaaDoor
namespace Go.Proofs.YtiicdknmoakocaaDoor
open Go.RowKit
set_option linter.unusedVariables false
set_option linter.unusedSimpArgs false

theorem take_any (W : World) (cb N : Nat) (vf vt : Value) (c : CodeM) (s : ByteArray) (u : World) (h : TkX W cb N vf vt c u) (hN : N + 1 ≤ 4294967296) (hs : s.size < 4294967281) (m : Int) (hm : ∀ u', Kp W u' → u'.cell? ⟨0, 0, none⟩ = some (.int .i64 m)) :
    Calls Tryd.prog 27 #[.pointer (some ⟨cb, 0, none⟩), .string s] u (TkPost W cb N (takeM c s)) := by
  unfold takeM
  cases h0 : textP.isPrefixOf s.data.toList
  · cases h1 : funcP.isPrefixOf s.data.toList
    · cases h2 : ([32, 32] : List UInt8).isPrefixOf s.data.toList
      · exact take_none W cb N c s u h.kp h0 h1 h2
      · exact take_ins W cb N vf vt c s u h hN hs h0 h1 h2 m (fun u' hk => hm u' (h.kp.trans hk))
    · exact take_func W cb N vf vt c s u h hN hs h0 h1 m (hm u h.kp)
  · exact take_text W cb N vf vt c s u h hN hs h0
/-! ### the lines of a text -/
noncomputable def linesM : Nat → CodeM → List UInt8 → Option CodeM
  | 0, _, _ => none
  | n + 1, c, s => if s = [] then some c else if (Lib.cut s [10]).2.2 = true then match takeM c (mk (Lib.cut s [10]).1) with
    | some c' => linesM n c' (Lib.cut s [10]).2.1
    | none => none
    else none
noncomputable def creadM (s : ByteArray) : Option CodeM := match linesM (s.size + 1) ⟨[], []⟩ s.data.toList with
  | some c => if (soundM c).1 = 0 ∧ showM c = s.data.toList then some c else none
  | none => none
theorem creadM_show {s : ByteArray} {c : CodeM} (h : creadM s = some c) : (soundM c).1 = 0 ∧ showM c = s.data.toList := by
  unfold creadM at h
  split at h
  · split at h
    · rename_i h1; injection h with h; subst h; exact h1
    · cases h
  · cases h
theorem cut_parts (s : List UInt8) (c : UInt8) (h : (Lib.cut s [c]).2.2 = true) : (Lib.cut s [c]).1.length + 1 + (Lib.cut s [c]).2.1.length = s.length := by
  unfold Lib.cut at h ⊢
  split
  · rename_i hi
    rw [Lib.index_one] at hi ⊢
    rcases ix_cases s c with h1 | ⟨i, h1, h2⟩
    · rw [h1] at hi; exact absurd hi (by decide)
    · rw [h1]
      simp only [Int.toNat_natCast, List.length_take, List.length_drop, List.length_singleton]
      omega
  · rename_i hi
    rw [if_neg hi] at h; cases h
/-- The loop's state. -/
structure CrI (s0 : ByteArray) (W : World) (cb : Nat) (S : ByteArray) (wr : World) : Prop where
  ex : ∃ N vf vt c n, TkX W cb N vf vt c wr ∧ N + S.size ≤ s0.size ∧ S.size < n ∧ linesM (s0.size + 1) ⟨[], []⟩ s0.data.toList = linesM n c S.data.toList
theorem TkX.ocode {W u : World} {cb N : Nat} {vf vt : Value} {c : CodeM} (h : TkX W cb N vf vt c u) (hN : N ≤ 4294967296) : OCode u (cb + 1) (.agg #[vf, vt]) c :=
  ⟨vf, vt, rfl, h.fns.own h.lt, h.txs, by have := h.fN; omega, by have := h.tN; omega⟩
def CrPost (s : ByteArray) (w : World) (e : Ending) (w' : World) : Prop := ((∃ c v, creadM s = some c ∧ e = .returned (.tuple #[v, .int .i64 0]) ∧ OCode w' w.heap.size v c) ∨ (creadM s = none ∧ e = .returned (.tuple #[.agg #[.slice none 0 0, .slice none 0 0], .int .i64 6]))) ∧ Kp w w'
theorem ocode_set {w wr : World} {n1 : Nat} {A1 A2 : Value} {v1 v2 : Value} {v : Value} {B : Nat} {c : CodeM} (h : OCode wr B v c) (hb : wr.heap[n1]? = some (.cells #[A1, A2] 32 (0, 0))) (hB : w.heap.size ≤ B) : OCode ((wr.setCell ⟨n1, 0, none⟩ v1).setCell ⟨n1, 1, none⟩ v2) w.heap.size v c := by
  have t1 := rowTouch (o := 0) hb v1
  have t2 := rowTouch (o := 1) (blk_set (o := 0) hb v1) v2
  have t := t1.trans t2
  obtain ⟨vf, vt, rfl, h1, h2, h3, h4⟩ := h
  exact ⟨vf, vt, rfl, OwnL.base_ hB (ownL_touch (by decide) (fun _ _ x => x.touch (by decide) t) (OwnL.mono (fun _ _ x => x.base_ hB) h1) t), OwnL.base_ hB (ownL_touch (by decide) (fun _ _ x => CeStr.any x) h2 t), h3, h4⟩
theorem cr_fail {s : ByteArray} {w wr : World} (h : creadM s = none) (hk : Kp w wr) (v1 v2 : Value) : CrPost s w (.returned (.tuple #[.agg #[.slice none 0 0, .slice none 0 0], .int .i64 6])) ((wr.setCell ⟨w.heap.size, 0, none⟩ v1).setCell ⟨w.heap.size, 1, none⟩ v2) :=
  ⟨.inr ⟨h, rfl⟩, (hk.setCell (p := ⟨w.heap.size, 0, none⟩) (Nat.le_refl _) _).setCell (p := ⟨w.heap.size, 1, none⟩) (Nat.le_refl _) _⟩
theorem cr_ok {s : ByteArray} {w wr : World} {c : CodeM} {v A1 A2 : Value} {B : Nat} (h : creadM s = some c) (hk : Kp w wr) (ho : OCode wr B v c) (hb : wr.heap[w.heap.size]? = some (.cells #[A1, A2] 32 (0, 0))) (hB : w.heap.size ≤ B) (v1 v2 : Value) : CrPost s w (.returned (.tuple #[v, .int .i64 0])) ((wr.setCell ⟨w.heap.size, 0, none⟩ v1).setCell ⟨w.heap.size, 1, none⟩ v2) :=
  ⟨.inl ⟨c, v, h, rfl, ocode_set ho hb hB⟩, (hk.setCell (p := ⟨w.heap.size, 0, none⟩) (Nat.le_refl _) _).setCell (p := ⟨w.heap.size, 1, none⟩) (Nat.le_refl _) _⟩
theorem tk_some {W w' : World} {cb N : Nat} {c' : CodeM} {res : Option CodeM} {e : Ending} (hr : res = some c') (h : TkPost W cb N res e w') : ∃ vf vt, e = .returned (.bool true) ∧ TkX W cb (N + 1) vf vt c' w' := by
  rcases h with ⟨⟨c, vf, vt, h1, h2, h3⟩ | ⟨h1, _⟩, _⟩
  · rw [hr] at h1; injection h1 with h1; subst h1; exact ⟨vf, vt, h2, h3⟩
  · rw [hr] at h1; cases h1
theorem tk_none {W w' : World} {cb N : Nat} {res : Option CodeM} {e : Ending} (hr : res = none) (h : TkPost W cb N res e w') : e = .returned (.bool false) ∧ Kp W w' := by
  rcases h with ⟨⟨c, vf, vt, h1, h2, h3⟩ | ⟨_, h2⟩, hk⟩
  · rw [hr] at h1; cases h1
  · exact ⟨h2, hk⟩
theorem cr_round {s0 S2 : ByteArray} {W u : World} {cb sz : Nat} (h : CrI s0 W cb S2 u) (hlt : S2.size < sz) (f : Value → Nat) (hf : ∀ b : ByteArray, f (.string b) = b.size) : (∃ S', Value.string S2 = .string S' ∧ CrI s0 W cb S' u) ∧ f (.string S2) < sz := ⟨⟨S2, rfl, h⟩, by rw [hf]; exact hlt⟩
def strLen : Value → Nat
  | .string b => b.size
  | _ => 0
set_option maxRecDepth 20000 in
set_option maxHeartbeats 8000000 in
theorem cread_any (s : ByteArray) (hs : s.size < 4294967281) (m : Int) (w : World) (hm : w.cell? ⟨0, 0, none⟩ = some (.int .i64 m)) : Calls Tryd.prog 12 #[.string s] w (CrPost s w) := by
  have hm0 := block_lt_of_cell hm
  have HBX := hid (blk_new w (.cells #[.slice none 0 0, .slice none 0 0] 32))
  have HK0 := hid (show Kp w (w.alloc (.cells #[.slice none 0 0, .slice none 0 0] 32)) from (Kp.refl w).alloc _)
  have HM := hid (fun u' (hk : Kp (w.alloc (.cells #[.slice none 0 0, .slice none 0 0] 32)) u') => cell_kp (HK0.out.trans hk) hm0 hm)
  have HL0 := hid (show (w.alloc (.cells #[.slice none 0 0, .slice none 0 0] 32)).heap.size = w.heap.size + 1 by simp)
  have HRD : Hid (creadM s = match linesM (s.size + 1) ⟨[], []⟩ s.data.toList with
    | some c => if (soundM c).1 = 0 ∧ showM c = s.data.toList then some c else none
    | none => none) := hid rfl
  generalize hres : creadM s = res at HRD
  have HRES := hid hres
  have HSS := hid hs
  clear hm hm0 hres hs
  go_enter Tryd.func12, Tryd.ntmps12
  go_upto_region 1 with fail
  generalize (w.alloc (.cells #[.slice none 0 0, .slice none 0 0] 32)) = W at HBX HK0 HM HL0 ⊢
  have HX0 : Hid (TkX W W.heap.size 0 (.slice none 0 0) (.slice none 0 0) ⟨[], []⟩ (W.alloc (.cells #[.slice none 0 0, .slice none 0 0] 32))) := hid ⟨Nat.le_refl _, (Kp.refl _).alloc _, blk_new _ _, .inl ⟨rfl, rfl⟩, OwnL.nil _ _ _ _ _, Nat.le_refl _, Nat.le_refl _, fun f hf => by cases hf⟩
  go_wp2
  go_loopw [5] (fun sv wr => ∃ S, sv = .string S ∧ CrI s W W.heap.size S wr) (fun sv _ => strLen sv)
  case atStart => exact ⟨s, rfl, ⟨0, _, _, _, s.size + 1, HX0.out, by omega, by omega, rfl⟩⟩
  case round =>
    obtain ⟨S, rfl, hI⟩ := hrel
    obtain ⟨N, vf, vt, c, n, hx, hNS, hn, hln⟩ := hI.ex
    obtain ⟨n, rfl⟩ : ∃ k, n = k + 1 := ⟨n - 1, by omega⟩
    obtain ⟨xsf, hf1, _⟩ := hx.fns.row hx.lt
    obtain ⟨xst, hf2, _⟩ := hx.txs
    obtain ⟨Af, cf, rfl⟩ := own_form hf1
    obtain ⟨At, ct, rfl⟩ := own_form hf2
    clear hf1 hf2
    have HX := hid hx
    have HNS := hid hNS
    have HN := hid hn
    have hz : S.data.toList.length = S.size := by rw [Array.length_toList]; rfl
    have hbx := (hx.kp.block _ (blk_lt HBX.out)).trans HBX.out
    have HBR := hid hbx
    have HKW := hid (HK0.out.trans hx.kp)
    by_cases hS : S.data.toList = []
    · have t9 : S.toList.isEmpty = true := by rw [ByteArray.toList_eq, hS]; rfl
      have hl : linesM (s.size + 1) ⟨[], []⟩ s.data.toList = some c := by rw [hln, linesM, if_pos hS]
      have hR := HRD.out
      rw [hl] at hR
      have HR := hid hR
      have HOC := hid (hx.ocode (by have := HSS.out; omega))
      have q0 := blk_cell (o := 0) (v := Value.slice Af c.funcs.length cf) hx.box rfl
      have q1 := blk_cell (o := 1) (v := Value.slice At c.texts.length ct) hx.box rfl
      have ql := blk_lt hx.box
      clear hI hx hNS hn hln hS hl hR hz hbx
      by_cases hs0 : (soundM c).1 = 0
      · have HSH := hid (show_ok wr _ c HOC.out.rd hs0)
        obtain ⟨T, hT⟩ : ∃ T : ByteArray, (⟨(showM c).toArray⟩ : ByteArray) = T := ⟨_, rfl⟩
        rw [hT] at HSH
        by_cases heq : showM c = s.data.toList
        · have t2 : (T.toList == s.toList) = true := by rw [ByteArray.toList_eq, ByteArray.toList_eq, ← hT, beq_iff_eq]; exact heq
          have HE := hid (show creadM s = some c by rw [HRES.out, HR.out]; exact if_pos ⟨hs0, heq⟩)
          clear hs0 hT heq
          go_upto_region 9 with (go_at_call 8; go_must (refine HSH.out.mono ?_); rintro e w5 ⟨rfl, hk5⟩; have HK5 := hid hk5; clear hk5)
          have HB5 := hid ((HK5.out.block _ (blk_lt HBR.out)).trans HBR.out)
          have HX5 := hid (HX.out.keep HK5.out)
          clear q0 q1 ql t9
          have q0 := blk_cell (o := 0) (v := Value.slice Af c.funcs.length cf) HX5.out.box rfl
          have q1 := blk_cell (o := 1) (v := Value.slice At c.texts.length ct) HX5.out.box rfl
          have ql := blk_lt HX5.out.box
          have r0 := blk_cell (o := 0) (v := Value.slice none 0 0) HB5.out rfl
          have r1 := blk_cell (o := 1) (v := Value.slice none 0 0) HB5.out rfl
          have rf0 := blk_free (o := 0) HB5.out
          have rf1 := blk_free (o := 1) HB5.out
          have rl := blk_lt HB5.out
          go_wp2
          obtain ⟨z0, z1⟩ := set2_cells (BoxAt.mk_ r0 rf0) (BoxAt.mk_ r1 rf1) (.slice Af c.funcs.length cf) (.slice At c.texts.length ct)
          refine bodyPost_ret (v := .tuple #[.agg #[.slice Af c.funcs.length cf, .slice At c.texts.length ct], .int .i64 0]) (by simp [results, Tryd.results12, go_sem, z0, z1]) rfl ?_
          exact cr_ok HE.out (HKW.out.trans HK5.out) (HOC.out.kp HK5.out) HB5.out (by have := HL0.out; omega) _ _
        · have t2 : (T.toList == s.toList) = false := by rw [ByteArray.toList_eq, ByteArray.toList_eq, ← hT, beq_eq_false_iff_ne]; exact heq
          have HE := hid (show creadM s = none by rw [HRES.out, HR.out]; exact if_neg (fun h => heq h.2))
          clear hs0 hT heq
          go_upto_region 9 with (go_at_call 8; go_must (refine HSH.out.mono ?_); rintro e w5 ⟨rfl, hk5⟩; have HK5 := hid hk5; clear hk5)
          have HB5 := hid ((HK5.out.block _ (blk_lt HBR.out)).trans HBR.out)
          clear q0 q1 ql t9
          have r0 := blk_cell (o := 0) (v := Value.slice none 0 0) HB5.out rfl
          have r1 := blk_cell (o := 1) (v := Value.slice none 0 0) HB5.out rfl
          have rf0 := blk_free (o := 0) HB5.out
          have rf1 := blk_free (o := 1) HB5.out
          have rl := blk_lt HB5.out
          go_wp2
          obtain ⟨z0, z1⟩ := set2_cells (BoxAt.mk_ r0 rf0) (BoxAt.mk_ r1 rf1) (.slice none 0 0) (.slice none 0 0)
          refine bodyPost_ret (v := .tuple #[.agg #[.slice none 0 0, .slice none 0 0], .int .i64 6]) (by simp [results, Tryd.results12, go_sem, z0, z1]) rfl ?_
          exact cr_fail HE.out (HKW.out.trans HK5.out) _ _
      · have HSH := hid (show_err wr _ c HOC.out.rd hs0)
        have HE := hid (show creadM s = none by rw [HRES.out, HR.out]; exact if_neg (fun h => hs0 h.1))
        obtain ⟨E, hE⟩ : ∃ E, (soundM c).1 = E := ⟨_, rfl⟩
        rw [hE] at HSH
        have t2 : (E == 0) = false := by rw [beq_eq_false_iff_ne, ← hE]; exact hs0
        have t3 : (E != 0) = true := by rw [bne, t2]; rfl
        clear hs0 hE
        go_upto_region 9 with (go_at_call 8; go_must (refine HSH.out.mono ?_); rintro e w5 ⟨rfl, hk5⟩; have HK5 := hid hk5; clear hk5)
        have HB5 := hid ((HK5.out.block _ (blk_lt HBR.out)).trans HBR.out)
        clear q0 q1 ql t9
        have r0 := blk_cell (o := 0) (v := Value.slice none 0 0) HB5.out rfl
        have r1 := blk_cell (o := 1) (v := Value.slice none 0 0) HB5.out rfl
        have rf0 := blk_free (o := 0) HB5.out
        have rf1 := blk_free (o := 1) HB5.out
        have rl := blk_lt HB5.out
        go_wp2
        obtain ⟨z0, z1⟩ := set2_cells (BoxAt.mk_ r0 rf0) (BoxAt.mk_ r1 rf1) (.slice none 0 0) (.slice none 0 0)
        refine bodyPost_ret (v := .tuple #[.agg #[.slice none 0 0, .slice none 0 0], .int .i64 6]) (by simp [results, Tryd.results12, go_sem, z0, z1]) rfl ?_
        exact cr_fail HE.out (HKW.out.trans HK5.out) _ _
    · have t9 : S.toList.isEmpty = false := by
        rw [ByteArray.toList_eq]
        cases h : S.data.toList with
        | nil => exact absurd h hS
        | cons a b => rfl
      have hl : linesM (s.size + 1) ⟨[], []⟩ s.data.toList = if (Lib.cut S.data.toList [10]).2.2 = true then (match takeM c (mk (Lib.cut S.data.toList [10]).1) with
          | some c' => linesM n c' (Lib.cut S.data.toList [10]).2.1
          | none => none) else none := by rw [hln, linesM, if_neg hS]
      have hct := cut1_any S 10
      have hcp := cut_parts S.data.toList 10
      generalize (Lib.cut S.data.toList [10]).1 = X at hl hct hcp
      generalize (Lib.cut S.data.toList [10]).2.1 = Y at hl hct hcp
      generalize (Lib.cut S.data.toList [10]).2.2 = Z at hl hct hcp
      have hlt : S.size < 4294967281 := by have := HSS.out; omega
      have HCT := hid (fun w => hct w hlt)
      cases hZ : Z
      · rw [hZ, if_neg (by decide)] at hl
        rw [hZ] at HCT
        have HE := hid (show creadM s = none by rw [HRES.out, HRD.out, hl])
        clear hI hx hNS hn hln hS hl hz hbx hct hcp hlt hZ
        go_upto_region 5 with (go_at_call 26; go_must (refine (HCT.out _).mono ?_); rintro e w5 ⟨rfl, hk5⟩; have HK5 := hid hk5; clear hk5)
        have HB5 := hid ((HK5.out.block _ (blk_lt HBR.out)).trans HBR.out)
        have r0 := blk_cell (o := 0) (v := Value.slice none 0 0) HB5.out rfl
        have r1 := blk_cell (o := 1) (v := Value.slice none 0 0) HB5.out rfl
        have rf0 := blk_free (o := 0) HB5.out
        have rf1 := blk_free (o := 1) HB5.out
        have rl := blk_lt HB5.out
        go_wp2
        obtain ⟨z0, z1⟩ := set2_cells (BoxAt.mk_ r0 rf0) (BoxAt.mk_ r1 rf1) (.slice none 0 0) (.slice none 0 0)
        refine bodyPost_ret (v := .tuple #[.agg #[.slice none 0 0, .slice none 0 0], .int .i64 6]) (by simp [results, Tryd.results12, go_sem, z0, z1]) rfl ?_
        exact cr_fail HE.out (HKW.out.trans HK5.out) _ _
      · rw [hZ, if_pos rfl] at hl
        rw [hZ] at HCT
        have hcp := hcp hZ
        obtain ⟨XS, hXS⟩ : ∃ x, mk X = x := ⟨_, rfl⟩
        obtain ⟨YS, hYS⟩ : ∃ x, mk Y = x := ⟨_, rfl⟩
        have hzx : XS.size = X.length := by rw [← hXS]; exact mk_size X
        have hzy : YS.size = Y.length := by rw [← hYS]; exact mk_size Y
        have hyd : YS.data.toList = Y := by rw [← hYS]; rfl
        rw [hXS] at hl
        have HCT2 := hid (show ∀ w, Calls Tryd.prog 26 #[.string S, .string ⟨#[10]⟩] w fun e w' => e = .returned (.tuple #[.string XS, .string YS, .bool true]) ∧ Kp w w' from fun w => by rw [← hXS, ← hYS]; exact HCT.out w)
        have HTK := hid (fun u (hu : TkX W W.heap.size N (.slice Af c.funcs.length cf) (.slice At c.texts.length ct) c u) => take_any W W.heap.size N _ _ c XS u hu (by have := HSS.out; omega) (by omega) m HM.out)
        cases hT : takeM c XS with
        | none =>
          rw [hT] at hl
          have HE := hid (show creadM s = none by rw [HRES.out, HRD.out, hl])
          clear hI hx hNS hn hln hS hl hz hbx hct hcp hlt hZ hXS hYS hzx hzy hyd HCT
          go_upto_region 5 with (go_at_call 26; go_must (refine (HCT2.out _).mono ?_); rintro e w5 ⟨rfl, hk5⟩; have HK5 := hid hk5; clear hk5)
          have HTC := hid (HTK.out w5 (HX.out.keep HK5.out))
          go_upto_region 6 with (go_at_call 27; go_must (refine HTC.out.mono ?_); intro e w6 hp6; obtain ⟨rfl, hk6⟩ := tk_none hT hp6; have HK6 := hid (HK0.out.trans hk6); have HB6 := hid ((hk6.block _ (blk_lt HBX.out)).trans HBX.out); clear hp6 hk6)
          have r0 := blk_cell (o := 0) (v := Value.slice none 0 0) HB6.out rfl
          have r1 := blk_cell (o := 1) (v := Value.slice none 0 0) HB6.out rfl
          have rf0 := blk_free (o := 0) HB6.out
          have rf1 := blk_free (o := 1) HB6.out
          have rl := blk_lt HB6.out
          go_wp2
          obtain ⟨z0, z1⟩ := set2_cells (BoxAt.mk_ r0 rf0) (BoxAt.mk_ r1 rf1) (.slice none 0 0) (.slice none 0 0)
          refine bodyPost_ret (v := .tuple #[.agg #[.slice none 0 0, .slice none 0 0], .int .i64 6]) (by simp [results, Tryd.results12, go_sem, z0, z1]) rfl ?_
          exact cr_fail HE.out HK6.out _ _
        | some c' =>
          rw [hT] at hl
          have HLN := hid (show linesM (s.size + 1) ⟨[], []⟩ s.data.toList = linesM n c' YS.data.toList by rw [hyd]; exact hl)
          have HYL := hid (show YS.size < S.size ∧ YS.size < n ∧ N + 1 + YS.size ≤ s.size by omega)
          clear hI hx hNS hn hln hS hl hz hbx hct hcp hlt hZ hXS hYS hzx hzy hyd HCT
          go_upto_region 5 with (go_at_call 26; go_must (refine (HCT2.out _).mono ?_); rintro e w5 ⟨rfl, hk5⟩; have HK5 := hid hk5; clear hk5)
          have HTC := hid (HTK.out w5 (HX.out.keep HK5.out))
          go_wp2_with (go_at_call 27; go_must (refine HTC.out.mono ?_); intro e w6 hp6; obtain ⟨vf6, vt6, rfl, hx6⟩ := tk_some hT hp6; have HX6 := hid hx6; clear hp6 hx6)
          exact cr_round ⟨_, _, _, _, n, HX6.out, HYL.out.2.2, HYL.out.2.1, HLN.out⟩ HYL.out.1 strLen (fun b => rfl)
end Go.Proofs.YtiicdknmoakocaaDoor
