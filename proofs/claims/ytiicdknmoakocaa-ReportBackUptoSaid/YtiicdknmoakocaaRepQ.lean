/-
  Package report: read, Read, at what Crash tells of numbers and short texts. Condition: the crash is shorter than 2^32 bytes.
-/
import Derived.Test.YtiicdknmoakocaaRepR
import Derived.Test.YtiicdknmoakocaaCut
import Derived.Deep.DeepCutAuto
namespace Go.Proofs.Ytiicdknmoakocaa
open Go.RowKit
set_option linter.unusedVariables false
set_option linter.unusedSimpArgs false

theorem unq_hit (m : List UInt8) (hm : okAll m) (h2 : m.length ≤ 200) (w : World) : Calls Try.prog 74 #[.string ⟨(34 :: (escs m ++ [34])).toArray⟩] w fun e w' => e = .returned (.tuple #[.string ⟨m.toArray⟩, .int .i64 0]) ∧ Kp w w' := by
  refine (unquote_mk (escs m) w (by have := escs_len m; omega)).mono ?_
  rintro e w' ⟨h, hk⟩
  have hu : unq (⟨(escs m).toArray⟩ : ByteArray).data.toList = some m := unq_escs m hm
  rcases h with ⟨o, ho, _, he⟩ | ⟨hn, _⟩
  · rw [hu] at ho
    injection ho with ho
    subst ho
    exact ⟨he, hk⟩
  · have := hn m hu; omega
def backAgg (v : ValM) : Value := .agg #[.int .i64 (backV v).k, .int .i64 (backV v).n, .string (backV v).s, .slice none 0 0]
def VB (w : World) (b : Nat) (k n : Int) (s : ByteArray) : Prop := w.heap[b]? = some (.cells #[.int .i64 k, .int .i64 n, .string s, .slice none 0 0] 25 (0, 0))
theorem VB.kp {w w' : World} {b : Nat} {k n : Int} {s : ByteArray} (h : VB w b k n s) (hk : Kp w w') : VB w' b k n s := (hk.block b (blk_lt h)).trans h
theorem VB.cells {w : World} {b : Nat} {k n : Int} {s : ByteArray} (h : VB w b k n s) : w.cell? ⟨b, 0, none⟩ = some (.int .i64 k) ∧ w.cell? ⟨b, 1, none⟩ = some (.int .i64 n) ∧ w.cell? ⟨b, 2, none⟩ = some (.string s) ∧ w.cell? ⟨b, 3, none⟩ = some (.slice none 0 0) ∧ ∀ j, w.frozen? ⟨b, j, none⟩ = false := ⟨blk_cell h rfl, blk_cell h rfl, blk_cell h rfl, blk_cell h rfl, fun j => blk_free h⟩
theorem VB.set {w u : World} {b : Nat} {k n : Int} {s : ByteArray} (h : VB u b k n s) (k' n' : Int) (s' : ByteArray) (hk : Kp w u) (hb : w.heap.size ≤ b) : VB ((((u.setCell ⟨b, 0, none⟩ (.int .i64 k')).setCell ⟨b, 1, none⟩ (.int .i64 n')).setCell ⟨b, 2, none⟩ (.string s')).setCell ⟨b, 3, none⟩ (.slice none 0 0)) b k' n' s' ∧ Kp w ((((u.setCell ⟨b, 0, none⟩ (.int .i64 k')).setCell ⟨b, 1, none⟩ (.int .i64 n')).setCell ⟨b, 2, none⟩ (.string s')).setCell ⟨b, 3, none⟩ (.slice none 0 0)) :=
  ⟨blk_set (blk_set (blk_set (blk_set h _) _) _) _, (((hk.setCell (p := ⟨b, 0, none⟩) hb _).setCell (p := ⟨b, 1, none⟩) hb _).setCell (p := ⟨b, 2, none⟩) hb _).setCell (p := ⟨b, 3, none⟩) hb _⟩
set_option maxRecDepth 20000 in
set_option maxHeartbeats 2000000 in
theorem rdval_any (p : PanicM) (h : okR p) (w : World) : Calls Try.prog 41 #[.string ⟨(bodyM p).toArray⟩] w fun e w' => e = .returned (.tuple #[backAgg p.val, .bool true]) ∧ Kp w w' := by
  have HB := hid (show VB (w.alloc (.cells #[.int .i64 0, .int .i64 0, .string ⟨#[]⟩, .slice none 0 0] 25)) w.heap.size 0 0 ⟨#[]⟩ from blk_new _ _)
  have HK := hid (show Kp w (w.alloc (.cells #[.int .i64 0, .int .i64 0, .string ⟨#[]⟩, .slice none 0 0] 25)) from (Kp.refl w).alloc _)
  rcases h.2 with h1 | ⟨h1, hs⟩
  · have hb : bodyM p = Lib.itoa p.val.n := by unfold bodyM rtextM; rw [if_pos h1]
    have hv : backV p.val = ⟨1, p.val.n, ⟨#[]⟩, []⟩ := by unfold backV; rw [if_pos h1]
    have HR := fun w => read_hit p.val.n w h.1
    unfold backAgg
    rw [hb, hv]
    generalize p.val.n = n at HR ⊢
    generalize (⟨(Lib.itoa n).toArray⟩ : ByteArray) = T at HR ⊢
    have HH := hid HR
    clear HR hb hv h1 h
    go_enter Try.func41, Try.ntmps41
    go_upto_region 1 with fail
    generalize (w.alloc (.cells #[.int .i64 0, .int .i64 0, .string ⟨#[]⟩, .slice none 0 0] 25)) = W0 at HB HK ⊢
    go_wp2_with (go_at_call 73; go_must (refine (HH.out _).mono ?_); rintro e w9 ⟨rfl, hk9⟩; obtain ⟨b0, b1, b2, b3, bf⟩ := (HB.out.kp hk9).cells; have HS := hid ((HB.out.kp hk9).set 1 n ⟨#[]⟩ (HK.out.trans hk9) (Nat.le_refl _)); clear hk9)
    clear b0 b1 b2 b3 bf
    generalize ((((w9.setCell ⟨w.heap.size, 0, none⟩ (.int .i64 1)).setCell ⟨w.heap.size, 1, none⟩ (.int .i64 n)).setCell ⟨w.heap.size, 2, none⟩ (.string ⟨#[]⟩)).setCell ⟨w.heap.size, 3, none⟩ (.slice none 0 0)) = WE at HS ⊢
    obtain ⟨a0, a1, a2, a3, _⟩ := HS.out.1.cells
    exact bodyPost_ret (v := .tuple #[.agg #[.int .i64 1, .int .i64 n, .string ⟨#[]⟩, .slice none 0 0], .bool true]) (by simp [results, Try.results41, go_sem, a0, a1, a2, a3]) rfl ⟨rfl, HS.out.2⟩
  · have hb : bodyM p = 34 :: (escs (p.val.s.data.toList.map (mendB [10, 9])) ++ [34]) := by unfold bodyM rtextM; rw [h1, if_neg (by decide), if_pos rfl]
    have hv : backV p.val = ⟨3, 0, mendT p.val.s, []⟩ := by unfold backV; rw [h1, if_neg (by decide)]
    have HU := hid (fun w => unq_hit (p.val.s.data.toList.map (mendB [10, 9])) (mend_ok _) (by rw [List.length_map, Array.length_toList]; have : p.val.s.data.size = p.val.s.size := rfl; omega) w)
    have HM := hid (fun w => read_miss ⟨(34 :: (escs (p.val.s.data.toList.map (mendB [10, 9])) ++ [34])).toArray⟩ w (quoted_nonum _) (by
      have h1 := escs_len (p.val.s.data.toList.map (mendB [10, 9]))
      have h2 : p.val.s.data.toList.length = p.val.s.size := by rw [Array.length_toList]; rfl
      rw [List.length_map, h2] at h1
      rw [ba_size, List.length_cons, List.length_append]
      show _ ≤ 9223372036854775807
      simp; omega))
    unfold backAgg
    rw [hb, hv]
    unfold mendT
    generalize (⟨(34 :: (escs (p.val.s.data.toList.map (mendB [10, 9])) ++ [34])).toArray⟩ : ByteArray) = T at HU HM ⊢
    generalize (⟨(p.val.s.data.toList.map (mendB [10, 9])).toArray⟩ : ByteArray) = X at HU ⊢
    clear hb hv h1 h hs
    go_enter Try.func41, Try.ntmps41
    go_upto_region 1 with fail
    generalize (w.alloc (.cells #[.int .i64 0, .int .i64 0, .string ⟨#[]⟩, .slice none 0 0] 25)) = W0 at HB HK ⊢
    go_wp2_with first | (go_at_call 73; go_must (refine (HM.out _).mono ?_); rintro e w8 ⟨rfl, hk8⟩; have HK8 := hid hk8; clear hk8) | (go_at_call 74; go_must (refine (HU.out _).mono ?_); rintro e w9 ⟨rfl, hk9⟩; have hk9 := Kp.trans HK8.out hk9; obtain ⟨b0, b1, b2, b3, bf⟩ := (HB.out.kp hk9).cells; have HS := hid ((HB.out.kp hk9).set 3 0 X (HK.out.trans hk9) (Nat.le_refl _)); clear hk9)
    clear b0 b1 b2 b3 bf
    generalize ((((w9.setCell ⟨w.heap.size, 0, none⟩ (.int .i64 3)).setCell ⟨w.heap.size, 1, none⟩ (.int .i64 0)).setCell ⟨w.heap.size, 2, none⟩ (.string X)).setCell ⟨w.heap.size, 3, none⟩ (.slice none 0 0)) = WE at HS ⊢
    obtain ⟨a0, a1, a2, a3, _⟩ := HS.out.1.cells
    exact bodyPost_ret (v := .tuple #[.agg #[.int .i64 3, .int .i64 0, .string X, .slice none 0 0], .bool true]) (by simp [results, Try.results41, go_sem, a0, a1, a2, a3]) rfl ⟨rfl, HS.out.2⟩
/-! ### Read -/
theorem pre_any (s p : ByteArray) (x : List UInt8) (h : s.data.toList = p.data.toList ++ x) (w : World) : Calls Try.prog 39 #[.string s, .string p] w fun e w' => e = .returned (.tuple #[.string ⟨x.toArray⟩, .bool true]) ∧ w = w' := by
  refine (Try.strings_CutPrefix s p w).mono ?_
  rintro e w' ⟨rfl, rfl⟩
  rw [h, (pre_hit p.data.toList x).1, (pre_hit p.data.toList x).2]
  exact ⟨rfl, rfl⟩
theorem suf_any (p : PanicM) (h : okR p) (hs : (bodyM p ++ tailM p).length ≤ 9223372036854775807) (w : World) : Calls Try.prog 40 #[.string ⟨(bodyM p ++ tailM p).toArray⟩, .string ⟨#[32, 91, 114, 101, 99, 111, 118, 101, 114, 101, 100, 93]⟩] w fun e w' => e = .returned (.tuple #[.string ⟨(bodyM p).toArray⟩, .bool p.rcd]) ∧ w = w' := by
  refine (Try.strings_CutSuffix _ _ w (by rw [ba_size]; exact hs)).mono ?_
  rintro e w' ⟨rfl, rfl⟩
  obtain ⟨h1, h2⟩ := body_cut p h
  refine ⟨?_, rfl⟩
  show Ending.returned (.tuple #[.string ⟨(Lib.trimSuffix (bodyM p ++ tailM p) recB).toArray⟩, .bool (Lib.hasSuffix (bodyM p ++ tailM p) recB)]) = _
  rw [h1, h2]
theorem cutl_any (R : ByteArray) (a r : List UInt8) (h : R.data.toList = a ++ 10 :: r) (ha : (10 : UInt8) ∉ a) (hs : R.size < 4294967281) (w : World) : Calls Try.prog 38 #[.string R, .string ⟨#[10]⟩] w fun e w' => e = .returned (.tuple #[.string ⟨a.toArray⟩, .string ⟨r.toArray⟩, .bool true]) ∧ Kp w w' := by
  refine (cut1_any R 10 w hs).mono ?_
  rintro e w' ⟨rfl, hk⟩
  rw [h, cut_app a r 10 ha]
  exact ⟨rfl, hk⟩
def okB (p : PanicM) : Prop := okI p.serial ∧ okI p.val.k ∧ okI p.val.n ∧ p.val.s.size ≤ 140737488351232 ∧ p.val.l = []
def CeB (_w : World) (cs : List Value) (p : PanicM) : Prop := cs = [.int .i64 p.serial, .int .i64 p.val.k, .int .i64 p.val.n, .string p.val.s, .slice none 0 0, .bool p.rcd, .bool p.abt] ∧ okB p
theorem CeB.kp : ElKp CeB := fun _ _ _ _ _ h => h
theorem CeB.ce {w : World} {cs : List Value} {p : PanicM} (h : CeB w cs p) : CePanic w cs p := by
  obtain ⟨h, h0, h1, h2, h3, h4⟩ := h
  exact ⟨.slice none 0 0, h, h0, by rw [h4]; exact RdInts.nil_ _, h1, h2, h3, by rw [h4]; decide⟩
def OPb (w : World) (base : Nat) (v : Value) (l : List PanicM) : Prop := OwnL CeB 7 46 w base v l
theorem OPb.kp {w w' : World} {base : Nat} {v : Value} {l : List PanicM} (h : OPb w base v l) (hk : Kp w w') : OPb w' base v l := OwnL.kp CeB.kp h hk
theorem OPb.rd {w : World} {base : Nat} {v : Value} {l : List PanicM} (h : OPb w base v l) : RdL CePanic 7 w v l := (OwnL.rd h).mono fun _ _ => CeB.ce
theorem OPb.snoc {w w' : World} {base : Nat} {v' : Value} {l : List PanicM} {p : PanicM} {n : Nat} {xs : List Value} (hx : Chunk CeB 7 w xs l) (hn : n = l.length + 1) (h : w'.ownsRow base 46 7 v' n (xs ++ [.int .i64 p.serial, .int .i64 p.val.k, .int .i64 p.val.n, .string p.val.s, .slice none 0 0, .bool p.rcd, .bool p.abt])) (hok : okB p) : OPb w' base v' (l ++ [p]) :=
  OwnL.snoc hn hx (fun _ _ h => h) ⟨rfl, hok⟩ rfl h
theorem backP_ok {p : PanicM} {i : Nat} (h : okR p) (hi : i ≤ 1048576) : okB (backP i p) := by
  refine ⟨by show okI (i : Int); unfold okI; omega, ?_, ?_, ?_, ?_⟩
  · show okI (backV p.val).k; unfold backV; split <;> (unfold okI; simp)
  · show okI (backV p.val).n; unfold backV; split
    · exact h.1
    · unfold okI; simp
  · show (backV p.val).s.size ≤ _
    unfold backV; split
    · simp [ByteArray.size]
    · rename_i h1
      rcases h.2 with h2 | ⟨_, h2⟩
      · exact absurd h2 h1
      · show (mendT p.val.s).size ≤ _
        unfold mendT
        rw [ba_size, List.length_map, Array.length_toList]
        have : p.val.s.data.size = p.val.s.size := rfl
        omega
  · show (backV p.val).l = []; unfold backV; split <;> rfl
def strLen (v : Value) : Nat := match v with | .string x => x.size | _ => 0
theorem ba_list (l : List UInt8) : (⟨l.toArray⟩ : ByteArray).data.toList = l := rfl
theorem ba_ne {R : ByteArray} {l : List UInt8} (h : R = ⟨l.toArray⟩) (hl : l ≠ []) : (R.toList == []) = false := by
  subst h
  rw [ByteArray.toList_eq, beq_eq_false_iff_ne]; exact hl
theorem ba_no {R : ByteArray} {l : List UInt8} (h : R = ⟨l.toArray⟩) (hl : l = []) : (R.toList == []) = true := by
  subst h; subst hl; rw [ByteArray.toList_eq]; rfl
theorem prest_len {l : List PanicM} {k : Nat} (hk : k ≤ l.length) : (restM l k).length ≤ (crashM l).length := by
  unfold restM
  split
  · exact Nat.le_refl _
  · cases l with
    | nil => simp
    | cons p l =>
      show _ ≤ (pncM p ++ (l.map fun p => 9 :: pncM p).flatten).length
      rename_i h0
      obtain ⟨j, rfl⟩ : ∃ j, k = j + 1 := ⟨k - 1, by omega⟩
      rw [List.drop_succ_cons, List.length_append]
      have : (((l.drop j).map fun p => 9 :: pncM p).flatten).length ≤ ((l.map fun p => 9 :: pncM p).flatten).length := by
        conv => rhs; rw [← List.take_append_drop j l]
        rw [List.map_append, List.flatten_append, List.length_append]; omega
      omega
theorem rr_round {w u : World} {l : List PanicM} {k : Nat} {R M : ByteArray} {v : Value} {p : PanicM} (hp : l[k]? = some p) (hR : R = ⟨(restM l k).toArray⟩) (hM : M = ⟨(restM l (k + 1)).toArray⟩) (ho : OPb u w.heap.size v (backL (l.take (k + 1)))) (hk : Kp w u) :
    (∃ (k' : Nat) (R' : ByteArray), k' ≤ l.length ∧ Value.string M = .string R' ∧ Hid (R' = ⟨(restM l k').toArray⟩) ∧ OPb u w.heap.size v (backL (l.take k')) ∧ Kp w u) ∧ strLen (.string M) < strLen (.string R) := by
  have hlt := (List.getElem?_eq_some_iff.1 hp).1
  refine ⟨⟨k + 1, M, hlt, rfl, hid hM, ho, hk⟩, ?_⟩
  subst hR; subst hM
  show (⟨_⟩ : ByteArray).size < (⟨_⟩ : ByteArray).size
  rw [ba_size, ba_size, prest_at hp, List.length_append, List.length_cons]; omega
set_option maxRecDepth 20000 in
set_option maxHeartbeats 4000000 in
theorem rread_any (l : List PanicM) (h : ∀ p ∈ l, okR p) (hl : l.length ≤ 1048576) (hc : (crashM l).length < 4294967281) (w : World) : Calls Try.prog 16 #[.string ⟨(crashM l).toArray⟩] w fun e w' => (∃ v, e = .returned (.tuple #[v, .int .i64 0]) ∧ OPb w' w.heap.size v (backL l)) ∧ Kp w w' := by
  have HOK := hid h; have HLN := hid hl; have HCL := hid hc
  obtain ⟨T, hT⟩ : ∃ T : ByteArray, T = ⟨(crashM l).toArray⟩ := ⟨_, rfl⟩
  have HT := hid hT
  rw [← hT]
  clear h hl hc hT
  go_enter Try.func16, Try.ntmps16
  go_wp2
  go_loopw [4, 5] (fun v rv wr => ∃ (k : Nat) (R : ByteArray), k ≤ l.length ∧ rv = .string R ∧ Hid (R = ⟨(restM l k).toArray⟩) ∧ OPb wr w.heap.size v (backL (l.take k)) ∧ Kp w wr) (fun _ rv _ => strLen rv)
  case atStart => exact ⟨0, T, Nat.zero_le _, rfl, HT, OwnL.nil _ _ _ _ _, Kp.refl _⟩
  case round =>
    obtain ⟨k, R, hk, rfl, HR, ho, hkp⟩ := hrel
    have HKP := hid hkp
    have hwr := hkp.le
    by_cases hlt : k < l.length
    · obtain ⟨p, hp⟩ : ∃ p, l[k]? = some p := ⟨_, List.getElem?_eq_getElem hlt⟩
      have hok := HOK.out p (List.mem_of_getElem? hp)
      have HP := hid hp
      have HPO := hid hok
      have hrl := prest_len (l := l) (k := k) (by omega)
      have tl := ba_ne HR.out (prest_ne hlt)
      have tl2 : (R.toList != []) = true := by rw [bne, tl]; rfl
      have hsz : R.size < 4294967281 := by rw [HR.out, ba_size]; have := HCL.out; omega
      have hbl : (bodyM p ++ tailM p).length ≤ 9223372036854775807 := by
        have h1 := HCL.out
        rw [prest_at hp, List.length_append, List.length_append] at hrl
        unfold lineM at hrl
        rw [List.length_append] at hrl
        omega
      obtain ⟨LN, hLN⟩ : ∃ x : ByteArray, x = ⟨(tabM k ++ lineM p).toArray⟩ := ⟨_, rfl⟩
      obtain ⟨MR, hMR⟩ : ∃ x : ByteArray, x = ⟨(restM l (k + 1)).toArray⟩ := ⟨_, rfl⟩
      obtain ⟨L2, hL2⟩ : ∃ x : ByteArray, x = ⟨(lineM p).toArray⟩ := ⟨_, rfl⟩
      obtain ⟨BD, hBD⟩ : ∃ x : ByteArray, x = ⟨(bodyM p ++ tailM p).toArray⟩ := ⟨_, rfl⟩
      obtain ⟨BT, hBT⟩ : ∃ x : ByteArray, x = ⟨(bodyM p).toArray⟩ := ⟨_, rfl⟩
      have HCUT := hid (fun w => cutl_any R _ _ (by rw [HR.out]; exact prest_at hp) (line_ne k hok.1) hsz w)
      have HHEAD := hid (fun w => pre_any L2 ⟨#[112, 97, 110, 105, 99, 58, 32]⟩ (bodyM p ++ tailM p) (by rw [hL2]; rfl) w)
      have HSUF := hid (fun w => suf_any p hok hbl w)
      have HRD := hid (fun w => rdval_any p hok w)
      unfold backAgg at HRD
      rw [← hLN, ← hMR] at HCUT
      rw [← hBD] at HHEAD
      rw [← hBD, ← hBT] at HSUF
      rw [← hBT] at HRD
      have hlen : (backL (l.take k)).length = k := by rw [back_len, List.length_take]; omega
      have HLEN := hid hlen
      have HMR := hid hMR
      obtain ⟨xs, hown, hch⟩ := ho
      rw [hlen] at hown
      obtain ⟨A, c, rfl⟩ := own_form hown
      have HOWN := hid hown; have HCH := hid hch
      have B1 := hid (show k + 1 ≤ maxLen by have := HLN.out; unfold maxLen; omega)
      have B2 := hid (show (k + 1) * 72 ≤ 140737488355328 by have := HLN.out; omega)
      have HKI := hid (show k ≤ 1048576 by have := HLN.out; omega)
      by_cases hk0 : k = 0
      · have i0 : ¬ (0 : Int) < (k : Int) := by omega
        have hLL : LN = L2 := by rw [hLN, hL2, hk0]; rfl
        rw [hLL] at HCUT
        clear hp hok hrl hbl hLN hMR hL2 hBD hBT hlen hown hch hkp hk hk0 hLL hlt
        go_upto_region 10 with (go_at_call 38; go_must (refine (HCUT.out _).mono ?_); rintro e w2 ⟨rfl, hk2⟩; have HK2 := hid (HKP.out.trans hk2); have HW2 := hid hk2; clear hk2)
        go_upto_region 13 with (go_at_call 39; go_must (refine (HHEAD.out _).mono ?_); rintro e w3 ⟨rfl, rfl⟩)
        go_upto_region 14 with (go_at_call 40; go_must (refine (HSUF.out _).mono ?_); rintro e w3 ⟨rfl, rfl⟩)
        go_upto_region 17 with (go_at_call 41; go_must (refine (HRD.out _).mono ?_); rintro e w4 ⟨rfl, hk4⟩; have HK4 := hid (HK2.out.trans hk4); have HW4 := hid (HW2.out.trans hk4); clear hk4)
        have HV := hid (show VB (w4.alloc (.cells #[.int .i64 (backV p.val).k, .int .i64 (backV p.val).n, .string (backV p.val).s, .slice none 0 0] 25)) w4.heap.size (backV p.val).k (backV p.val).n (backV p.val).s from blk_new _ _)
        have HKV := hid (show Kp w4 (w4.alloc (.cells #[.int .i64 (backV p.val).k, .int .i64 (backV p.val).n, .string (backV p.val).s, .slice none 0 0] 25)) from (Kp.refl _).alloc _)
        generalize (w4.alloc (.cells #[.int .i64 (backV p.val).k, .int .i64 (backV p.val).n, .string (backV p.val).s, .slice none 0 0] 25)) = W at HV HKV ⊢
        obtain ⟨b0, b1, b2, b3, _⟩ := HV.out.cells
        have HOW := hid (ownsRow_keep HOWN.out (HW4.out.trans HKV.out))
        have HKW := hid (HK4.out.trans HKV.out)
        have B3 := hid HKW.out.le
        go_wp2_with (at_builtin; go_must (refine app_lit_at W.heap.size rfl elPanic rfl (.tmp 57) (.tmp 63) rfl HOW.out rfl _ _ 1 1 rfl rfl (by intro u hu; simp at hu; rcases hu with rfl | rfl | rfl | rfl | rfl | rfl | rfl <;> rfl) B1.out B2.out B3.out ?_); intro v5 w5 hown5 hg5 hm5 hb5)
        exact rr_round HP.out HR.out HMR.out (by rw [back_take HP.out]; exact OPb.snoc HCH.out (by rw [HLEN.out]) hown5 (backP_ok HPO.out HKI.out)) (Below.trans HKW.out hb5)
      · have i0 : (0 : Int) < (k : Int) := by omega
        have HTAB := hid (fun w => pre_any LN ⟨#[9]⟩ (lineM p) (by rw [hLN]; unfold tabM; rw [if_neg hk0]) w)
        rw [← hL2] at HTAB
        clear hp hok hrl hbl hLN hMR hL2 hBD hBT hlen hown hch hkp hk hk0 hlt
        go_upto_region 9 with (go_at_call 38; go_must (refine (HCUT.out _).mono ?_); rintro e w2 ⟨rfl, hk2⟩; have HK2 := hid (HKP.out.trans hk2); have HW2 := hid hk2; clear hk2)
        go_upto_region 10 with (go_at_call 39; go_must (refine (HTAB.out _).mono ?_); rintro e w3 ⟨rfl, rfl⟩)
        go_upto_region 13 with (go_at_call 39; go_must (refine (HHEAD.out _).mono ?_); rintro e w3 ⟨rfl, rfl⟩)
        go_upto_region 14 with (go_at_call 40; go_must (refine (HSUF.out _).mono ?_); rintro e w3 ⟨rfl, rfl⟩)
        go_upto_region 17 with (go_at_call 41; go_must (refine (HRD.out _).mono ?_); rintro e w4 ⟨rfl, hk4⟩; have HK4 := hid (HK2.out.trans hk4); have HW4 := hid (HW2.out.trans hk4); clear hk4)
        have HV := hid (show VB (w4.alloc (.cells #[.int .i64 (backV p.val).k, .int .i64 (backV p.val).n, .string (backV p.val).s, .slice none 0 0] 25)) w4.heap.size (backV p.val).k (backV p.val).n (backV p.val).s from blk_new _ _)
        have HKV := hid (show Kp w4 (w4.alloc (.cells #[.int .i64 (backV p.val).k, .int .i64 (backV p.val).n, .string (backV p.val).s, .slice none 0 0] 25)) from (Kp.refl _).alloc _)
        generalize (w4.alloc (.cells #[.int .i64 (backV p.val).k, .int .i64 (backV p.val).n, .string (backV p.val).s, .slice none 0 0] 25)) = W at HV HKV ⊢
        obtain ⟨b0, b1, b2, b3, _⟩ := HV.out.cells
        have HOW := hid (ownsRow_keep HOWN.out (HW4.out.trans HKV.out))
        have HKW := hid (HK4.out.trans HKV.out)
        have B3 := hid HKW.out.le
        go_wp2_with (at_builtin; go_must (refine app_lit_at W.heap.size rfl elPanic rfl (.tmp 57) (.tmp 63) rfl HOW.out rfl _ _ 1 1 rfl rfl (by intro u hu; simp at hu; rcases hu with rfl | rfl | rfl | rfl | rfl | rfl | rfl <;> rfl) B1.out B2.out B3.out ?_); intro v5 w5 hown5 hg5 hm5 hb5)
        exact rr_round HP.out HR.out HMR.out (by rw [back_take HP.out]; exact OPb.snoc HCH.out (by rw [HLEN.out]) hown5 (backP_ok HPO.out HKI.out)) (Below.trans HKW.out hb5)
    · obtain rfl : k = l.length := by omega
      have tl := ba_no HR.out (prest_end l)
      have tl2 : (R.toList != []) = false := by rw [bne, tl]; rfl
      rw [List.take_length] at ho
      have HO := hid ho
      obtain ⟨xs, hown, hch⟩ := id ho
      obtain ⟨A, c, rfl⟩ := own_form hown
      have HBC := back_crash l HOK.out
      have HCR := hid (crash_any wr _ (backL l) ho.rd (by rw [HBC]; have := HCL.out; omega) (by rw [back_len]; have := HLN.out; omega))
      rw [HBC, ← HT.out] at HCR
      clear HBC ho hown hch hkp hlt hk
      go_wp2_with (go_at_call 15; go_must (refine HCR.out.mono ?_); rintro e w3 ⟨rfl, hk3⟩; have HK3 := hid (HKP.out.trans hk3); have HO3 := hid (HO.out.kp hk3); clear hk3)
      go_ret2
      exact ⟨⟨_, rfl, HO3.out⟩, HK3.out⟩
end Go.Proofs.Ytiicdknmoakocaa
