/-
  Slices that came in: what they read as. No condition.
-/
import Derived.Test.YtgonekmmbeedeaaByte
import Derived.Test.YtgonekmmbeedeaaOpen
namespace Go.Proofs.Ytgonekmmbeedeaa
open Go.RowKit Go.ChangeShapes Go.WideShapes Go.Deep

/-- The slice v reads as these bytes. -/
def RdBytes (w : World) (v : Value) (bs : List UInt8) : Prop :=
  bs.length ≤ 140737488355328 ∧ ∃ A c, v = .slice A bs.length c ∧ bs.length ≤ c ∧ (0 < bs.length → ∃ b off, A = some ⟨b, off, none⟩ ∧ b < w.heap.size ∧ ∀ j, j < bs.length → w.cell? ⟨b, off + j, none⟩ = some (byteV (bs.getD j 0)))
theorem RdBytes.kp {w w' : World} {v : Value} {bs : List UInt8} (h : RdBytes w v bs) (hk : Kp w w') : RdBytes w' v bs := by
  obtain ⟨h0, A, c, h1, h2, h3⟩ := h
  refine ⟨h0, A, c, h1, h2, fun hp => ?_⟩
  obtain ⟨b, off, e, hb, hc⟩ := h3 hp
  exact ⟨b, off, e, Nat.lt_of_lt_of_le hb hk.le, fun j hj => (hk.cells.1 _ _ hb).trans (hc j hj)⟩
theorem RdBytes.of_own {w : World} {base : Nat} {v : Value} {bs : List UInt8} (h : OwnB w base v bs) (hl : bs.length ≤ 140737488355328) : RdBytes w v bs := by
  refine ⟨hl, ?_⟩
  rcases h.2 with ⟨rfl, h0⟩ | ⟨g, cap, cur, rfl, _, hg, hnc, _, hsz, htk⟩
  · exact ⟨none, 0, by rw [h0], by omega, fun h => absurd h (by omega)⟩
  · refine ⟨_, cap, rfl, hnc, fun _ => ⟨g, 0, rfl, ?_, fun j hj => ?_⟩⟩
    · rcases Nat.lt_or_ge g w.heap.size with h | h
      · exact h
      · rw [Array.getElem?_eq_none h] at hg; cases hg
    · have hc : w.cell? ⟨g, 0 + j, none⟩ = cur[j]? := by simp [World.cell?, hg]
      rw [hc]
      have h3 : cur.toList[j]? = (bs.map byteV)[j]? := by rw [← htk]; rw [List.getElem?_take]; rw [if_pos (by omega)]
      rw [Array.getElem?_toList] at h3
      rw [h3]
      simp [List.getD, List.getElem?_eq_getElem hj]
/-- What an append of it wants. -/
theorem RdBytes.src {w : World} {A : Option Addr} {n c : Nat} {bs : List UInt8} (h : RdBytes w (.slice A n c) bs) : n = bs.length ∧ (0 < n → ∃ ad, A = some ad ∧ ∀ j u, (bs.map byteV)[j]? = some u → w.cell? (ad.add j) = some u) := by
  obtain ⟨_, A', c', h1, h2, h3⟩ := h
  cases h1
  refine ⟨rfl, fun hp => ?_⟩
  obtain ⟨b, off, e, _, hc⟩ := h3 hp
  refine ⟨_, e, fun j u hu => ?_⟩
  have hj : j < bs.length := by
    rcases Nat.lt_or_ge j bs.length with h | h
    · exact h
    · rw [List.getElem?_eq_none (by simpa using h)] at hu; cases hu
  have ha : (⟨b, off, none⟩ : Addr).add j = ⟨b, off + j, none⟩ := by unfold Addr.add; split <;> simp_all
  rw [ha, hc j hj]
  rw [List.getElem?_map, List.getElem?_eq_getElem hj] at hu
  simp [List.getD, List.getElem?_eq_getElem hj] at hu ⊢
  exact hu
/-- A string out of it. -/
theorem RdBytes.str {w : World} {v : Value} {bs : List UInt8} (h : RdBytes w v bs) : Sem.run Try.prog (convert 26 9 v) w = .ok (.string ⟨bs.toArray⟩) w := by
  obtain ⟨_, A, c, rfl, h2, h3⟩ := h
  have hstr : strOfNums (bs.map fun b => (b.toNat : Int)) = ⟨bs.toArray⟩ := by
    have h1 : (strOfNums (bs.map fun b => (b.toNat : Int))).data.toList = bs := by
      rw [strOfNums_data, List.map_map]
      conv => rhs; rw [← List.map_id bs]
      apply List.map_congr_left; intro b _; simp
    cases h2 : strOfNums (bs.map fun b => (b.toNat : Int)) with | mk a => rw [h2] at h1; subst h1; simp
  cases hbs : bs with
  | nil =>
    cases A with
    | none => exact run_convert_bytes_nil (P := Try.prog) w 26 5 Try.underlying26 Try.underlying5 0 c 9 Try.underlying9
    | some a =>
      have := run_bytesToString (P := Try.prog) w a 0 c [] (run_loadCells_list w a [] (fun j v hj => by simp at hj))
      rw [List.length_nil, run_convert_bytes_string w 26 9 5 _ 0 c Try.underlying26 Try.underlying5 Try.underlying9, this]; rfl
  | cons x r =>
    obtain ⟨b, off, e, _, hc⟩ := h3 (by rw [hbs]; simp)
    rw [← hbs, ← hstr, e]
    refine run_convert_bytes_arg w 26 5 Try.underlying26 Try.underlying5 b off bs.length c (bs.map fun b => (b.toNat : Int)) (by simp) (fun i hi => ?_) 9 Try.underlying9
    rw [hc i hi]
    simp [byteV, List.getD, List.getElem?_eq_getElem hi]

theorem RdBytes.drewN {w : World} {v : Value} {bs : List UInt8} (h : RdBytes w v bs) (n : Nat) : RdBytes (w.drewN n) v bs := h
theorem RdBytes.drew {w : World} {v : Value} {bs : List UInt8} (h : RdBytes w v bs) : RdBytes w.drew v bs := h
/-- The head of an own row, cut. -/
theorem OwnB.head {w : World} {base g cap n : Nat} {bs cs : List UInt8} (h : OwnB w base (.slice (some ⟨g, 0, none⟩) n cap) (bs ++ cs)) : OwnB w base (.slice (some ⟨g, 0, none⟩) bs.length cap) bs := by
  obtain ⟨h1, h2⟩ := h
  refine ⟨by rw [List.length_map, Nat.mul_one], .inr ?_⟩
  rcases h2 with ⟨h2, _⟩ | ⟨g', cap', cur, hv, hb, hg, hnc, hm, hsz, htk⟩
  · cases h2
  · cases hv
    refine ⟨g, cap, cur, rfl, hb, hg, by rw [List.length_append] at hnc; omega, hm, hsz, ?_⟩
    have := congrArg (List.take bs.length) htk
    rw [List.take_take, List.map_append, List.take_append_of_le_length (by simp)] at this
    rw [Nat.mul_one] at *
    rw [show min bs.length (bs ++ cs).length = bs.length by rw [List.length_append]; omega] at this
    rw [this]; exact List.take_of_length_le (by rw [List.length_map]; exact Nat.le_refl _)
/-- The rest of an own row, cut. -/
theorem OwnB.tail {w : World} {base g cap n : Nat} {bs cs : List UInt8} (h : OwnB w base (.slice (some ⟨g, 0, none⟩) n cap) (bs ++ cs)) (hl : cs.length ≤ 140737488355328) (A : Option Addr) (hA : 0 < cs.length → A = some ⟨g, bs.length, none⟩) (m c : Nat) (hm : m = cs.length) (hc : m ≤ c) : RdBytes w (.slice A m c) cs := by
  subst hm
  refine ⟨hl, A, c, rfl, hc, fun hp => ⟨g, bs.length, hA hp, ?_⟩⟩
  rcases h.2 with ⟨h2, _⟩ | ⟨g', cap', cur, hv, _, hg, hnc, _, hsz, htk⟩
  · cases h2
  · cases hv
    refine ⟨?_, fun j hj => ?_⟩
    · rcases Nat.lt_or_ge g w.heap.size with h | h
      · exact h
      · rw [Array.getElem?_eq_none h] at hg; cases hg
    · have hcl : w.cell? ⟨g, bs.length + j, none⟩ = cur[bs.length + j]? := by simp [World.cell?, hg]
      rw [hcl]
      have h3 : cur.toList[bs.length + j]? = ((bs ++ cs).map byteV)[bs.length + j]? := by rw [← htk]; rw [List.getElem?_take]; rw [if_pos (by rw [List.length_append]; omega)]
      rw [Array.getElem?_toList] at h3
      rw [h3, List.map_append, List.getElem?_append_right (by simp)]
      simp [List.getElem?_eq_getElem hj]
theorem OwnB.some_ {w : World} {base : Nat} {v : Value} {bs : List UInt8} (h : OwnB w base v bs) (hp : 0 < bs.length) : ∃ g cap, v = .slice (some ⟨g, 0, none⟩) bs.length cap ∧ bs.length ≤ cap ∧ base ≤ g ∧ g < w.heap.size := by
  rcases h.2 with ⟨_, h2⟩ | ⟨g, cap, cur, hv, hb, hg, hnc, _, hsz, htk⟩
  · omega
  · refine ⟨g, cap, hv, hnc, hb, ?_⟩
    rcases Nat.lt_or_ge g w.heap.size with h | h
    · exact h
    · rw [Array.getElem?_eq_none h] at hg; cases hg

/-! ### arguments -/
section
variable {H : Type} {enc : TypeId × Value → H} {W : World} {base : Nat} {v : Value} {d : DataW H} {p : List MemPlace}
theorem list_u8 (ns : List Int) (h : ∀ n ∈ ns, 0 ≤ n ∧ n ≤ 255) : ∃ bs : List UInt8, ns = bs.map fun b => (b.toNat : Int) := by
  refine ⟨ns.map fun n => UInt8.ofNat n.toNat, ?_⟩
  rw [List.map_map]
  conv => lhs; rw [← List.map_id ns]
  apply List.map_congr_left
  intro n hn
  have := h n hn
  simp; omega
/-- bytes that came in as an argument. -/
def RdArgB (w : World) (v : Value) (bs : List UInt8) : Prop := RdBytes w v bs ∧ bs.length ≤ 140737488351232
set_option maxRecDepth 100000 in
theorem open_bytes (hval : Value.okWide Try.prog W .any base 26 v) (h : DataW.Trod enc Try.prog W 0 (fun _ => true) true 26 v d p) (hz : ∀ n ∈ DataW.weights Try.prog 26 d, n ≤ reachBytes) : ∃ bs, RdArgB W v bs := by
  obtain ⟨zs, h1, h2, A, c, h3, h4, h5⟩ := open_zs (by_ := 1) Try.underlying26 Try.underlying5 (by kernel_rfl) (by kernel_rfl) hval h hz
  obtain ⟨bs, rfl⟩ := list_u8 zs (fun z hz => Go.bounds_u8 (h2 z hz))
  rw [List.length_map] at *
  refine ⟨bs, ⟨by unfold reachBytes at h1; omega, A, c, h3, h4, fun hp => ?_⟩, by unfold reachBytes at h1; omega⟩
  obtain ⟨b, off, e, hb, hc⟩ := h5 hp
  refine ⟨b, off, e, hb, fun j hj => ?_⟩
  rw [hc j hj]
  simp [byteV, List.getElem?_eq_getElem hj]
end
end Go.Proofs.Ytgonekmmbeedeaa
