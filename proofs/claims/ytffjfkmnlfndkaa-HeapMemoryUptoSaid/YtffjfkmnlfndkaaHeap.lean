/-
  Package heap: a heap at a pointer, as a model; is. Condition: the heap has at most 4000 cells.
-/
import Derived.Test.YtffjfkmnlfndkaaCell
import Derived.Test.YtffjfkmnlfndkaaRoomy
import Derived.OwnWalk
namespace Go.Proofs.Ytffjfkmnlfndkaa
open Go.RowKit
set_option linter.unusedVariables false

structure HeapM where
  cells : List CellM
  sizes : List Int
  shapes : List Int
def cellsV (l : List CellM) : List Value := (l.map fun c => [Value.int .i64 c.tag, Value.int .i64 c.n]).flatten
theorem cellsV_len : ∀ l : List CellM, (cellsV l).length = l.length * 2
  | [] => rfl
  | c :: l => by
    have := cellsV_len l
    simp only [cellsV, List.map_cons, List.flatten_cons, List.length_append, List.length_cons, List.length_nil] at this ⊢
    omega
theorem cellsV_get : ∀ (l : List CellM) (i : Nat) (c : CellM), l[i]? = some c → (cellsV l)[i * 2]? = some (.int .i64 c.tag) ∧ (cellsV l)[i * 2 + 1]? = some (.int .i64 c.n)
  | [], _, _, h => by simp at h
  | c :: l, 0, d, h => by simp at h; subst h; exact ⟨rfl, rfl⟩
  | c :: l, i + 1, d, h => by
    have := cellsV_get l i d (by simpa using h)
    have e1 : (i + 1) * 2 = i * 2 + 1 + 1 := by omega
    rw [e1]
    exact this
/-- The heap at the pointer hp: its three rows lie in the blocks gc, gs, gh. -/
structure HeapAt (w : World) (hp gc gs gh : Nat) (H : HeapM) : Prop where
  head : w.heap[hp]? = some (.cells #[.slice (some ⟨gc, 0, none⟩) H.cells.length H.cells.length, .slice (some ⟨gs, 0, none⟩) H.cells.length H.cells.length, .slice (some ⟨gh, 0, none⟩) H.cells.length H.cells.length] 77 (0, 0))
  cell : w.heap[gc]? = some (.cells (cellsV H.cells).toArray 24 (0, 0))
  size : w.heap[gs]? = some (.cells (H.sizes.map intV).toArray 3 (0, 0))
  shape : w.heap[gh]? = some (.cells (H.shapes.map intV).toArray 3 (0, 0))
  lsz : H.sizes.length = H.cells.length
  lsh : H.shapes.length = H.cells.length
  ne : gs ≠ gh ∧ hp ≠ gc ∧ hp ≠ gs ∧ hp ≠ gh ∧ gc ≠ gs ∧ gc ≠ gh
  le : H.cells.length ≤ 4000
  ok : ∀ s ∈ H.sizes, 0 ≤ s ∧ s ≤ 4000
  fit : ∀ (k : Nat) (s : Int), H.sizes[k]? = some s → (k : Int) + s ≤ H.cells.length
theorem HeapAt.kp {w w' : World} {hp gc gs gh : Nat} {H : HeapM} (h : HeapAt w hp gc gs gh H) (hk : Kp w w') : HeapAt w' hp gc gs gh H := by
  have k : ∀ (g : Nat) (o : Obj), w.heap[g]? = some o → w'.heap[g]? = some o := fun g o h => by rw [hk.block g (Array.getElem?_eq_some_iff.1 h).1]; exact h
  exact ⟨k _ _ h.head, k _ _ h.cell, k _ _ h.size, k _ _ h.shape, h.lsz, h.lsh, h.ne, h.le, h.ok, h.fit⟩
theorem HeapAt.h0 {w : World} {hp gc gs gh : Nat} {H : HeapM} (h : HeapAt w hp gc gs gh H) : w.cell? ⟨hp, 0, none⟩ = some (.slice (some ⟨gc, 0, none⟩) H.cells.length H.cells.length) := by simp [World.cell?, h.head]
theorem HeapAt.h1 {w : World} {hp gc gs gh : Nat} {H : HeapM} (h : HeapAt w hp gc gs gh H) : w.cell? ⟨hp, 1, none⟩ = some (.slice (some ⟨gs, 0, none⟩) H.cells.length H.cells.length) := by simp [World.cell?, h.head]
theorem HeapAt.h2 {w : World} {hp gc gs gh : Nat} {H : HeapM} (h : HeapAt w hp gc gs gh H) : w.cell? ⟨hp, 2, none⟩ = some (.slice (some ⟨gh, 0, none⟩) H.cells.length H.cells.length) := by simp [World.cell?, h.head]
theorem HeapAt.sz {w : World} {hp gc gs gh : Nat} {H : HeapM} (h : HeapAt w hp gc gs gh H) {k : Nat} {s : Int} (hs : H.sizes[k]? = some s) : w.cell? ⟨gs, k, none⟩ = some (.int .i64 s) := by simp [World.cell?, h.size, hs, intV]
theorem HeapAt.sh {w : World} {hp gc gs gh : Nat} {H : HeapM} (h : HeapAt w hp gc gs gh H) {k : Nat} {s : Int} (hs : H.shapes[k]? = some s) : w.cell? ⟨gh, k, none⟩ = some (.int .i64 s) := by simp [World.cell?, h.shape, hs, intV]
/-- Does a block begin there? -/
def isB (H : HeapM) (p : Int) : Bool := decide (0 ≤ p ∧ p < H.cells.length ∧ 0 < H.sizes.getD p.toNat 0)
set_option maxHeartbeats 1000000 in
theorem is_any (w : World) (hp gc gs gh : Nat) (H : HeapM) (p : Int) (h : HeapAt w hp gc gs gh H) : Calls Try.prog 42 #[.pointer (some ⟨hp, 0, none⟩), .int .i64 p] w fun e w' => e = .returned (.bool (isB H p)) ∧ w = w' := by
  have q0 := h.h0; have q1 := h.h1
  by_cases p0 : 0 ≤ p
  · by_cases p1 : p < H.cells.length
    · obtain ⟨k, rfl⟩ : ∃ k : Nat, p = k := ⟨p.toNat, by omega⟩
      have hk : k < H.sizes.length := by rw [h.lsz]; omega
      obtain ⟨s, hs⟩ : ∃ s, H.sizes[k]? = some s := ⟨H.sizes[k], List.getElem?_eq_getElem hk⟩
      have q2 := h.sz hs
      have hv : isB H k = decide (0 < s) := by
        unfold isB
        rw [Int.toNat_natCast]
        simp [List.getD, hs]
        intro _; omega
      have HV := hid hv
      clear hs hv hk h
      by_cases s0 : 0 < s
      all_goals
        go_enter Try.func42, Try.ntmps42
        go_wp2
        go_ret
        exact ⟨ret_bool (by rw [HV.out]; simp [s0]), rfl⟩
    · have HV := hid (show isB H p = false by unfold isB; simp; omega)
      clear h
      go_enter Try.func42, Try.ntmps42
      go_wp2
      go_ret
      exact ⟨ret_bool HV.out.symm, rfl⟩
  · have HV := hid (show isB H p = false by unfold isB; simp; omega)
    clear h
    go_enter Try.func42, Try.ntmps42
    go_wp2
    go_ret
    exact ⟨ret_bool HV.out.symm, rfl⟩

/-! ### place -/
def placeM (H : HeapM) (p i : Int) : Int × Int := if isB H p = false then (0, 16) else if i < 0 ∨ H.sizes.getD p.toNat 0 - 1 ≤ i then (0, 14) else (p + 1 + i, 0)
set_option maxHeartbeats 1000000 in
theorem place_any (w : World) (hp gc gs gh : Nat) (H : HeapM) (p i : Int) (h : HeapAt w hp gc gs gh H) : Calls Try.prog 41 #[.pointer (some ⟨hp, 0, none⟩), .int .i64 p, .int .i64 i] w fun e w' => e = .returned (.tuple #[.int .i64 (placeM H p i).1, .int .i64 (placeM H p i).2]) ∧ w = w' := by
  have q1 := h.h1
  have HH := hid h
  cases hb : isB H p with
  | false =>
    have HV := hid (show placeM H p i = (0, 16) by unfold placeM; rw [if_pos hb])
    have HB := hid hb
    clear hb h
    go_enter Try.func41, Try.ntmps41
    go_wp2_with (go_at_call 42; go_must (refine (is_any _ hp gc gs gh H p HH.out).mono ?_); rintro e w' ⟨rfl, rfl⟩; rw [HB.out])
    go_ret2
    exact ⟨by rw [HV.out]; rfl, rfl⟩
  | true =>
    have HB := hid hb
    unfold isB at hb
    rw [decide_eq_true_eq] at hb
    obtain ⟨p0, p1, p2⟩ := hb
    obtain ⟨k, rfl⟩ : ∃ k : Nat, p = k := ⟨p.toNat, by omega⟩
    have hk : k < H.sizes.length := by rw [h.lsz]; omega
    obtain ⟨s, hs⟩ : ∃ s, H.sizes[k]? = some s := ⟨H.sizes[k], List.getElem?_eq_getElem hk⟩
    have q2 := h.sz hs
    have hgd : H.sizes.getD k 0 = s := by simp [List.getD, hs]
    rw [Int.toNat_natCast, hgd] at p2
    have hso := h.ok s (List.mem_of_getElem? hs)
    have hle := h.le
    have hpm : placeM H k i = if i < 0 ∨ s - 1 ≤ i then (0, 14) else ((k : Int) + 1 + i, 0) := by
      unfold placeM; rw [HB.out, Int.toNat_natCast, hgd]; simp
    have HPM := hid hpm
    clear hs hgd hpm hk h
    by_cases i0 : i < 0
    · have HV := hid (show placeM H k i = (0, 14) by rw [HPM.out, if_pos (.inl i0)])
      go_enter Try.func41, Try.ntmps41
      go_wp2_with (go_at_call 42; go_must (refine (is_any _ hp gc gs gh H k HH.out).mono ?_); rintro e w' ⟨rfl, rfl⟩; rw [HB.out])
      go_ret2
      exact ⟨by rw [HV.out]; rfl, rfl⟩
    · by_cases i1 : s - 1 ≤ i
      · have HV := hid (show placeM H k i = (0, 14) by rw [HPM.out, if_pos (.inr i1)])
        go_enter Try.func41, Try.ntmps41
        go_wp2_with (go_at_call 42; go_must (refine (is_any _ hp gc gs gh H k HH.out).mono ?_); rintro e w' ⟨rfl, rfl⟩; rw [HB.out])
        go_ret2
        exact ⟨by rw [HV.out]; rfl, rfl⟩
      · have HV := hid (show placeM H k i = ((k : Int) + 1 + i, 0) by rw [HPM.out, if_neg (by omega)])
        go_enter Try.func41, Try.ntmps41
        go_wp2_with (go_at_call 42; go_must (refine (is_any _ hp gc gs gh H k HH.out).mono ?_); rintro e w' ⟨rfl, rfl⟩; rw [HB.out])
        go_ret2
        exact ⟨by rw [HV.out]; rfl, rfl⟩

/-! ### find -/
def findGo (S : List Int) (n : Int) : Nat → Nat → Nat → Option Nat
  | 0, _, _ => none
  | f + 1, fr, p => if p < S.length then (if 0 < S.getD p 0 then findGo S n f (p + (S.getD p 0).toNat) (p + (S.getD p 0).toNat) else if (p : Int) + 1 - fr = n then some fr else findGo S n f fr (p + 1)) else none
theorem findGo_succ (S : List Int) (n : Int) (f fr p : Nat) : findGo S n (f + 1) fr p = if p < S.length then (if 0 < S.getD p 0 then findGo S n f (p + (S.getD p 0).toNat) (p + (S.getD p 0).toNat) else if (p : Int) + 1 - fr = n then some fr else findGo S n f fr (p + 1)) else none := rfl
def findM (S : List Int) (n : Int) : Option Nat := findGo S n (S.length + 1) 0 0
def findE (o : Option Nat) : Ending := match o with | some k => .returned (.tuple #[.int .i64 (k : Int), .bool true]) | none => .returned (.tuple #[.int .i64 0, .bool false])
set_option maxRecDepth 20000 in
set_option maxHeartbeats 1000000 in
theorem find_any (w : World) (hp gc gs gh : Nat) (H : HeapM) (n : Int) (h : HeapAt w hp gc gs gh H) : Calls Try.prog 45 #[.pointer (some ⟨hp, 0, none⟩), .int .i64 n] w fun e w' => e = findE (findM H.sizes n) ∧ w = w' := by
  have q0 := h.h0; have q1 := h.h1
  have HH := hid h
  have hle := h.le
  have hlz := h.lsz
  have HLZ := hid hlz
  obtain ⟨S, hS⟩ : ∃ S, H.sizes = S := ⟨_, rfl⟩
  obtain ⟨N, hN⟩ : ∃ N, H.cells.length = N := ⟨_, rfl⟩
  have HS := hid hS; have HN := hid hN
  rw [hS, hN] at hlz
  rw [hN] at q0 q1 hle
  rw [hS]
  have HZ := hid hlz
  clear hS hN hlz h HLZ
  go_enter Try.func45, Try.ntmps45
  go_wp2
  go_loop [6, 7] (fun fr p => ∃ f a b : Nat, fr = .int .i64 a ∧ p = .int .i64 b ∧ a ≤ b ∧ b ≤ 8000 ∧ findM S n = findGo S n f a b ∧ N < f + b) (fun _ p => N - (intOf p).toNat)
  case atStart => exact ⟨S.length + 1, 0, 0, rfl, rfl, by omega, by omega, rfl, by rw [HZ.out]; omega⟩
  case round =>
    obtain ⟨f, a, b, rfl, rfl, hab, hb, hf, hfu⟩ := hrel
    have hsl := HZ.out
    by_cases hlt : b < N
    · obtain ⟨f, rfl⟩ : ∃ f', f = f' + 1 := ⟨f - 1, by omega⟩
      obtain ⟨s, hs⟩ : ∃ s, H.sizes[b]? = some s := ⟨H.sizes[b]'(by rw [HS.out]; omega), List.getElem?_eq_getElem (by rw [HS.out]; omega)⟩
      have q2 := HH.out.sz hs
      have hso := HH.out.ok s (List.mem_of_getElem? hs)
      rw [HS.out] at hs
      have hgd : S.getD b 0 = s := by simp [List.getD, hs]
      have hfg : findM S n = if 0 < s then findGo S n f (b + s.toNat) (b + s.toNat) else if (b : Int) + 1 - a = n then some a else findGo S n f a (b + 1) := by
        rw [hf, findGo_succ, if_pos (by omega), hgd]
      have HFG := hid hfg
      have i1 : (b : Int) < (N : Int) := by omega
      clear hs hgd hfg hf hsl
      by_cases s0 : 0 < s
      · have HV := hid (HFG.out.trans (if_pos s0))
        go_wp2
        go_round
        case rel => exact ⟨f, b + s.toNat, b + s.toNat, by go_num, by go_num, by omega, by omega, HV.out, by omega⟩
        case measure => simp [intOf]; omega
      · have hv1 := HFG.out.trans (if_neg s0)
        by_cases e0 : (b : Int) + 1 - a = n
        · have HV := hid (hv1.trans (if_pos e0))
          have e1 : ((b : Int) + 1 - a == n) = true := by simp [e0]
          clear hv1 e0
          go_wp2
          go_ret2
          exact ⟨by rw [HV.out]; rfl, rfl⟩
        · have HV := hid (hv1.trans (if_neg e0))
          have e1 : ((b : Int) + 1 - a == n) = false := by simp [e0]
          clear hv1 e0
          go_wp2
          go_round
          case rel => exact ⟨f, a, b + 1, by go_num, by go_num, by omega, by omega, HV.out, by omega⟩
          case measure => simp [intOf]; omega
    · have HV : Hid (findM S n = none) := hid (by
        rw [hf]
        cases f with
        | zero => rfl
        | succ f => rw [findGo_succ, if_neg (by omega)])
      have i1 : ¬ ((b : Int) < (N : Int)) := by omega
      clear hf hsl
      go_wp2
      go_ret2
      exact ⟨by rw [HV.out]; rfl, rfl⟩

/-! ### Load, Look, Free -/
def cellAt (H : HeapM) (k : Nat) : CellM := H.cells.getD k ⟨0, 0⟩
theorem HeapAt.ce {w : World} {hp gc gs gh : Nat} {H : HeapM} (h : HeapAt w hp gc gs gh H) {k : Nat} {c : CellM} (hc : H.cells[k]? = some c) : w.cell? ⟨gc, k * 2, none⟩ = some (.int .i64 c.tag) ∧ w.cell? ⟨gc, k * 2 + 1, none⟩ = some (.int .i64 c.n) := by
  obtain ⟨h1, h2⟩ := cellsV_get _ _ _ hc
  exact ⟨by simp [World.cell?, h.cell, h1], by simp [World.cell?, h.cell, h2]⟩
set_option maxRecDepth 20000 in
set_option maxHeartbeats 1000000 in
theorem look_no (w : World) (hp gc gs gh : Nat) (H : HeapM) (p : Int) (h : HeapAt w hp gc gs gh H) (hb : isB H p = false) : Calls Try.prog 18 #[.pointer (some ⟨hp, 0, none⟩), .int .i64 p] w fun e w' => e = .returned (.tuple #[.int .i64 0, .int .i64 0, .int .i64 16]) ∧ Kp w w' := by
  have HH := hid h; have HB := hid hb
  clear h hb
  go_enter Try.func18, Try.ntmps18
  go_wp2_with (go_at_call 42; go_must (refine (is_any _ hp gc gs gh H p HH.out).mono ?_); rintro e w' ⟨rfl, rfl⟩; rw [HB.out])
  go_ret3
  exact ⟨rfl, Kp.refl _⟩
set_option maxRecDepth 20000 in
set_option maxHeartbeats 1000000 in
theorem look_yes (w : World) (hp gc gs gh : Nat) (H : HeapM) (k : Nat) (s t : Int) (h : HeapAt w hp gc gs gh H) (hs : H.sizes[k]? = some s) (ht : H.shapes[k]? = some t) (h0 : 0 < s) : Calls Try.prog 18 #[.pointer (some ⟨hp, 0, none⟩), .int .i64 k] w fun e w' => e = .returned (.tuple #[.int .i64 t, .int .i64 (s - 1), .int .i64 0]) ∧ Kp w w' := by
  have HH := hid h
  have q1 := h.h1; have q2 := h.h2; have q3 := h.sz hs; have q4 := h.sh ht
  have hk : k < H.cells.length := by
    rw [← h.lsz]
    rcases Nat.lt_or_ge k H.sizes.length with h' | h'
    · exact h'
    · rw [List.getElem?_eq_none h'] at hs; cases hs
  have HB : Hid (isB H k = true) := hid (by
    unfold isB
    rw [Int.toNat_natCast, show H.sizes.getD k 0 = s by simp [List.getD, hs]]
    simp; omega)
  have hso := h.ok s (List.mem_of_getElem? hs)
  have i1 : (k : Int) < (H.cells.length : Int) := by omega
  have i2 : (0 : Int) ≤ (k : Int) := by omega
  have hw : IntKind.i64.wrap (s - 1) = s - 1 := by rw [IntKind.wrap_i64]; omega
  clear h hs ht
  go_enter Try.func18, Try.ntmps18
  go_wp2_with (go_at_call 42; go_must (refine (is_any _ hp gc gs gh H k HH.out).mono ?_); rintro e w' ⟨rfl, rfl⟩; rw [HB.out])
  go_quiet (fail)
  go_wp2
  go_ret3
  exact ⟨rfl, (Kp.refl _).drewN _⟩
set_option maxRecDepth 20000 in
set_option maxHeartbeats 1000000 in
theorem load_no (w : World) (hp gc gs gh : Nat) (H : HeapM) (p i e : Int) (h : HeapAt w hp gc gs gh H) (hpl : placeM H p i = (0, e)) (he : e ≠ 0) : Calls Try.prog 20 #[.pointer (some ⟨hp, 0, none⟩), .int .i64 p, .int .i64 i] w fun en w' => en = .returned (.tuple #[.agg #[.int .i64 0, .int .i64 0], .int .i64 e]) ∧ Kp w w' := by
  have HH := hid h; have HP := hid hpl
  have e1 : (e != 0) = true := by simp [he]
  clear h hpl he
  go_enter Try.func20, Try.ntmps20
  go_wp2_with (go_at_call 41; go_must (refine (place_any _ hp gc gs gh H p i (HH.out.kp ((Kp.refl _).alloc _))).mono ?_); rintro en w' ⟨rfl, rfl⟩; rw [HP.out])
  exact bodyPost_ret (v := .tuple #[.agg #[.int .i64 0, .int .i64 0], .int .i64 e]) (by simp [results, Try.results20, go_sem]) rfl ⟨rfl, (Kp.refl _).alloc _⟩
set_option maxRecDepth 20000 in
set_option maxHeartbeats 1000000 in
theorem load_yes (w : World) (hp gc gs gh : Nat) (H : HeapM) (p i : Int) (k : Nat) (c : CellM) (h : HeapAt w hp gc gs gh H) (hpl : placeM H p i = ((k : Int), 0)) (hc : H.cells[k]? = some c) : Calls Try.prog 20 #[.pointer (some ⟨hp, 0, none⟩), .int .i64 p, .int .i64 i] w fun en w' => en = .returned (.tuple #[.agg #[.int .i64 c.tag, .int .i64 c.n], .int .i64 0]) ∧ Kp w w' := by
  have HH := hid h; have HP := hid hpl
  have hk : k < H.cells.length := by
    rcases Nat.lt_or_ge k H.cells.length with h' | h'
    · exact h'
    · rw [List.getElem?_eq_none h'] at hc; cases hc
  have hle := h.le
  have hhp : hp < w.heap.size := (Array.getElem?_eq_some_iff.1 h.head).1
  have hgc : gc < w.heap.size := (Array.getElem?_eq_some_iff.1 h.cell).1
  obtain ⟨c0, c1⟩ := h.ce hc
  have q0 := h.h0
  have i1 : (k : Int) < (H.cells.length : Int) := by omega
  clear h hpl hc
  go_enter Try.func20, Try.ntmps20
  go_wp2_with (go_at_call 41; go_must (refine (place_any _ hp gc gs gh H p i (HH.out.kp ((Kp.refl _).alloc _))).mono ?_); rintro en w' ⟨rfl, rfl⟩; rw [HP.out])
  exact bodyPost_ret (v := .tuple #[.agg #[.int .i64 c.tag, .int .i64 c.n], .int .i64 0]) (by simp [results, Try.results20, go_sem]) rfl ⟨rfl, (Kp.refl _).alloc _⟩
/-! ### Store: the answers other than zero -/
set_option maxRecDepth 20000 in
set_option maxHeartbeats 1000000 in
theorem store_no (w : World) (hp gc gs gh : Nat) (H : HeapM) (p i e ct cn : Int) (h : HeapAt w hp gc gs gh H) (hpl : placeM H p i = (0, e)) (he : e ≠ 0) : Calls Try.prog 16 #[.pointer (some ⟨hp, 0, none⟩), .int .i64 p, .int .i64 i, .agg #[.int .i64 ct, .int .i64 cn]] w fun en w' => en = .returned (.int .i64 e) ∧ Kp w w' := by
  have HH := hid h; have HP := hid hpl
  have e1 : (e != 0) = true := by simp [he]
  clear h hpl he
  go_enter Try.func16, Try.ntmps16
  go_wp2_with (go_at_call 41; go_must (refine (place_any _ hp gc gs gh H p i (HH.out.kp ((Kp.refl _).alloc _))).mono ?_); rintro en w' ⟨rfl, rfl⟩; rw [HP.out])
  exact bodyPost_ret (v := .int .i64 e) (by simp [results, Try.results16, go_sem]) rfl ⟨rfl, (Kp.refl _).alloc _⟩
set_option maxRecDepth 20000 in
set_option maxHeartbeats 1000000 in
theorem store_kind (w : World) (hp gc gs gh : Nat) (H : HeapM) (p i ct cn : Int) (k : Nat) (h : HeapAt w hp gc gs gh H) (hpl : placeM H p i = ((k : Int), 0)) (hk : ct < 0 ∨ 7 < ct) : Calls Try.prog 16 #[.pointer (some ⟨hp, 0, none⟩), .int .i64 p, .int .i64 i, .agg #[.int .i64 ct, .int .i64 cn]] w fun en w' => en = .returned (.int .i64 13) ∧ Kp w w' := by
  have HH := hid h; have HP := hid hpl
  clear h hpl
  by_cases c0 : ct < 0
  all_goals
    first
      | have c1 : 7 < ct := by omega
      | skip
    go_enter Try.func16, Try.ntmps16
    go_wp2_with (go_at_call 41; go_must (refine (place_any _ hp gc gs gh H p i (HH.out.kp ((Kp.refl _).alloc _))).mono ?_); rintro en w' ⟨rfl, rfl⟩; rw [HP.out])
    exact bodyPost_ret (v := .int .i64 13) (by simp [results, Try.results16, go_sem]) rfl ⟨rfl, (Kp.refl _).alloc _⟩
/-! ### Free -/
def freeF (n s : Int) : Int := wrap64 (n - s)
def freeM (H : HeapM) : Int := H.sizes.foldl freeF (H.cells.length : Int)
set_option maxRecDepth 20000 in
set_option maxHeartbeats 1000000 in
theorem free_any (w : World) (hp gc gs gh : Nat) (H : HeapM) (h : HeapAt w hp gc gs gh H) : Calls Try.prog 27 #[.pointer (some ⟨hp, 0, none⟩)] w fun e w' => e = .returned (.int .i64 (freeM H)) ∧ w = w' := by
  have q0 := h.h0; have q1 := h.h1
  have HH := hid h
  have hle := h.le
  have hlz := h.lsz
  obtain ⟨F, hF⟩ : ∃ F, freeM H = F := ⟨_, rfl⟩
  have HF := hid hF
  obtain ⟨N, hN⟩ : ∃ N, H.cells.length = N := ⟨_, rfl⟩
  have HN := hid hN
  rw [hN] at q0 q1 hle hlz
  rw [hF]
  have HZ := hid hlz
  clear hF hN hlz h
  go_enter Try.func27, Try.ntmps27
  go_wp2
  go_loop [3, 18] (fun a i => ∃ (b : Nat) (x : Int), a = .int .i64 x ∧ i = .int .i64 b ∧ b ≤ N ∧ F = (H.sizes.drop b).foldl freeF x) (fun _ i => N - (intOf i).toNat)
  case atStart => exact ⟨0, _, rfl, rfl, by omega, by rw [← HF.out, freeM, HN.out]; rfl⟩
  case round =>
    obtain ⟨b, x, rfl, rfl, hb, hf⟩ := hrel
    by_cases hlt : b < N
    · obtain ⟨s, hs⟩ : ∃ s, H.sizes[b]? = some s := ⟨H.sizes[b]'(by rw [HZ.out]; omega), List.getElem?_eq_getElem (by rw [HZ.out]; omega)⟩
      have q2 := HH.out.sz hs
      have HV : Hid (F = (H.sizes.drop (b + 1)).foldl freeF (wrap64 (x - s))) := hid (by
        obtain ⟨hl, he⟩ := List.getElem?_eq_some_iff.1 hs
        rw [hf, List.drop_eq_getElem_cons hl, he]; rfl)
      have i1 : (b : Int) < (N : Int) := by omega
      clear hs hf
      go_wp2
      go_round
      case rel => exact ⟨b + 1, _, rfl, by go_num, by omega, HV.out⟩
      case measure => simp [intOf]; omega
    · have HV : Hid (F = x) := hid (by
        rw [hf, List.drop_eq_nil_of_le (by rw [HZ.out]; omega)]; rfl)
      have i1 : ¬ ((b : Int) < (N : Int)) := by omega
      clear hf
      go_wp2
      go_ret
      exact ⟨by rw [HV.out]; rfl, rfl⟩
/-! ### Alloc: the answers other than zero -/
set_option maxRecDepth 20000 in
set_option maxHeartbeats 1000000 in
theorem alloc_kind (w : World) (hp : Nat) (t n : Int) (ht : t < 1 ∨ 4 < t) : Calls Try.prog 25 #[.pointer (some ⟨hp, 0, none⟩), .int .i64 t, .int .i64 n] w fun e w' => e = .returned (.tuple #[.int .i64 0, .int .i64 13]) ∧ w = w' := by
  go_enter Try.func25, Try.ntmps25
  go_wp2
  all_goals
    go_ret2
    exact ⟨rfl, rfl⟩
set_option maxRecDepth 20000 in
set_option maxHeartbeats 1000000 in
theorem alloc_range (w : World) (hp : Nat) (t n : Int) (t1 : 1 ≤ t) (t4 : t ≤ 4) (hn : n < 0 ∨ 300 < n) : Calls Try.prog 25 #[.pointer (some ⟨hp, 0, none⟩), .int .i64 t, .int .i64 n] w fun e w' => e = .returned (.tuple #[.int .i64 0, .int .i64 14]) ∧ w = w' := by
  go_enter Try.func25, Try.ntmps25
  go_wp2
  all_goals
    go_ret2
    exact ⟨rfl, rfl⟩
set_option maxRecDepth 20000 in
set_option maxHeartbeats 1000000 in
theorem alloc_full (w : World) (hp gc gs gh : Nat) (H : HeapM) (t n : Int) (h : HeapAt w hp gc gs gh H) (t1 : 1 ≤ t) (t4 : t ≤ 4) (n0 : 0 ≤ n) (n3 : n ≤ 300) (hf : findM H.sizes (n + 1) = none) : Calls Try.prog 25 #[.pointer (some ⟨hp, 0, none⟩), .int .i64 t, .int .i64 n] w fun e w' => e = .returned (.tuple #[.int .i64 0, .int .i64 15]) ∧ w = w' := by
  have HH := hid h; have HF := hid hf
  clear h hf
  go_enter Try.func25, Try.ntmps25
  go_wp2_with (go_at_call 45; go_must (refine (find_any _ hp gc gs gh H (n + 1) HH.out).mono ?_); rintro e w' ⟨rfl, rfl⟩; rw [HF.out]; simp only [findE])
  go_ret2
  exact ⟨rfl, rfl⟩
end Go.Proofs.Ytffjfkmnlfndkaa
