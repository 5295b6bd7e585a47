/-
  Package image, plainly: a code's bytes, and the code that bytes are. No condition.
-/
import Derived.Test.YtgonekmmbeedeaaNumber
import Derived.Test.YtgonekmmbeedeaaSoundP
namespace Go.Proofs.Ytgonekmmbeedeaa
open Go.RowKit
set_option linter.unusedVariables false

def encN (n : Int) : List UInt8 := enc7 (zig n)
def encs (l : List Int) : List UInt8 := (l.map encN).flatten
def encT (s : ByteArray) : List UInt8 := encN s.size ++ s.data.toList
def encI (i : InsM) : List UInt8 := encs [i.op, i.a, i.b, i.c, i.d, i.e]
def encF (f : FnM) : List UInt8 := encT f.name ++ (encs [f.params, f.slots, f.caps, f.ins.length] ++ (f.ins.map encI).flatten)
def encC (c : CodeM) : List UInt8 := encN c.texts.length ++ ((c.texts.map encT).flatten ++ (encN c.funcs.length ++ (c.funcs.map encF).flatten))
def headB : List UInt8 := [114, 111, 97, 100, 49]
def sumGo : Nat × Nat → List UInt8 → Nat × Nat
  | s, [] => s
  | s, c :: l => sumGo ((s.1 + c.toNat) % 65521, (s.2 + (s.1 + c.toNat) % 65521) % 65521) l
def sumM (l : List UInt8) : Nat := (sumGo (1, 0) l).2 * 65536 + (sumGo (1, 0) l).1
def be4 (s : Nat) : List UInt8 := [UInt8.ofNat (s / 16777216), UInt8.ofNat (s / 65536), UInt8.ofNat (s / 256), UInt8.ofNat s]
def packB (c : CodeM) : List UInt8 := (headB ++ encC c) ++ be4 (sumM (headB ++ encC c))
def beV (l : List UInt8) : Nat := l.foldl (fun s c => s * 256 + c.toNat) 0

/-- The reader: what is left, and whether something was wrong. -/
structure RSt where
  b : List UInt8
  bad : Bool
def numR (s : RSt) : Int × RSt := if s.bad = true then (0, s) else match tkV 0 0 s.b with
  | none => (0, ⟨s.b, true⟩)
  | some (u, k) => (unzig u, ⟨s.b.drop k, false⟩)
def cntR (s : RSt) : Int × RSt := if (numR s).1 < 0 ∨ ((numR s).2.b.length : Int) < (numR s).1 then (0, ⟨(numR s).2.b, true⟩) else numR s
def txtR (s : RSt) : ByteArray × RSt := (⟨((cntR s).2.b.take (cntR s).1.toNat).toArray⟩, ⟨(cntR s).2.b.drop (cntR s).1.toNat, (cntR s).2.bad⟩)
def rep {α : Type} (g : RSt → α × RSt) : Nat → RSt → List α × RSt
  | 0, s => ([], s)
  | n + 1, s => if s.bad = true then ([], s) else ((g s).1 :: (rep g n (g s).2).1, (rep g n (g s).2).2)
def insR (s : RSt) : InsM × RSt :=
  let a := numR s; let b := numR a.2; let c := numR b.2; let d := numR c.2; let e := numR d.2; let f := numR e.2
  (⟨a.1, b.1, c.1, d.1, e.1, f.1⟩, f.2)
def fnR (s : RSt) : FnM × RSt :=
  let a := txtR s; let b := numR a.2; let c := numR b.2; let d := numR c.2; let e := cntR d.2
  (⟨a.1, b.1, c.1, d.1, (rep insR e.1.toNat e.2).1⟩, (rep insR e.1.toNat e.2).2)
def codeR (s : RSt) : CodeM × RSt :=
  let a := cntR s; let t := rep txtR a.1.toNat a.2; let b := cntR t.2; let f := rep fnR b.1.toNat b.2
  (⟨f.1, t.1⟩, f.2)
noncomputable def unpackM (l : List UInt8) : CodeM × Int :=
  if (l.length : Int) - 4 < 5 ∨ l.take 5 ≠ headB then (⟨[], []⟩, 6)
  else if sumM (l.take (l.length - 4)) ≠ beV (l.drop (l.length - 4)) then (⟨[], []⟩, 18)
  else if (codeR ⟨(l.take (l.length - 4)).drop 5, false⟩).2.bad = true ∨ 0 < (codeR ⟨(l.take (l.length - 4)).drop 5, false⟩).2.b.length then (⟨[], []⟩, 6)
  else if (soundM (codeR ⟨(l.take (l.length - 4)).drop 5, false⟩).1).1 ≠ 0 then (⟨[], []⟩, 6)
  else ((codeR ⟨(l.take (l.length - 4)).drop 5, false⟩).1, 0)

/-! ### numbers -/
theorem tk_inv : ∀ (l : List UInt8) (i u U K : Nat), tkV i u l = some (U, K) → ∃ x r, l = enc7 x ++ r ∧ U = u + x * 128 ^ i ∧ K = i + (enc7 x).length ∧ (0 < i → 0 < x) ∧ i ≤ 9 ∧ x < 128 ^ (9 - i) * 2
  | [], i, u, U, K, h => by simp [tkV] at h
  | c :: r, i, u, U, K, h => by
    simp only [tkV] at h
    split at h
    · cases h
    · rename_i hc
      have hc256 := UInt8.toNat_lt c
      split at h
      · rename_i hs
        simp only [Option.some.injEq, Prod.mk.injEq] at h
        obtain ⟨rfl, rfl⟩ := h
        refine ⟨c.toNat, r, ?_, ?_, ?_, by omega, by omega, ?_⟩
        · rw [enc7_small _ hs, UInt8.ofNat_toNat]; rfl
        · rw [Nat.mod_eq_of_lt hs]
        · rw [enc7_small _ hs]; rfl
        · have h9 : 9 - i = 0 ∨ 1 ≤ 9 - i := by omega
          rcases h9 with h9 | h9
          · rw [h9]; omega
          · have : (128 : Nat) ^ 1 ≤ 128 ^ (9 - i) := Nat.pow_le_pow_right (by omega) h9
            omega
      · rename_i hs
        obtain ⟨x, r', rfl, rfl, rfl, h0, h9, hx⟩ := tk_inv r (i + 1) _ U K h
        have hx0 := h0 (by omega)
        refine ⟨c.toNat % 128 + 128 * x, r', ?_, ?_, ?_, by omega, by omega, ?_⟩
        · rw [enc7_big (c.toNat % 128 + 128 * x) (by omega)]
          have e1 : (c.toNat % 128 + 128 * x) % 128 + 128 = c.toNat := by omega
          have e2 : (c.toNat % 128 + 128 * x) / 128 = x := by omega
          rw [e1, e2, UInt8.ofNat_toNat]; rfl
        · rw [Nat.pow_succ, Nat.add_mul, Nat.mul_comm (128 ^ i) 128, ← Nat.mul_assoc, Nat.mul_comm x 128]; omega
        · rw [enc7_big (c.toNat % 128 + 128 * x) (by omega)]
          have e2 : (c.toNat % 128 + 128 * x) / 128 = x := by omega
          rw [e2, List.length_cons]; omega
        · have e9 : 9 - i = (9 - (i + 1)) + 1 := by omega
          rw [e9, Nat.pow_succ]; omega
theorem zig_unzig (u : Nat) (h : u < 18446744073709551616) : zig (unzig u) = u := by unfold unzig zig; split <;> split <;> omega
theorem unzig_ok (u : Nat) (h : u < 18446744073709551616) : okI (unzig u) := by unfold okI unzig; split <;> omega
theorem numR_ok (n : Int) (h : okI n) (r : List UInt8) : numR ⟨encN n ++ r, false⟩ = (n, ⟨r, false⟩) := by
  have := tk_enc 9 0 0 (zig n) r (by omega) (by have := zig_lt n h; omega) (by omega)
  unfold numR encN
  simp only [Bool.false_eq_true, if_false]
  rw [this]
  simp only [Nat.pow_zero, Nat.mul_one, Nat.zero_add, List.drop_left]
  rw [unzig_zig]
theorem numR_inv {s s' : RSt} {n : Int} (h : numR s = (n, s')) (hb : s'.bad = false) : s.bad = false ∧ okI n ∧ s.b = encN n ++ s'.b := by
  unfold numR at h
  split at h
  · rename_i hbad; injection h with _ h; subst h; rw [hbad] at hb; cases hb
  · rename_i hbad
    split at h
    · injection h with _ h; subst h; cases hb
    · rename_i u k hk
      injection h with h1 h2
      subst h1; subst h2
      obtain ⟨x, r, e1, e2, e3, _, _, hx⟩ := tk_inv _ _ _ _ _ hk
      have hu : u = x := by rw [e2]; simp
      have hk' : k = (enc7 x).length := by rw [e3]; simp
      subst hu; subst hk'
      have hlt : u < 18446744073709551616 := by simpa using hx
      refine ⟨by simpa using hbad, unzig_ok u hlt, ?_⟩
      unfold encN
      rw [zig_unzig u hlt]
      simp only
      rw [e1, List.drop_left]
theorem numR_inv' {s : RSt} (hb : (numR s).2.bad = false) : s.bad = false ∧ okI (numR s).1 ∧ s.b = encN (numR s).1 ++ (numR s).2.b := numR_inv (s := s) (n := (numR s).1) (s' := (numR s).2) rfl hb
theorem cntR_ok (n : Nat) (r : List UInt8) (h : n ≤ r.length) (hr : okI (n : Int)) : cntR ⟨encN n ++ r, false⟩ = ((n : Int), ⟨r, false⟩) := by
  unfold cntR
  rw [numR_ok _ hr, if_neg (by simp only; omega)]
theorem cntR_inv {s s' : RSt} {n : Int} (h : cntR s = (n, s')) (hb : s'.bad = false) : s.bad = false ∧ okI n ∧ 0 ≤ n ∧ n.toNat ≤ s'.b.length ∧ s.b = encN n ++ s'.b := by
  unfold cntR at h
  split at h
  · injection h with _ h; subst h; cases hb
  · rename_i hc
    have e := numR_inv h hb
    rw [h] at hc
    simp only at hc
    exact ⟨e.1, e.2.1, by omega, by omega, e.2.2⟩
theorem cntR_inv' {s : RSt} (hb : (cntR s).2.bad = false) : s.bad = false ∧ okI (cntR s).1 ∧ 0 ≤ (cntR s).1 ∧ (cntR s).1.toNat ≤ (cntR s).2.b.length ∧ s.b = encN (cntR s).1 ++ (cntR s).2.b := cntR_inv (s := s) (n := (cntR s).1) (s' := (cntR s).2) rfl hb
theorem txtR_ok (s : ByteArray) (r : List UInt8) (hs : s.size ≤ 9223372036854775807) : txtR ⟨encT s ++ r, false⟩ = (s, ⟨r, false⟩) := by
  have hl : s.data.toList.length = s.size := by rw [Array.length_toList]; rfl
  unfold txtR encT
  rw [List.append_assoc, cntR_ok s.size _ (by rw [List.length_append]; omega) ⟨by omega, by omega⟩]
  simp only [Int.toNat_natCast]
  rw [← hl, List.take_left, List.drop_left]
theorem txtR_inv {s s' : RSt} {t : ByteArray} (h : txtR s = (t, s')) (hb : s'.bad = false) : s.bad = false ∧ (t.size : Int) ≤ 9223372036854775807 ∧ s.b = encT t ++ s'.b := by
  unfold txtR at h
  injection h with h1 h2
  subst h1; subst h2
  try simp only at hb
  obtain ⟨g1, g2, g3, g4, g5⟩ := cntR_inv' (s := s) hb
  have hsz : (⟨((cntR s).2.b.take (cntR s).1.toNat).toArray⟩ : ByteArray).size = (cntR s).1.toNat := by
    show (((cntR s).2.b.take (cntR s).1.toNat).toArray).size = _
    rw [List.size_toArray, List.length_take]; omega
  refine ⟨g1, by rw [hsz]; have := g2.2; omega, ?_⟩
  unfold encT
  rw [hsz, g5, List.append_assoc]
  congr 1
  · congr 1; omega
  · simp
theorem txtR_inv' {s : RSt} (hb : (txtR s).2.bad = false) : s.bad = false ∧ ((txtR s).1.size : Int) ≤ 9223372036854775807 ∧ s.b = encT (txtR s).1 ++ (txtR s).2.b := txtR_inv (s := s) (t := (txtR s).1) (s' := (txtR s).2) rfl hb
/-! ### lists -/
theorem rep_ok {α : Type} {g : RSt → α × RSt} {enc : α → List UInt8} : ∀ (l : List α) (r : List UInt8), (∀ x ∈ l, ∀ r, g ⟨enc x ++ r, false⟩ = (x, ⟨r, false⟩)) → rep g l.length ⟨(l.map enc).flatten ++ r, false⟩ = (l, ⟨r, false⟩)
  | [], r, _ => by simp [rep]
  | x :: l, r, h => by
    have h1 := h x (List.mem_cons_self ..) ((l.map enc).flatten ++ r)
    have ih := rep_ok l r (fun y hy => h y (List.mem_cons_of_mem _ hy))
    rw [List.map_cons, List.flatten_cons, List.append_assoc, List.length_cons]
    unfold rep
    rw [if_neg (by simp), h1, ih]
theorem rep_inv {α : Type} {g : RSt → α × RSt} {enc : α → List UInt8} {P : α → Prop} (hg : ∀ s x s', g s = (x, s') → s'.bad = false → s.bad = false ∧ P x ∧ s.b = enc x ++ s'.b) : ∀ (n : Nat) (s : RSt) (l : List α) (s' : RSt), rep g n s = (l, s') → s'.bad = false → s.bad = false ∧ l.length = n ∧ (∀ x ∈ l, P x) ∧ s.b = (l.map enc).flatten ++ s'.b
  | 0, s, l, s', h, hb => by
    unfold rep at h
    injection h with h1 h2
    subst h1; subst h2
    exact ⟨hb, rfl, fun x hx => by simp at hx, by simp⟩
  | n + 1, s, l, s', h, hb => by
    unfold rep at h
    split at h
    · rename_i hbad; injection h with _ h2; subst h2; rw [hbad] at hb; cases hb
    · injection h with h1 h2
      subst h1; subst h2
      obtain ⟨g1, g2, g3, g4⟩ := rep_inv hg n (g s).2 _ _ rfl hb
      obtain ⟨k1, k2, k3⟩ := hg s (g s).1 (g s).2 rfl g1
      refine ⟨k1, by rw [List.length_cons, g2], fun x hx => ?_, ?_⟩
      · rcases List.mem_cons.1 hx with rfl | hx
        · exact k2
        · exact g3 x hx
      · rw [List.map_cons, List.flatten_cons, List.append_assoc, ← g4, k3]
theorem rep_inv' {α : Type} {g : RSt → α × RSt} {enc : α → List UInt8} {P : α → Prop} (hg : ∀ s x s', g s = (x, s') → s'.bad = false → s.bad = false ∧ P x ∧ s.b = enc x ++ s'.b) (n : Nat) (s : RSt) (hb : (rep g n s).2.bad = false) : s.bad = false ∧ (rep g n s).1.length = n ∧ (∀ x ∈ (rep g n s).1, P x) ∧ s.b = ((rep g n s).1.map enc).flatten ++ (rep g n s).2.b := rep_inv hg n s (rep g n s).1 (rep g n s).2 rfl hb
theorem rep_bad {α : Type} (g : RSt → α × RSt) (n : Nat) (s : RSt) (h : s.bad = true) : rep g n s = ([], s) := by
  cases n with
  | zero => rfl
  | succ n => unfold rep; rw [if_pos h]
theorem rep_len {α : Type} (g : RSt → α × RSt) : ∀ (n : Nat) (s : RSt), (rep g n s).1.length ≤ n
  | 0, s => by simp [rep]
  | n + 1, s => by
    unfold rep
    split
    · simp
    · rw [List.length_cons]; have := rep_len g n (g s).2; omega
def okIns (i : InsM) : Prop := okI i.op ∧ okI i.a ∧ okI i.b ∧ okI i.c ∧ okI i.d ∧ okI i.e
theorem insR_ok (i : InsM) (h : okIns i) (r : List UInt8) : insR ⟨encI i ++ r, false⟩ = (i, ⟨r, false⟩) := by
  obtain ⟨h0, h1, h2, h3, h4, h5⟩ := h
  unfold insR encI encs
  simp only [List.map_cons, List.map_nil, List.flatten_cons, List.flatten_nil, List.append_assoc, List.nil_append]
  rw [numR_ok _ h0]; simp only
  rw [numR_ok _ h1]; simp only
  rw [numR_ok _ h2]; simp only
  rw [numR_ok _ h3]; simp only
  rw [numR_ok _ h4]; simp only
  rw [numR_ok _ h5]
theorem insR_inv {s s' : RSt} {i : InsM} (h : insR s = (i, s')) (hb : s'.bad = false) : s.bad = false ∧ okIns i ∧ s.b = encI i ++ s'.b := by
  unfold insR at h
  injection h with h1 h2
  subst h1; subst h2
  try simp only at hb
  obtain ⟨f1, f2, f3⟩ := numR_inv' hb
  obtain ⟨e1, e2, e3⟩ := numR_inv' f1
  obtain ⟨d1, d2, d3⟩ := numR_inv' e1
  obtain ⟨c1, c2, c3⟩ := numR_inv' d1
  obtain ⟨b1, b2, b3⟩ := numR_inv' c1
  obtain ⟨a1, a2, a3⟩ := numR_inv' b1
  refine ⟨a1, ⟨a2, b2, c2, d2, e2, f2⟩, ?_⟩
  unfold encI encs
  simp only [List.map_cons, List.map_nil, List.flatten_cons, List.flatten_nil, List.append_assoc, List.nil_append]
  rw [← f3, ← e3, ← d3, ← c3, ← b3, ← a3]
def okFn (f : FnM) : Prop := (f.name.size : Int) ≤ 9223372036854775807 ∧ okI f.params ∧ okI f.slots ∧ okI f.caps ∧ ∀ i ∈ f.ins, okIns i
theorem enc7_ne (u : Nat) : 1 ≤ (enc7 u).length := enc7_pos u
theorem encN_pos (n : Int) : 1 ≤ (encN n).length := enc7_pos _
theorem flat_len {α : Type} (enc : α → List UInt8) (h : ∀ x, 1 ≤ (enc x).length) : ∀ l : List α, l.length ≤ ((l.map enc).flatten).length
  | [] => by simp
  | x :: l => by
    have := flat_len enc h l
    have hx := h x
    rw [List.map_cons, List.flatten_cons, List.length_append, List.length_cons]; omega
theorem encI_pos (i : InsM) : 1 ≤ (encI i).length := by
  unfold encI encs
  simp only [List.map_cons, List.flatten_cons, List.length_append]
  have := encN_pos i.op; omega
theorem encT_pos (s : ByteArray) : 1 ≤ (encT s).length := by
  unfold encT; rw [List.length_append]; have := encN_pos (s.size : Int); omega
theorem encF_pos (f : FnM) : 1 ≤ (encF f).length := by
  unfold encF; rw [List.length_append]; have := encT_pos f.name; omega
theorem fnR_ok (f : FnM) (h : okFn f) (hn : okI (f.ins.length : Int)) (r : List UInt8) : fnR ⟨encF f ++ r, false⟩ = (f, ⟨r, false⟩) := by
  obtain ⟨h0, h1, h2, h3, h4⟩ := h
  unfold fnR encF encs
  simp only [List.map_cons, List.map_nil, List.flatten_cons, List.flatten_nil, List.append_assoc, List.nil_append]
  rw [txtR_ok _ _ (by omega)]; simp only
  rw [numR_ok _ h1]; simp only
  rw [numR_ok _ h2]; simp only
  rw [numR_ok _ h3]; simp only
  rw [cntR_ok _ _ (by have := flat_len encI encI_pos f.ins; rw [List.length_append]; omega) hn]
  simp only [Int.toNat_natCast]
  rw [rep_ok f.ins r (fun i hi r => insR_ok i (h4 i hi) r)]
theorem fnR_inv {s s' : RSt} {f : FnM} (h : fnR s = (f, s')) (hb : s'.bad = false) : s.bad = false ∧ (okFn f ∧ okI (f.ins.length : Int)) ∧ s.b = encF f ++ s'.b := by
  unfold fnR at h
  injection h with h1 h2
  subst h1; subst h2
  try simp only at hb
  obtain ⟨g1, g2, g3, g4⟩ := rep_inv' (P := okIns) (enc := encI) (fun s x s' h hb => insR_inv h hb) _ _ hb
  obtain ⟨e1, e2, e3, e4, e5⟩ := cntR_inv' g1
  obtain ⟨d1, d2, d3⟩ := numR_inv' e1
  obtain ⟨c1, c2, c3⟩ := numR_inv' d1
  obtain ⟨b1, b2, b3⟩ := numR_inv' c1
  obtain ⟨a1, a2, a3⟩ := txtR_inv' b1
  have hlen : ((rep insR (cntR (numR (numR (numR (txtR s).2).2).2).2).1.toNat (cntR (numR (numR (numR (txtR s).2).2).2).2).2).1.length : Int) = (cntR (numR (numR (numR (txtR s).2).2).2).2).1 := by rw [g2]; omega
  refine ⟨a1, ⟨⟨a2, b2, c2, d2, g3⟩, by simp only; rw [hlen]; exact e2⟩, ?_⟩
  unfold encF encs
  simp only [List.map_cons, List.map_nil, List.flatten_cons, List.flatten_nil, List.append_assoc, List.nil_append]
  rw [hlen, ← g4, ← e5, ← d3, ← c3, ← b3, ← a3]
def okCode (c : CodeM) : Prop := (∀ f ∈ c.funcs, okFn f ∧ okI (f.ins.length : Int)) ∧ (∀ s ∈ c.texts, (s.size : Int) ≤ 9223372036854775807) ∧ okI (c.funcs.length : Int) ∧ okI (c.texts.length : Int)
theorem codeR_ok (c : CodeM) (h : okCode c) : codeR ⟨encC c, false⟩ = (c, ⟨[], false⟩) := by
  obtain ⟨h0, h1, h2, h3⟩ := h
  unfold codeR encC
  rw [cntR_ok _ _ (by have := flat_len encT encT_pos c.texts; rw [List.length_append]; omega) h3]
  simp only [Int.toNat_natCast]
  rw [rep_ok c.texts _ (fun s hs r => txtR_ok s r (by have := h1 s hs; omega))]
  simp only
  rw [cntR_ok _ _ (flat_len encF encF_pos c.funcs) h2]
  simp only [Int.toNat_natCast]
  have := rep_ok (g := fnR) (enc := encF) c.funcs [] (fun f hf r => fnR_ok f (h0 f hf).1 (h0 f hf).2 r)
  rw [List.append_nil] at this
  rw [this]
theorem codeR_inv {s s' : RSt} {c : CodeM} (h : codeR s = (c, s')) (hb : s'.bad = false) : okCode c ∧ s.b = encC c ++ s'.b := by
  unfold codeR at h
  injection h with h1 h2
  subst h1; subst h2
  try simp only at hb
  obtain ⟨g1, g2, g3, g4⟩ := rep_inv' (P := fun f => okFn f ∧ okI (f.ins.length : Int)) (enc := encF) (fun s x s' h hb => fnR_inv h hb) _ _ hb
  obtain ⟨e1, e2, e3, e4, e5⟩ := cntR_inv' g1
  obtain ⟨t1, t2, t3, t4⟩ := rep_inv' (P := fun t : ByteArray => (t.size : Int) ≤ 9223372036854775807) (enc := encT) (fun s x s' h hb => txtR_inv h hb) _ _ e1
  obtain ⟨a1, a2, a3, a4, a5⟩ := cntR_inv' t1
  have l1 : ((rep txtR (cntR s).1.toNat (cntR s).2).1.length : Int) = (cntR s).1 := by rw [t2]; omega
  have l2 : ((rep fnR (cntR (rep txtR (cntR s).1.toNat (cntR s).2).2).1.toNat (cntR (rep txtR (cntR s).1.toNat (cntR s).2).2).2).1.length : Int) = (cntR (rep txtR (cntR s).1.toNat (cntR s).2).2).1 := by rw [g2]; omega
  refine ⟨⟨g3, t3, by simp only; rw [l2]; exact e2, by simp only; rw [l1]; exact a2⟩, ?_⟩
  unfold encC
  simp only [List.append_assoc]
  rw [l1, l2, ← g4, ← e5, ← t4, ← a5]
/-! ### the sum -/
theorem sumGo_append : ∀ (l m : List UInt8) (s : Nat × Nat), sumGo s (l ++ m) = sumGo (sumGo s l) m
  | [], m, s => rfl
  | c :: l, m, s => by rw [List.cons_append]; simp only [sumGo]; exact sumGo_append l m _
theorem sumGo_lt : ∀ (l : List UInt8) (s : Nat × Nat), s.1 < 65521 → s.2 < 65521 → (sumGo s l).1 < 65521 ∧ (sumGo s l).2 < 65521
  | [], s, h1, h2 => ⟨h1, h2⟩
  | c :: l, s, h1, h2 => sumGo_lt l _ (Nat.mod_lt _ (by omega)) (Nat.mod_lt _ (by omega))
theorem sumM_lt (l : List UInt8) : sumM l < 4294967296 := by
  have := sumGo_lt l (1, 0) (by simp) (by simp)
  unfold sumM; omega
theorem sumGo_fst : ∀ (l : List UInt8) (s t : Nat × Nat) (d : Nat), (s.1 + d) % 65521 = t.1 % 65521 → ((sumGo s l).1 + d) % 65521 = (sumGo t l).1 % 65521
  | [], s, t, d, h => h
  | c :: l, s, t, d, h => by
    refine sumGo_fst l _ _ d ?_
    simp only
    omega
/-- One byte turned turns the sum. -/
theorem sum_turned (a b : List UInt8) (c d : UInt8) (h : c ≠ d) : sumM (a ++ c :: b) ≠ sumM (a ++ d :: b) := by
  have hcd : c.toNat ≠ d.toNat := fun e => h (UInt8.toNat_inj.1 e)
  have hc := UInt8.toNat_lt c
  have hd := UInt8.toNat_lt d
  have h0 := sumGo_lt a (1, 0) (by simp) (by simp)
  have key : ∀ (c d : UInt8), c.toNat < d.toNat → (sumGo (1, 0) (a ++ c :: b)).1 ≠ (sumGo (1, 0) (a ++ d :: b)).1 := by
    intro c d hlt
    have hd := UInt8.toNat_lt d
    rw [sumGo_append, sumGo_append]
    simp only [sumGo]
    have h1 := sumGo_fst b (((sumGo (1, 0) a).1 + c.toNat) % 65521, ((sumGo (1, 0) a).2 + ((sumGo (1, 0) a).1 + c.toNat) % 65521) % 65521) (((sumGo (1, 0) a).1 + d.toNat) % 65521, ((sumGo (1, 0) a).2 + ((sumGo (1, 0) a).1 + d.toNat) % 65521) % 65521) (d.toNat - c.toNat) (by simp only; omega)
    have h2 := sumGo_lt b (((sumGo (1, 0) a).1 + c.toNat) % 65521, ((sumGo (1, 0) a).2 + ((sumGo (1, 0) a).1 + c.toNat) % 65521) % 65521) (Nat.mod_lt _ (by omega)) (Nat.mod_lt _ (by omega))
    intro e
    rw [← e] at h1
    omega
  intro e
  have e1 : (sumGo (1, 0) (a ++ c :: b)).1 = (sumGo (1, 0) (a ++ d :: b)).1 := by
    have h1 := sumGo_lt (a ++ c :: b) (1, 0) (by simp) (by simp)
    have h2 := sumGo_lt (a ++ d :: b) (1, 0) (by simp) (by simp)
    unfold sumM at e; omega
  rcases Nat.lt_or_gt_of_ne hcd with hlt | hlt
  · exact key c d hlt e1
  · exact key d c hlt e1.symm
theorem beV_be4 (s : Nat) (h : s < 4294967296) : beV (be4 s) = s := by
  unfold beV be4
  simp only [List.foldl_cons, List.foldl_nil, UInt8.toNat_ofNat']
  omega
theorem be4_beV (a b c d : UInt8) : be4 (beV [a, b, c, d]) = [a, b, c, d] := by
  have ha := UInt8.toNat_lt a; have hb := UInt8.toNat_lt b; have hc := UInt8.toNat_lt c; have hd := UInt8.toNat_lt d
  unfold beV be4
  simp only [List.foldl_cons, List.foldl_nil]
  have k : ∀ (x : UInt8) (n : Nat), n % 256 = x.toNat → UInt8.ofNat n = x := by
    intro x n hn
    apply UInt8.toNat_inj.1
    rw [UInt8.toNat_ofNat', hn]
  rw [k a _ (by omega), k b _ (by omega), k c _ (by omega), k d _ (by omega)]
theorem beV_turned (a b : List UInt8) (c d : UInt8) (h : c ≠ d) : beV (a ++ c :: b) ≠ beV (a ++ d :: b) := by
  have hcd : c.toNat ≠ d.toNat := fun e => h (UInt8.toNat_inj.1 e)
  have key : ∀ (b : List UInt8) (s t : Nat), s ≠ t → b.foldl (fun s c => s * 256 + c.toNat) s ≠ b.foldl (fun s c => s * 256 + c.toNat) t := by
    intro b
    induction b with
    | nil => intro s t h; exact h
    | cons x b ih => intro s t h; exact ih _ _ (by show s * 256 + x.toNat ≠ t * 256 + x.toNat; omega)
  unfold beV
  rw [List.foldl_append, List.foldl_append, List.foldl_cons, List.foldl_cons]
  exact key b _ _ (by omega)
/-! ### the laws -/
theorem pack_len (c : CodeM) : (packB c).length = (headB ++ encC c).length + 4 := by unfold packB; rw [List.length_append]; rfl
theorem pack_parts (c : CodeM) : (packB c).take ((packB c).length - 4) = headB ++ encC c ∧ (packB c).drop ((packB c).length - 4) = be4 (sumM (headB ++ encC c)) := by
  rw [pack_len, Nat.add_sub_cancel]
  unfold packB
  exact ⟨List.take_left, List.drop_left⟩
theorem unpack_pack (c : CodeM) (h : okCode c) (hs : (soundM c).1 = 0) : unpackM (packB c) = (c, 0) := by
  obtain ⟨p1, p2⟩ := pack_parts c
  have hl := pack_len c
  have hh : (headB ++ encC c).length = 5 + (encC c).length := by rw [List.length_append]; rfl
  unfold unpackM
  rw [if_neg, p1, p2, beV_be4 _ (sumM_lt _), if_neg (by simp)]
  · have e : (headB ++ encC c).drop 5 = encC c := rfl
    rw [e, codeR_ok c h, if_neg (by simp), if_neg (by simp [hs])]
  · have e : (packB c).take 5 = headB := by unfold packB; rw [List.append_assoc]; rfl
    rw [e]; simp; omega
theorem pack_unpack {l : List UInt8} {c : CodeM} (h : unpackM l = (c, 0)) : okCode c ∧ (soundM c).1 = 0 ∧ packB c = l := by
  unfold unpackM at h
  split at h
  · injection h with _ h; cases h
  rename_i h1
  split at h
  · injection h with _ h; cases h
  rename_i h2
  split at h
  · injection h with _ h; cases h
  rename_i h3
  split at h
  · injection h with _ h; cases h
  rename_i h4
  injection h with h _
  subst h
  have h3a : (codeR ⟨(l.take (l.length - 4)).drop 5, false⟩).2.bad = false := by
    cases hq : (codeR ⟨(l.take (l.length - 4)).drop 5, false⟩).2.bad with
    | false => rfl
    | true => exact absurd (.inl hq) h3
  have h3b : (codeR ⟨(l.take (l.length - 4)).drop 5, false⟩).2.b = [] := by
    apply List.eq_nil_of_length_eq_zero
    rcases Nat.eq_zero_or_pos (codeR ⟨(l.take (l.length - 4)).drop 5, false⟩).2.b.length with h | h
    · exact h
    · exact absurd (.inr h) h3
  obtain ⟨g1, g2⟩ := codeR_inv (s := ⟨(l.take (l.length - 4)).drop 5, false⟩) (c := (codeR ⟨(l.take (l.length - 4)).drop 5, false⟩).1) (s' := (codeR ⟨(l.take (l.length - 4)).drop 5, false⟩).2) rfl h3a
  refine ⟨g1, by simpa using h4, ?_⟩
  rw [h3b, List.append_nil] at g2
  simp only at g2
  have hlen : 9 ≤ l.length := by omega
  have htake : l.take 5 = headB := by
    rcases Classical.em (l.take 5 = headB) with h | h
    · exact h
    · exact absurd (.inr h) h1
  have e1 : l.take (l.length - 4) = headB ++ encC (codeR ⟨(l.take (l.length - 4)).drop 5, false⟩).1 := by
    have e0 : l.take (l.length - 4) = (l.take (l.length - 4)).take 5 ++ (l.take (l.length - 4)).drop 5 := (List.take_append_drop 5 _).symm
    have e3 : (l.take (l.length - 4)).take 5 = headB := by rw [List.take_take, Nat.min_eq_left (by omega), htake]
    rw [e3] at e0
    exact e0.trans (congrArg (headB ++ ·) g2)
  have e2 : be4 (sumM (l.take (l.length - 4))) = l.drop (l.length - 4) := by
    have hs : sumM (l.take (l.length - 4)) = beV (l.drop (l.length - 4)) := by
      rcases Classical.em (sumM (l.take (l.length - 4)) = beV (l.drop (l.length - 4))) with h | h
      · exact h
      · exact absurd h h2
    rw [hs]
    have hd : (l.drop (l.length - 4)).length = 4 := by rw [List.length_drop]; omega
    match l.drop (l.length - 4), hd with
    | [a, b, c, d], _ => exact be4_beV a b c d
  unfold packB
  rw [← e1, e2, List.take_append_drop]
theorem unpack_turned {a b : List UInt8} {x y : UInt8} {c : CodeM} (h : packB c = a ++ x :: b) (hxy : x ≠ y) : unpackM (a ++ y :: b) = (⟨[], []⟩, 6) ∨ unpackM (a ++ y :: b) = (⟨[], []⟩, 18) := by
  obtain ⟨p1, p2⟩ := pack_parts c
  have hl := pack_len c
  have hh : (headB ++ encC c).length = 5 + (encC c).length := by rw [List.length_append]; rfl
  have hlen : (a ++ y :: b).length = (packB c).length := by rw [h]; simp
  unfold unpackM
  split
  · exact .inl rfl
  · right
    rw [if_pos]
    rw [hlen]
    have hsum : sumM ((a ++ x :: b).take ((packB c).length - 4)) = beV ((a ++ x :: b).drop ((packB c).length - 4)) := by
      rw [← h, p1, p2, beV_be4 _ (sumM_lt _)]
    intro e
    rcases Nat.lt_or_ge a.length ((packB c).length - 4) with hlt | hge
    · have t : ∀ z : UInt8, (a ++ z :: b).take ((packB c).length - 4) = a ++ z :: b.take ((packB c).length - 4 - a.length - 1) ∧ (a ++ z :: b).drop ((packB c).length - 4) = b.drop ((packB c).length - 4 - a.length - 1) := by
        intro z
        obtain ⟨m, hm⟩ : ∃ m, (packB c).length - 4 = a.length + (m + 1) := ⟨(packB c).length - 4 - a.length - 1, by omega⟩
        rw [hm, show a.length + (m + 1) - a.length - 1 = m by omega]
        rw [List.take_append, List.drop_append, List.take_of_length_le (show a.length ≤ a.length + (m + 1) by omega), List.drop_eq_nil_of_le (show a.length ≤ a.length + (m + 1) by omega)]
        simp
      rw [(t x).1, (t x).2] at hsum
      rw [(t y).1, (t y).2] at e
      exact sum_turned a _ x y hxy (hsum.trans e.symm)
    · have t : ∀ z : UInt8, (a ++ z :: b).take ((packB c).length - 4) = a.take ((packB c).length - 4) ∧ (a ++ z :: b).drop ((packB c).length - 4) = a.drop ((packB c).length - 4) ++ z :: b := by
        intro z
        rw [List.take_append, List.drop_append]
        rw [show (packB c).length - 4 - a.length = 0 by omega]
        simp
      rw [(t x).1, (t x).2] at hsum
      rw [(t y).1, (t y).2] at e
      exact beV_turned _ b x y hxy (hsum.symm.trans e)
end Go.Proofs.Ytgonekmmbeedeaa
