/-
  scan.Quote and scan.Unquote at every text: their contracts, and that they undo each other. No condition but the reach of a text.
-/
import Derived.Test.YtgonekmmbeedeaaUnquote
namespace Go.Proofs.Ytgonekmmbeedeaa
open Go.RowKit

theorem unq_escs : ∀ l : List UInt8, okAll l → unq (escs l) = some l
  | [], _ => rfl
  | c :: l, h => by
    have ih := unq_escs l (fun x hx => h x (List.mem_cons_of_mem _ hx))
    have hc := h c (List.mem_cons_self ..)
    have e : escs (c :: l) = (escB c).getD [] ++ escs l := by simp [escs]
    rw [e]
    rcases esc_cases c with ⟨rfl, he⟩ | ⟨rfl, he⟩ | ⟨rfl, he⟩ | ⟨rfl, he⟩ | ⟨ht, r1, r2, he⟩ | ⟨ht, r, he⟩
    · rw [he]; show unq (92 :: 34 :: escs l) = _; rw [unq_esc 34 34 _ rfl, ih]; rfl
    · rw [he]; show unq (92 :: 92 :: escs l) = _; rw [unq_esc 92 92 _ rfl, ih]; rfl
    · rw [he]; show unq (92 :: 110 :: escs l) = _; rw [unq_esc 110 10 _ rfl, ih]; rfl
    · rw [he]; show unq (92 :: 116 :: escs l) = _; rw [unq_esc 116 9 _ rfl, ih]; rfl
    · rw [he]; show unq (c :: escs l) = _
      rcases u_tests c with ⟨hb, t1, t2, t3, ⟨rfl, t4⟩ | ⟨hne, t4⟩⟩ | ⟨hb, rfl | ⟨t1, t2 | ⟨t2, t3⟩⟩⟩
      · exact absurd ht.2.1 (by decide)
      · rw [unq_plain c _ hb hne, ih]; rfl
      · exact absurd ht.1 (by decide)
      · omega
      · omega
    · exact absurd he hc
theorem escs_unq : ∀ (n : Nat) (l o : List UInt8), l.length ≤ n → unq l = some o → okAll o ∧ escs o = l
  | 0, l, o, hn, h => by
    obtain rfl : l = [] := List.eq_nil_of_length_eq_zero (by omega)
    cases h; exact ⟨fun c hc => by simp at hc, rfl⟩
  | n + 1, [], o, hn, h => by cases h; exact ⟨fun c hc => by simp at hc, rfl⟩
  | n + 1, c :: r, o, hn, h => by
    have hcons : ∀ (x : UInt8) (e o2 l2 : List UInt8), escB x = some e → okAll o2 ∧ escs o2 = l2 → okAll (x :: o2) ∧ escs (x :: o2) = e ++ l2 := by
      intro x e o2 l2 he ⟨h1, h2⟩
      refine ⟨fun y hy => ?_, by rw [← h2]; simp [escs, he]⟩
      rcases List.mem_cons.1 hy with rfl | hy
      · rw [he]; simp
      · exact h1 y hy
    rcases u_tests c with ⟨hb, t1, t2, t3, ⟨rfl, t4⟩ | ⟨hne, t4⟩⟩ | ⟨hb, hx⟩
    · match r, hn, h with
      | [], hn, h => exact absurd h (by simp [unq])
      | d :: r, hn, h =>
        rcases unesc_cases d with ⟨rfl, hx⟩ | ⟨rfl, hx⟩ | ⟨rfl, hx⟩ | ⟨rfl, hx⟩ | ⟨hd, hx⟩
        · rw [unq_esc _ _ _ hx] at h
          obtain ⟨o2, h2, rfl⟩ := Option.map_eq_some_iff.1 h
          exact hcons 10 [92, 110] o2 r rfl (escs_unq n r o2 (by simp at hn; omega) h2)
        · rw [unq_esc _ _ _ hx] at h
          obtain ⟨o2, h2, rfl⟩ := Option.map_eq_some_iff.1 h
          exact hcons 9 [92, 116] o2 r rfl (escs_unq n r o2 (by simp at hn; omega) h2)
        · rw [unq_esc _ _ _ hx] at h
          obtain ⟨o2, h2, rfl⟩ := Option.map_eq_some_iff.1 h
          exact hcons 34 [92, 34] o2 r rfl (escs_unq n r o2 (by simp at hn; omega) h2)
        · rw [unq_esc _ _ _ hx] at h
          obtain ⟨o2, h2, rfl⟩ := Option.map_eq_some_iff.1 h
          exact hcons 92 [92, 92] o2 r rfl (escs_unq n r o2 (by simp at hn; omega) h2)
        · rw [unq_noesc d _ hx] at h; cases h
    · rw [unq_plain c _ hb hne] at h
      obtain ⟨o2, h2, rfl⟩ := Option.map_eq_some_iff.1 h
      have hr := escs_unq n r o2 (by simp at hn; omega) h2
      rcases esc_cases c with ⟨rfl, he⟩ | ⟨rfl, he⟩ | ⟨rfl, he⟩ | ⟨rfl, he⟩ | ⟨ht, r1, r2, he⟩ | ⟨ht, r3, he⟩
      · exact absurd t1 (by decide)
      · exact absurd rfl hne
      · exact absurd t2 (by decide)
      · exact absurd t2 (by decide)
      · exact hcons _ _ _ _ he hr
      · omega
    · rw [unq_bad c _ hb] at h; cases h

set_option maxHeartbeats 1000000 in
theorem unquote_not (s : ByteArray) (w : World) (hreach : s.size ≤ 140737488351232) (h : ∀ h2 : 2 ≤ s.size, ¬ (s[0]'(by omega) = 34 ∧ s[s.size - 1]'(by omega) = 34)) :
    Calls Try.prog 92 #[.string s] w fun e w' => e = .returned (.tuple #[.string ⟨#[]⟩, .int .i64 4]) ∧ Kp w w' := by
  have hn : ∀ c : UInt8, c ≠ 34 → ((c.toNat : Int) == 34) = false ∧ ((c.toNat : Int) != 34) = true := by
    intro c h
    have : ((c.toNat : Int) == 34) = false := by
      rw [beq_eq_false_iff_ne]
      intro h2; apply h; apply UInt8.toNat_inj.1; show c.toNat = 34; omega
    exact ⟨this, by rw [bne, this]; rfl⟩
  by_cases h2 : 2 ≤ s.size
  · have h := h h2
    by_cases h0 : s[0]'(by omega) = 34
    · obtain ⟨t0, t1⟩ := hn _ (fun e => h ⟨h0, e⟩)
      clear h hn
      go_enter Try.func92, Try.ntmps92
      go_wp2
      go_ret2
      exact ⟨rfl, Kp.refl _⟩
    · obtain ⟨t0, t1⟩ := hn _ h0
      clear h hn
      go_enter Try.func92, Try.ntmps92
      go_wp2
      go_ret2
      exact ⟨rfl, Kp.refl _⟩
  · clear h hn
    go_enter Try.func92, Try.ntmps92
    go_wp2
    go_ret2
    exact ⟨rfl, Kp.refl _⟩

theorem mkb_get (l : List UInt8) (k : Nat) (h : k < (⟨l.toArray⟩ : ByteArray).size) : (⟨l.toArray⟩ : ByteArray)[k] = l[k]'(by simpa [ByteArray.size] using h) := by
  show (l.toArray)[k]'_ = _
  simp
/-- Unquote of a text in quotes, told by its bytes. -/
theorem unquote_mk (l : List UInt8) (w : World) (hl : l.length + 2 ≤ 140737488351232) :
    Calls Try.prog 92 #[.string ⟨(34 :: (l ++ [34])).toArray⟩] w (UPost ⟨l.toArray⟩ w) := by
  have hsz : (⟨(34 :: (l ++ [34])).toArray⟩ : ByteArray).size = l.length + 2 := by simp [ByteArray.size]
  refine unquote_in _ _ w (by rw [hsz]; omega) (by rw [hsz]; exact hl) ?_ ?_ ?_ (by rw [hsz]; simp [ByteArray.size])
  · rw [mkb_get]; rfl
  · rw [mkb_get]; simp [hsz]
  · rw [Lib.extract_eq, hsz]; simp
/-- A text in quotes is told by what stands between them. -/
theorem quoted_form (s : ByteArray) (h2 : 2 ≤ s.size) (h0 : s[0]'(by omega) = 34) (h1 : s[s.size - 1]'(by omega) = 34) : ∃ l : List UInt8, s = ⟨(34 :: (l ++ [34])).toArray⟩ := by
  obtain ⟨⟨l0⟩⟩ := s
  have hlen : (⟨⟨l0⟩⟩ : ByteArray).size = l0.length := rfl
  match l0, h2, h0, h1 with
  | [], h2, _, _ => simp [ByteArray.size] at h2
  | c :: r, h2, h0, h1 =>
    rcases List.eq_nil_or_concat r with rfl | ⟨l, d, rfl⟩
    · simp [ByteArray.size] at h2
    · refine ⟨l, ?_⟩
      have e0 : c = 34 := h0
      have e1 : d = 34 := by
        rw [mkb_get] at h1
        simpa [ByteArray.size] using h1
      subst e0; subst e1; simp
end Go.Proofs.Ytgonekmmbeedeaa
