/-
  scan.Quote: a text in quotes. No condition.
-/
import Derived.Test.YtgonekmmbeedeaaByte
namespace Go.Proofs.Ytgonekmmbeedeaa
open Go.RowKit

def escB (c : UInt8) : Option (List UInt8) :=
  if c = 34 ∨ c = 92 then some [92, c] else if c = 10 then some [92, 110] else if c = 9 then some [92, 116] else if 32 ≤ c.toNat ∧ c.toNat ≤ 126 then some [c] else none
def escs (l : List UInt8) : List UInt8 := l.flatMap fun c => (escB c).getD []
def okAll (l : List UInt8) : Prop := ∀ c ∈ l, escB c ≠ none
theorem escs_snoc (l : List UInt8) (c : UInt8) (r : List UInt8) (h : escB c = some r) : escs (l ++ [c]) = escs l ++ r := by simp [escs, h]
theorem escB_len (c : UInt8) : ((escB c).getD []).length ≤ 2 := by unfold escB; repeat' (split <;> try simp)
theorem escs_len : ∀ l : List UInt8, (escs l).length ≤ 2 * l.length
  | [] => by simp [escs]
  | c :: l => by
    have h1 := escB_len c
    have h2 := escs_len l
    simp only [escs, List.flatMap_cons, List.length_append, List.length_cons] at *
    omega
theorem qtake_snoc (s : ByteArray) (k : Nat) (h : k < s.size) : s.data.toList.take (k + 1) = s.data.toList.take k ++ [s[k]] := by
  rw [List.take_succ_eq_append_getElem (by simpa using h)]; rfl
theorem qtake_all (t : ByteArray) (k : Nat) (h : ¬ k < t.size) : t.data.toList.take k = t.data.toList := List.take_of_length_le (by rw [Array.length_toList]; exact Nat.le_of_not_lt h)
theorem okAll_snoc {l : List UInt8} {c : UInt8} (h : okAll l) (hc : escB c ≠ none) : okAll (l ++ [c]) := by
  intro x hx; rw [List.mem_append] at hx
  rcases hx with hx | hx
  · exact h x hx
  · obtain rfl : x = c := by simpa using hx
    exact hc
/-- The loop's state behind k bytes. -/
def QRel (s : ByteArray) (base : Nat) (w : World) (k : Nat) (v : Value) (wr : World) : Prop := OwnB wr base v (34 :: escs (s.data.toList.take k)) ∧ Below base w wr ∧ okAll (s.data.toList.take k)
theorem q_step {s : ByteArray} {base : Nat} {w : World} {k : Nat} {v v' : Value} {wr w' : World} (h : QRel s base w k v wr) (hk : k < s.size) (r : List UInt8) (hr : escB s[k] = some r) (h1 : OwnB w' base v' ((34 :: escs (s.data.toList.take k)) ++ r)) (h2 : Below base wr w') :
    QRel s base w (k + 1) v' w' := by
  refine ⟨?_, h.2.1.trans h2, ?_⟩
  · rw [qtake_snoc s k hk, escs_snoc _ _ r hr]; exact h1
  · rw [qtake_snoc s k hk]; exact okAll_snoc h.2.2 (by rw [hr]; simp)
theorem q_room {s : ByteArray} {k : Nat} (hs : s.size ≤ 200) : (34 :: escs (s.data.toList.take k)).length + 2 ≤ 140737488355328 ∧ (34 :: escs s.data.toList).length + 1 ≤ 140737488355328 := by
  have h1 := escs_len (s.data.toList.take k)
  have h0 := escs_len s.data.toList
  have h2 : (s.data.toList.take k).length ≤ s.data.toList.length := by rw [List.length_take]; omega
  have h3 : s.data.toList.length = s.size := Array.length_toList
  rw [h3] at h2 h0
  rw [List.length_cons, List.length_cons]; omega

set_option maxHeartbeats 400000 in
theorem quote_long (s : ByteArray) (w : World) (h : 200 < s.size) (hm : s.size ≤ 9223372036854775807) :
    Calls Try.prog 34 #[.string s] w fun e w' => e = .returned (.tuple #[.string ⟨#[]⟩, .int .i64 1]) ∧ Kp w w' := by
  go_enter Try.func34, Try.ntmps34
  go_wp2
  go_ret2
  exact ⟨rfl, Kp.refl _⟩

/-- What Quote answers of a text of at most 200 bytes. -/
def QPost (s : ByteArray) (w : World) (e : Ending) (w' : World) : Prop :=
  (okAll s.data.toList ∧ e = .returned (.tuple #[.string ⟨(34 :: (escs s.data.toList ++ [34])).toArray⟩, .int .i64 0]) ∨ ¬ okAll s.data.toList ∧ e = .returned (.tuple #[.string ⟨#[]⟩, .int .i64 4])) ∧ Kp w w'
theorem q_bad {s : ByteArray} {k : Nat} (hk : k < s.size) (h : escB s[k] = none) : ¬ okAll s.data.toList := by
  intro hok
  exact hok s[k] (by show s.data[k]'_ ∈ _; simp) h
theorem q_fin {s : ByteArray} {base : Nat} {w : World} {k : Nat} {v : Value} {wr : World} (h : QRel s base w k v wr) (hk : ¬ k < s.size) : OwnB wr base v (34 :: escs s.data.toList) ∧ Below base w wr ∧ okAll s.data.toList := by
  have := h; unfold QRel at this; rw [qtake_all s k hk] at this; exact this

def QTests (c : UInt8) : Prop := ((c.toNat : Int) == 34) = false ∧ ((c.toNat : Int) == 92) = false ∧ ((c.toNat : Int) == 10) = false ∧ ((c.toNat : Int) == 9) = false
theorem esc_cases (c : UInt8) : (c = 34 ∧ escB c = some [92, 34]) ∨ (c = 92 ∧ escB c = some [92, 92]) ∨ (c = 10 ∧ escB c = some [92, 110]) ∨ (c = 9 ∧ escB c = some [92, 116]) ∨
    (QTests c ∧ (32 : Int) ≤ c.toNat ∧ (c.toNat : Int) ≤ 126 ∧ escB c = some [c]) ∨ (QTests c ∧ ((c.toNat : Int) < 32 ∨ (126 : Int) < c.toNat) ∧ escB c = none) := by
  have hn : ∀ n : Nat, n < 256 → c ≠ UInt8.ofNat n → ((c.toNat : Int) == n) = false := by
    intro n hn h
    rw [beq_eq_false_iff_ne]
    intro h2
    apply h
    apply UInt8.toNat_inj.1
    rw [UInt8.toNat_ofNat']; omega
  by_cases h1 : c = 34
  · subst h1; exact .inl ⟨rfl, rfl⟩
  by_cases h2 : c = 92
  · subst h2; exact .inr (.inl ⟨rfl, rfl⟩)
  by_cases h3 : c = 10
  · subst h3; exact .inr (.inr (.inl ⟨rfl, rfl⟩))
  by_cases h4 : c = 9
  · subst h4; exact .inr (.inr (.inr (.inl ⟨rfl, rfl⟩)))
  have ht : QTests c := ⟨hn 34 (by omega) h1, hn 92 (by omega) h2, hn 10 (by omega) h3, hn 9 (by omega) h4⟩
  by_cases h5 : 32 ≤ c.toNat ∧ c.toNat ≤ 126
  · exact .inr (.inr (.inr (.inr (.inl ⟨ht, by omega, by omega, by simp [escB, h1, h2, h3, h4, h5]⟩))))
  · exact .inr (.inr (.inr (.inr (.inr ⟨ht, by omega, by unfold escB; rw [if_neg (by simp [h1, h2]), if_neg h3, if_neg h4, if_neg h5]⟩))))
theorem q_rel {s : ByteArray} {base : Nat} {w : World} {k : Nat} {v : Value} {wr : World} (hk : k < s.size) (h : QRel s base w (k + 1) v wr) : ∃ k' : Nat, k' ≤ s.size ∧ Value.int .i64 ((k : Int) + 1) = .int .i64 k' ∧ QRel s base w k' v wr := ⟨k + 1, by omega, by simp, h⟩

set_option maxHeartbeats 4000000 in
theorem quote_short (s : ByteArray) (w : World) (h : s.size ≤ 200) :
    Calls Try.prog 34 #[.string s] w (QPost s w) := by
  go_enter Try.func34, Try.ntmps34
  go_wp2
  go_loopw [4, 5] (fun v i wr => ∃ k : Nat, k ≤ s.size ∧ i = .int .i64 k ∧ QRel s w.heap.size w k v wr) (fun _ i _ => s.size - (intOf i).toNat)
  case atStart => exact ⟨0, by omega, rfl, ⟨OwnB.lit #[.int .u8 34] [34] rfl (Nat.le_refl _) (by decide) 1 rfl, (Kp.refl _).alloc _, by intro c hc; simp at hc⟩⟩
  case round =>
    obtain ⟨k, hk, rfl, hq⟩ := hrel
    have hroom := q_room (k := k) h
    have HQ := hid hq
    obtain ⟨hown, hbel, hok⟩ := hq
    clear hok
    have hsz := hbel.size
    by_cases hlt : k < s.size
    · have hcs := esc_cases s[k]
      obtain ⟨c, hc⟩ : ∃ c, s[k] = c := ⟨_, rfl⟩
      have HC := hid hc
      rw [hc] at hcs
      rcases hcs with ⟨rfl, he⟩ | ⟨rfl, he⟩ | ⟨rfl, he⟩ | ⟨rfl, he⟩ | ⟨⟨t1, t2, t3, t4⟩, r1, r2, he⟩ | ⟨⟨t1, t2, t3, t4⟩, r1 | r1, he⟩
      · clear he
        go_wp2_with (at_builtin; go_must (refine app_bytes rfl (.tmp 27) (.tmp 29) rfl hown rfl _ _ [92, 34] 2 2 rfl rfl rfl hroom.1 hsz ?_); intro v1 w1 hown1 hg1 hb1)
        go_roundw
        case rel => exact q_rel hlt (q_step HQ.out hlt [92, 34] (by rw [HC.out]; rfl) hown1 hb1)
        case measure => simp [intOf]; omega
      · clear he
        go_wp2_with (at_builtin; go_must (refine app_bytes rfl (.tmp 27) (.tmp 29) rfl hown rfl _ _ [92, 92] 2 2 rfl rfl rfl hroom.1 hsz ?_); intro v1 w1 hown1 hg1 hb1)
        go_roundw
        case rel => exact q_rel hlt (q_step HQ.out hlt [92, 92] (by rw [HC.out]; rfl) hown1 hb1)
        case measure => simp [intOf]; omega
      · clear he
        go_wp2_with (at_builtin; go_must (refine app_bytes rfl (.tmp 34) (.tmp 35) rfl hown rfl _ _ [92, 110] 2 2 rfl rfl rfl hroom.1 hsz ?_); intro v1 w1 hown1 hg1 hb1)
        go_roundw
        case rel => exact q_rel hlt (q_step HQ.out hlt [92, 110] (by rw [HC.out]; rfl) hown1 hb1)
        case measure => simp [intOf]; omega
      · clear he
        go_wp2_with (at_builtin; go_must (refine app_bytes rfl (.tmp 40) (.tmp 41) rfl hown rfl _ _ [92, 116] 2 2 rfl rfl rfl hroom.1 hsz ?_); intro v1 w1 hown1 hg1 hb1)
        go_roundw
        case rel => exact q_rel hlt (q_step HQ.out hlt [92, 116] (by rw [HC.out]; rfl) hown1 hb1)
        case measure => simp [intOf]; omega
      · have HE := hid he; clear he
        have hroom1 : (34 :: escs (s.data.toList.take k)).length + 1 ≤ 140737488355328 := by omega
        go_wp2_with (at_builtin; go_must (refine app_bytes rfl (.tmp 50) (.tmp 52) rfl hown rfl _ _ [c] 1 1 rfl rfl rfl hroom1 hsz ?_); intro v1 w1 hown1 hg1 hb1)
        go_roundw
        case rel => exact q_rel hlt (q_step HQ.out hlt [c] (by rw [HC.out]; exact HE.out) hown1 hb1)
        case measure => simp [intOf]; omega
      all_goals
        have HB := hid (q_bad hlt (by rw [hc]; exact he))
        clear he hown hroom
        go_wp2
        go_ret2
        exact ⟨.inr ⟨HB.out, rfl⟩, hbel⟩
    · have hf := q_fin HQ.out hlt
      clear hown
      obtain ⟨hown, _, hok⟩ := hf
      have HO := hid hok
      clear hok
      go_wp2_with (at_builtin; go_must (refine app_bytes rfl (.tmp 54) (.tmp 55) rfl hown rfl _ _ [34] 1 1 rfl rfl rfl hroom.2 hsz ?_); intro v1 w1 hown1 hg1 hb1; have hcv := hown1.str)
      go_ret2
      exact ⟨.inl ⟨HO.out, rfl⟩, hbel.trans hb1⟩

end Go.Proofs.Ytgonekmmbeedeaa
