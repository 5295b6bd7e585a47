/-
  scan.Unquote: what a text in quotes says. No condition but the reach of a text.
-/
import Derived.Test.YtgonekmmbeedeaaQuote
import Derived.Test.YtgonekmmbeedeaaShelf
namespace Go.Proofs.Ytgonekmmbeedeaa
open Go.RowKit

def unesc (d : UInt8) : Option UInt8 := if d = 110 then some 10 else if d = 116 then some 9 else if d = 34 then some 34 else if d = 92 then some 92 else none
def badU (c : UInt8) : Bool := c == 34 || decide (c.toNat < 32) || decide (126 < c.toNat)
def unq : List UInt8 → Option (List UInt8)
  | [] => some []
  | [c] => if badU c then none else if c = 92 then none else some [c]
  | c :: d :: r => if badU c then none else if c = 92 then (match unesc d with | none => none | some x => (unq r).map (x :: ·)) else (unq (d :: r)).map (c :: ·)
theorem unq_bad (c : UInt8) (r : List UInt8) (h : badU c = true) : unq (c :: r) = none := by
  cases r <;> simp [unq, h]
theorem unq_plain (c : UInt8) (r : List UInt8) (h : badU c = false) (h2 : c ≠ 92) : unq (c :: r) = (unq r).map (c :: ·) := by
  cases r <;> simp [unq, h, h2]
theorem unq_end (r : List UInt8) (h : r = []) : unq (92 :: r) = none := by subst h; rfl
theorem unq_esc (d x : UInt8) (r : List UInt8) (h : unesc d = some x) : unq (92 :: d :: r) = (unq r).map (x :: ·) := by
  have hb : badU 92 = false := by decide
  simp [unq, h, hb]
theorem unq_noesc (d : UInt8) (r : List UInt8) (h : unesc d = none) : unq (92 :: d :: r) = none := by
  have hb : badU 92 = false := by decide
  simp [unq, h, hb]
/-- What is left to read at place k, and what has been read. -/
def UInv (t : ByteArray) (k : Nat) (bs : List UInt8) : Prop := unq t.data.toList = (unq (t.data.toList.drop k)).map (bs ++ ·) ∧ bs.length ≤ k
theorem udrop (t : ByteArray) (k : Nat) (h : k < t.size) : t.data.toList.drop k = t[k] :: t.data.toList.drop (k + 1) := by
  rw [List.drop_eq_getElem_cons (by rw [Array.length_toList]; exact h)]; rfl
theorem udrop_end (t : ByteArray) (k : Nat) (h : ¬ k < t.size) : t.data.toList.drop k = [] := List.drop_eq_nil_of_le (by rw [Array.length_toList]; exact Nat.le_of_not_lt h)
theorem map_map_app (o : Option (List UInt8)) (bs : List UInt8) (c : UInt8) : (o.map (c :: ·)).map (bs ++ ·) = o.map ((bs ++ [c]) ++ ·) := by cases o <;> simp
theorem u_plain {t : ByteArray} {k : Nat} {bs : List UInt8} (h : UInv t k bs) (hk : k < t.size) (c : UInt8) (hc : t[k] = c) (h1 : badU c = false) (h2 : c ≠ 92) : UInv t (k + 1) (bs ++ [c]) := by
  refine ⟨?_, by have := h.2; simp; omega⟩
  rw [h.1, udrop t k hk, hc, unq_plain c _ h1 h2, map_map_app]
theorem u_esc {t : ByteArray} {k : Nat} {bs : List UInt8} (h : UInv t k bs) (hk : k < t.size) (hk1 : k + 1 < t.size) (d x : UInt8) (hc : t[k] = 92) (hd : t[k + 1] = d) (hx : unesc d = some x) : UInv t (k + 2) (bs ++ [x]) := by
  refine ⟨?_, by have := h.2; simp; omega⟩
  rw [h.1, udrop t k hk, udrop t (k + 1) hk1, hc, hd, unq_esc d x _ hx, map_map_app]
theorem u_bad {t : ByteArray} {k : Nat} {bs : List UInt8} (h : UInv t k bs) (hk : k < t.size) (c : UInt8) (hc : t[k] = c) (h1 : badU c = true) : unq t.data.toList = none := by
  rw [h.1, udrop t k hk, hc, unq_bad c _ h1]; rfl
theorem u_noesc {t : ByteArray} {k : Nat} {bs : List UInt8} (h : UInv t k bs) (hk : k < t.size) (hk1 : k + 1 < t.size) (d : UInt8) (hc : t[k] = 92) (hd : t[k + 1] = d) (hx : unesc d = none) : unq t.data.toList = none := by
  rw [h.1, udrop t k hk, udrop t (k + 1) hk1, hc, hd, unq_noesc d _ hx]; rfl
theorem u_noend {t : ByteArray} {k : Nat} {bs : List UInt8} (h : UInv t k bs) (hk : k < t.size) (hk1 : ¬ k + 1 < t.size) (hc : t[k] = 92) : unq t.data.toList = none := by
  rw [h.1, udrop t k hk, hc, unq_end _ (udrop_end t (k + 1) hk1)]; rfl
theorem u_fin {t : ByteArray} {k : Nat} {bs : List UInt8} (h : UInv t k bs) (hk : ¬ k < t.size) : unq t.data.toList = some bs := by
  rw [h.1, udrop_end t k hk]; simp [unq]
theorem u_tests (c : UInt8) : (badU c = false ∧ ((c.toNat : Int) == 34) = false ∧ (32 : Int) ≤ c.toNat ∧ (c.toNat : Int) ≤ 126 ∧ ((c = 92 ∧ ((c.toNat : Int) == 92) = true) ∨ (c ≠ 92 ∧ ((c.toNat : Int) == 92) = false))) ∨
    (badU c = true ∧ (c = 34 ∨ ((c.toNat : Int) == 34) = false ∧ ((c.toNat : Int) < 32 ∨ ¬ (c.toNat : Int) < 32 ∧ (126 : Int) < c.toNat))) := by
  have hn : ∀ n : Nat, n < 256 → c ≠ UInt8.ofNat n → ((c.toNat : Int) == n) = false := by
    intro n hn h
    rw [beq_eq_false_iff_ne]
    intro h2
    apply h
    apply UInt8.toNat_inj.1
    rw [UInt8.toNat_ofNat']; omega
  by_cases h34 : c = 34
  · subst h34; exact .inr ⟨rfl, .inl rfl⟩
  · have e34 := hn 34 (by omega) h34
    by_cases hr : 32 ≤ c.toNat ∧ c.toNat ≤ 126
    · refine .inl ⟨?_, e34, by omega, by omega, ?_⟩
      · unfold badU; simp [h34]; omega
      · by_cases h92 : c = 92
        · subst h92; exact .inl ⟨rfl, rfl⟩
        · exact .inr ⟨h92, hn 92 (by omega) h92⟩
    · refine .inr ⟨?_, .inr ⟨e34, by omega⟩⟩
      unfold badU; simp; omega
theorem unesc_cases (d : UInt8) : (d = 110 ∧ unesc d = some 10) ∨ (d = 116 ∧ unesc d = some 9) ∨ (d = 34 ∧ unesc d = some 34) ∨ (d = 92 ∧ unesc d = some 92) ∨ ((d ≠ 110 ∧ d ≠ 116 ∧ d ≠ 34 ∧ d ≠ 92) ∧ unesc d = none) := by
  by_cases h1 : d = 110
  · subst h1; exact .inl ⟨rfl, rfl⟩
  by_cases h2 : d = 116
  · subst h2; exact .inr (.inl ⟨rfl, rfl⟩)
  by_cases h3 : d = 34
  · subst h3; exact .inr (.inr (.inl ⟨rfl, rfl⟩))
  by_cases h4 : d = 92
  · subst h4; exact .inr (.inr (.inr (.inl ⟨rfl, rfl⟩)))
  exact .inr (.inr (.inr (.inr ⟨⟨h1, h2, h3, h4⟩, by simp [unesc, h1, h2, h3, h4]⟩)))
def ixV (d : UInt8) : Int := Lib.indexByte [110, 116, 34, 92] d
theorem ix_any (d : UInt8) (w : World) : Calls Try.prog 93 #[.string ⟨#[110, 116, 34, 92]⟩, .int .u8 d.toNat] w fun e w' => e = .returned (.int .i64 (ixV d)) ∧ w = w' := by
  refine (Try.strings_IndexByte ⟨#[110, 116, 34, 92]⟩ d.toNat w).mono ?_
  rintro e w' ⟨rfl, rfl⟩
  refine ⟨ret_int ?_, rfl⟩
  have : ((d.toNat : Int).toNat.toUInt8) = d := by simp
  rw [this]; rfl
theorem uq_idx (i : Int) (k : Nat) (hik : i = k) (hk : k < 4) (x0 x1 x2 x3 v : Value) (hv : #[x0, x1, x2, x3][k]? = some v) (w : World) : Sem.run Try.prog (Instr.index 140 (.agg #[x0, x1, x2, x3]) (.int .i64 i)) w = .ok v w := by
  subst hik
  have hi : (Try.prog.info? 5).map (·.size) = some 1 := by kernel_rfl
  cases h : Try.prog.info? 5 with
  | none => rw [h] at hi; cases hi
  | some i =>
    rw [h] at hi
    exact run_index_arr Try.underlying140 (by unfold Program.plainKey; rw [Try.underlying5]) h (by unfold Program.cellsOf; rw [h]; simpa using hi) _ k hk _ hv w
theorem OwnB.form {w : World} {base : Nat} {v : Value} {bs : List UInt8} (h : OwnB w base v bs) : ∃ A c, v = .slice A bs.length c := by
  rcases h.2 with ⟨rfl, h0⟩ | ⟨g, cap, cur, rfl, _⟩
  · exact ⟨none, 0, by rw [h0]⟩
  · exact ⟨_, cap, rfl⟩
/-- What Unquote answers of the text t between the quotes. -/
def UPost (t : ByteArray) (w : World) (e : Ending) (w' : World) : Prop :=
  ((∃ o, unq t.data.toList = some o ∧ o.length ≤ 200 ∧ e = .returned (.tuple #[.string ⟨o.toArray⟩, .int .i64 0])) ∨ (∀ o, unq t.data.toList = some o → 200 < o.length) ∧ e = .returned (.tuple #[.string ⟨#[]⟩, .int .i64 4])) ∧ Kp w w'
theorem up_none {t : ByteArray} {w w' : World} {e : Ending} (h : unq t.data.toList = none) (he : e = .returned (.tuple #[.string ⟨#[]⟩, .int .i64 4])) (hk : Kp w w') : UPost t w e w' := ⟨.inr ⟨(fun o ho => absurd (h.symm.trans ho) (by simp)), he⟩, hk⟩
/-- The loop's state. -/
def URel (t : ByteArray) (w : World) (k : Nat) (v : Value) (wr : World) : Prop := ∃ bs, OwnB wr w.heap.size v bs ∧ Below w.heap.size w wr ∧ UInv t k bs
theorem u_rel1 {t : ByteArray} {w wr : World} {k : Nat} {v : Value} (hk : k < t.size) (h : URel t w (k + 1) v wr) : ∃ k' : Nat, k' ≤ t.size ∧ Value.int .i64 ((k : Int) + 1) = .int .i64 k' ∧ URel t w k' v wr := ⟨k + 1, by omega, by simp, h⟩
theorem u_rel2 {t : ByteArray} {w wr : World} {k : Nat} {v : Value} (hk : k + 1 < t.size) (h : URel t w (k + 2) v wr) : ∃ k' : Nat, k' ≤ t.size ∧ Value.int .i64 ((k : Int) + 1 + 1) = .int .i64 k' ∧ URel t w k' v wr := ⟨k + 2, by omega, by congr 1, h⟩

set_option maxRecDepth 20000 in
set_option maxHeartbeats 8000000 in
theorem unquote_in (s t : ByteArray) (w : World) (h2 : 2 ≤ s.size) (hreach : s.size ≤ 140737488351232) (hf : s[0]'(by omega) = 34) (hl : s[s.size - 1]'(by omega) = 34) (ht : s.extract 1 (s.size - 1) = t) (hts : t.size + 2 = s.size) :
    Calls Try.prog 92 #[.string s] w (UPost t w) := by
  go_enter Try.func92, Try.ntmps92
  go_wp2
  go_loopw [4, 6] (fun v i wr => ∃ k : Nat, k ≤ t.size ∧ i = .int .i64 k ∧ URel t w k v wr) (fun _ i _ => t.size - (intOf i).toNat)
  case atStart => exact ⟨0, by omega, rfl, [], OwnB.nil _ _, Below.refl _ _, by simp [UInv]⟩
  case round =>
    obtain ⟨k, hk, rfl, bs, hown, hbel, hinv⟩ := hrel
    have HI := hid hinv
    have hbl := hinv.2
    clear hinv
    have hsz := hbel.size
    have hroom : bs.length + 1 ≤ 140737488355328 := by omega
    by_cases hlt : k < t.size
    · obtain ⟨c, hc⟩ : ∃ c, t[k] = c := ⟨_, rfl⟩
      have HC := hid hc
      rcases u_tests c with ⟨hb, t1, t2, t3, ⟨rfl, t4⟩ | ⟨hne, t4⟩⟩ | ⟨hb, rfl | ⟨t1, t2 | ⟨t2, t3⟩⟩⟩
      · clear hb t1 t2 t3 t4
        by_cases hlt1 : k + 1 < t.size
        · obtain ⟨d, hd⟩ : ∃ d, t[k + 1] = d := ⟨_, rfl⟩
          have HD := hid hd
          rcases unesc_cases d with ⟨rfl, hx⟩ | ⟨rfl, hx⟩ | ⟨rfl, hx⟩ | ⟨rfl, hx⟩ | ⟨⟨d1, d2, d3, d4⟩, hx⟩
          · clear hx
            have hi := fun w => uq_idx 0 0 rfl (by omega) (.int .u8 10) (.int .u8 9) (.int .u8 34) (.int .u8 92) _ rfl w
            have hix := fun w => ix_any 110 w
            rw [show ixV 110 = 0 by decide] at hix
            have HX := hid hix; clear hix
            go_wp2_with (first | (go_at_call 93; go_must (refine (HX.out _).mono ?_); rintro e w' ⟨rfl, rfl⟩) | (at_builtin; go_must (refine app_bytes rfl (.tmp 66) (.tmp 68) rfl hown rfl _ _ [10] 1 1 rfl rfl rfl hroom hsz ?_); intro v1 w1 hown1 hg1 hb1))
            go_roundw
            case rel => exact u_rel2 hlt1 ⟨_, hown1, hbel.trans hb1, u_esc HI.out hlt hlt1 _ _ HC.out HD.out rfl⟩
            case measure => simp [intOf]; omega
          · clear hx
            have hi := fun w => uq_idx 1 1 rfl (by omega) (.int .u8 10) (.int .u8 9) (.int .u8 34) (.int .u8 92) _ rfl w
            have hix := fun w => ix_any 116 w
            rw [show ixV 116 = 1 by decide] at hix
            have HX := hid hix; clear hix
            go_wp2_with (first | (go_at_call 93; go_must (refine (HX.out _).mono ?_); rintro e w' ⟨rfl, rfl⟩) | (at_builtin; go_must (refine app_bytes rfl (.tmp 66) (.tmp 68) rfl hown rfl _ _ [9] 1 1 rfl rfl rfl hroom hsz ?_); intro v1 w1 hown1 hg1 hb1))
            go_roundw
            case rel => exact u_rel2 hlt1 ⟨_, hown1, hbel.trans hb1, u_esc HI.out hlt hlt1 _ _ HC.out HD.out rfl⟩
            case measure => simp [intOf]; omega
          · clear hx
            have hi := fun w => uq_idx 2 2 rfl (by omega) (.int .u8 10) (.int .u8 9) (.int .u8 34) (.int .u8 92) _ rfl w
            have hix := fun w => ix_any 34 w
            rw [show ixV 34 = 2 by decide] at hix
            have HX := hid hix; clear hix
            go_wp2_with (first | (go_at_call 93; go_must (refine (HX.out _).mono ?_); rintro e w' ⟨rfl, rfl⟩) | (at_builtin; go_must (refine app_bytes rfl (.tmp 66) (.tmp 68) rfl hown rfl _ _ [34] 1 1 rfl rfl rfl hroom hsz ?_); intro v1 w1 hown1 hg1 hb1))
            go_roundw
            case rel => exact u_rel2 hlt1 ⟨_, hown1, hbel.trans hb1, u_esc HI.out hlt hlt1 _ _ HC.out HD.out rfl⟩
            case measure => simp [intOf]; omega
          · clear hx
            have hi := fun w => uq_idx 3 3 rfl (by omega) (.int .u8 10) (.int .u8 9) (.int .u8 34) (.int .u8 92) _ rfl w
            have hix := fun w => ix_any 92 w
            rw [show ixV 92 = 3 by decide] at hix
            have HX := hid hix; clear hix
            go_wp2_with (first | (go_at_call 93; go_must (refine (HX.out _).mono ?_); rintro e w' ⟨rfl, rfl⟩) | (at_builtin; go_must (refine app_bytes rfl (.tmp 66) (.tmp 68) rfl hown rfl _ _ [92] 1 1 rfl rfl rfl hroom hsz ?_); intro v1 w1 hown1 hg1 hb1))
            go_roundw
            case rel => exact u_rel2 hlt1 ⟨_, hown1, hbel.trans hb1, u_esc HI.out hlt hlt1 _ _ HC.out HD.out rfl⟩
            case measure => simp [intOf]; omega
          · have hix := fun w => ix_any d w
            rw [show ixV d = -1 by simp [ixV, Lib.indexByte, Ne.symm d1, Ne.symm d2, Ne.symm d3, Ne.symm d4]] at hix
            have HX := hid hix
            have HN := hid (u_noesc HI.out hlt hlt1 d HC.out HD.out hx)
            clear hix hx d1 d2 d3 d4
            go_wp2_with (go_at_call 93; go_must (refine (HX.out _).mono ?_); rintro e w' ⟨rfl, rfl⟩)
            go_ret2
            exact up_none HN.out rfl hbel
        · have HN := hid (u_noend HI.out hlt hlt1 HC.out)
          go_wp2
          go_ret2
          exact up_none HN.out rfl hbel
      · have HB := hid hb; have HE := hid hne
        clear hb hne
        go_wp2_with (at_builtin; go_must (refine app_bytes rfl (.tmp 66) (.tmp 68) rfl hown rfl _ _ [c] 1 1 rfl rfl rfl hroom hsz ?_); intro v1 w1 hown1 hg1 hb1)
        go_roundw
        case rel => exact u_rel1 hlt ⟨_, hown1, hbel.trans hb1, u_plain HI.out hlt c HC.out HB.out HE.out⟩
        case measure => simp [intOf]; omega
      all_goals
        have HN := hid (u_bad HI.out hlt _ HC.out hb)
        clear hb hown hroom hbl
        go_wp2
        go_ret2
        exact up_none HN.out rfl hbel
    · obtain ⟨A, cp, rfl⟩ := hown.form
      have HF := hid (u_fin HI.out hlt)
      have hcv := hown.str
      by_cases hg : 200 < bs.length
      · go_wp2
        go_ret2
        exact ⟨.inr ⟨(fun o ho => by have := HF.out.symm.trans ho; cases this; exact hg), rfl⟩, hbel⟩
      · go_wp2
        go_ret2
        exact ⟨.inl ⟨bs, HF.out, by omega, rfl⟩, hbel⟩

end Go.Proofs.Ytgonekmmbeedeaa
