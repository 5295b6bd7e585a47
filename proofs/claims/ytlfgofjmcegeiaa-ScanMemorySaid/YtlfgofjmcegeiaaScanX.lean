/-
  Package scan: Show. Condition: none.
-/
import Derived.Test.YtlfgofjmcegeiaaScanV
import Derived.Test.YtlfgofjmcegeiaaBuild
namespace Go.Proofs.Ytlfgofjmcegeiaa
open Go.RowKit
set_option linter.unusedVariables false
set_option linter.unusedSimpArgs false

def sepB (b : Bool) (l : List TokenM) : Bool := match l.getLast? with | none => b | some p => decide (p.kind ≠ 6)
theorem show_snoc : ∀ (b : Bool) (l : List TokenM) (t : TokenM), showG b (l ++ [t]) = showG b l ++ ((if sepB b l then [32] else []) ++ (t.text.data.toList ++ (if t.kind = 6 then [10] else [])))
  | b, [], t => by
    cases b <;> by_cases h : t.kind = 6 <;> simp [showG, sepB, h]
  | b, p :: l, t => by
    rw [List.cons_append]
    have e : ∀ c : Bool, sepB c l = sepB b (p :: l) ∨ l = [] := by
      intro c
      cases l with
      | nil => exact .inr rfl
      | cons q r => left; unfold sepB; rw [List.getLast?_cons_cons]; cases h : (q :: r).getLast? with
        | none => simp at h
        | some x => rfl
    by_cases h6 : p.kind = 6
    · rw [showG, showG, if_pos h6, if_pos h6, show_snoc false l t]
      have e2 : sepB false l = sepB b (p :: l) := by
        rcases e false with e | rfl
        · exact e
        · unfold sepB; simp [h6]
      rw [e2]; simp
    · rw [showG, showG, if_neg h6, if_neg h6, show_snoc true l t]
      have e2 : sepB true l = sepB b (p :: l) := by
        rcases e true with e | rfl
        · exact e
        · unfold sepB; simp [h6]
      rw [e2]; simp
theorem show_len : ∀ (b : Bool) (l : List TokenM), (∀ t ∈ l, WholeP t) → (showG b l).length ≤ l.length * 8002
  | b, [], _ => by simp [showG]
  | b, t :: r, h => by
    have h1 := (h t (by simp)).size
    have e1 : t.text.data.size = t.text.size := rfl
    have h2 := show_len false r (fun x hx => h x (by simp [hx]))
    have h3 := show_len true r (fun x hx => h x (by simp [hx]))
    rw [List.length_cons]
    cases b
    · by_cases h6 : t.kind = 6
      · simp only [showG, if_pos h6, Bool.false_eq_true, if_false, List.nil_append, List.length_append, List.length_cons, Array.length_toList]; omega
      · simp only [showG, if_neg h6, Bool.false_eq_true, if_false, List.nil_append, List.length_append, Array.length_toList]; omega
    · by_cases h6 : t.kind = 6
      · simp only [showG, if_pos h6, if_true, List.length_append, List.length_cons, List.length_nil, Array.length_toList]; omega
      · simp only [showG, if_neg h6, if_true, List.length_append, List.length_cons, List.length_nil, Array.length_toList]; omega
theorem take_show {l : List TokenM} {k : Nat} {t : TokenM} (h : l[k]? = some t) : showG false (l.take (k + 1)) = showG false (l.take k) ++ ((if sepB false (l.take k) then [32] else []) ++ (t.text.data.toList ++ (if t.kind = 6 then [10] else []))) := by
  have e : l.take (k + 1) = l.take k ++ [t] := by rw [List.take_add_one, h]; rfl
  rw [e, show_snoc]
theorem last_take {l : List TokenM} {k : Nat} {p : TokenM} (h : l[k]? = some p) : sepB false (l.take (k + 1)) = decide (p.kind ≠ 6) := by
  have e : l.take (k + 1) = l.take k ++ [p] := by rw [List.take_add_one, h]; rfl
  unfold sepB
  rw [e]; simp
/-- What Show answers. -/
def ShowP (w : World) (l : List TokenM) (e : Ending) (w' : World) : Prop :=
  ((l.length ≤ 2000 ∧ (∀ t ∈ l, WholeP t) ∧ (showG false l).length ≤ 8000 ∧ e = .returned (.tuple #[.string ⟨(showG false l).toArray⟩, .int .i64 0])) ∨
   (∃ er : Int, 1 ≤ er ∧ e = .returned (.tuple #[.string ⟨#[]⟩, .int .i64 er]))) ∧ Kp w w'
theorem who_yes (t : TokenM) (w : World) (hs : t.text.size ≤ 140737488351232) (h : WholeP t) : Calls Try.prog 42 #[tokV t] w fun e w' => e = .returned (.bool true) ∧ Kp w w' := by
  refine (whole_any t w hs).mono ?_
  rintro e w' ⟨h1, h2⟩
  rcases h1 with ⟨_, h1⟩ | ⟨h3, _⟩
  · exact ⟨h1, h2⟩
  · exact absurd h h3
theorem who_no (t : TokenM) (w : World) (hs : t.text.size ≤ 140737488351232) (h : ¬ WholeP t) : Calls Try.prog 42 #[tokV t] w fun e w' => e = .returned (.bool false) ∧ Kp w w' := by
  refine (whole_any t w hs).mono ?_
  rintro e w' ⟨h1, h2⟩
  rcases h1 with ⟨h3, _⟩ | ⟨_, h1⟩
  · exact absurd h3 h
  · exact ⟨h1, h2⟩
theorem byte32 : ((32 : UInt8).toNat : Int) = 32 := rfl
theorem byte10 : ((10 : UInt8).toNat : Int) = 10 := rfl
theorem wb_any (c : UInt8) (n : Int) (hc : (c.toNat : Int) = n) (B b : Nat) (l : List UInt8) (w : World) (h : IsB w B b l) (hlen : l.length + 1 ≤ 140737488355328) (hBw : B ≤ w.heap.size) : Calls Try.prog 31 #[.pointer (some ⟨b, 0, none⟩), .int .u8 n] w fun e w' => e = .returned .nilIface ∧ IsB w' B b (l ++ [c]) ∧ Below B w w' ∧ OthB b w w' := by
  rw [← hc]; exact wbyte_any B b l c w h hlen hBw
/-- The state of Show's loop. -/
structure ShI (W : World) (bb : Nat) (l : List TokenM) (k : Nat) (wr : World) : Prop where
  b : IsB wr bb bb (showG false (l.take k))
  kp : Below bb W wr
  le : bb ≤ wr.heap.size
  all : ∀ t ∈ l.take k, WholeP t
theorem ShI.len {W : World} {bb : Nat} {l : List TokenM} {k : Nat} {wr : World} (h : ShI W bb l k wr) (hk : k ≤ 2000) : (showG false (l.take k)).length ≤ 16004000 := by
  have h1 := show_len false _ h.all
  have h2 : (l.take k).length ≤ k := by rw [List.length_take]; exact Nat.min_le_left _ _
  have : (l.take k).length * 8002 ≤ 2000 * 8002 := Nat.mul_le_mul_right _ (by omega)
  omega
theorem sh_round {W u : World} {bb k k1 n : Nat} {l : List TokenM} (hk : k + 1 = k1) (hl : k < n) (h : ShI W bb l (k + 1) u) : (∃ k' : Nat, k' ≤ n ∧ Value.int .i64 (k1 : Int) = .int .i64 (k' : Int) ∧ ShI W bb l k' u) ∧ n - (intOf (.int .i64 (k1 : Int))).toNat < n - (intOf (.int .i64 (k : Int))).toNat := by
  subst hk
  exact ⟨⟨k + 1, hl, rfl, h⟩, by simp only [intOf, Int.toNat_natCast]; omega⟩
set_option maxRecDepth 20000 in
set_option maxHeartbeats 8000000 in
theorem show_any (w : World) (v : Value) (l : List TokenM) (h : RdL CeToken 4 w v l) : Calls Try.prog 21 #[v] w (ShowP w l) := by
  have HR := hid h
  obtain ⟨A, cc, rfl, hcc⟩ := h.form
  clear h hcc
  by_cases hbig : 2000 < l.length
  · have i1 : (2000 : Int) < (l.length : Int) := by omega
    clear hbig
    go_enter Try.func21, Try.ntmps21
    go_wp2
    go_ret2
    exact ⟨.inr ⟨15, by omega, rfl⟩, Kp.refl _⟩
  have i1 : ¬ (2000 : Int) < (l.length : Int) := by omega
  have HLN := hid (show l.length ≤ 2000 by omega)
  have HB0 := hid (IsB.new w)
  have HKA := hid (show Kp w (w.alloc (.cells #[.pointer none, .slice none 0 0] 72)) from (Kp.refl _).alloc _)
  clear hbig
  go_enter Try.func21, Try.ntmps21
  go_wp2_with fail
  generalize (w.alloc (.cells #[.pointer none, .slice none 0 0] 72)) = W at HB0 HKA ⊢
  obtain ⟨bb, hbb⟩ : ∃ bb, w.heap.size = bb := ⟨_, rfl⟩
  rw [hbb] at HB0 ⊢
  have HBB := hid hbb
  clear hbb
  go_loopw [12] (fun i wr => ∃ k : Nat, k ≤ l.length ∧ i = .int .i64 (k : Int) ∧ ShI W bb l k wr) (fun i _ => l.length - (intOf i).toNat)
  case atStart => exact ⟨0, Nat.zero_le _, rfl, ⟨by simpa [showG] using HB0.out, Below.refl _ _, by have := HKA.out.le; have := HBB.out; omega, fun t ht => by simp at ht⟩⟩
  case round =>
    obtain ⟨k, hk, rfl, hsh⟩ := hrel
    have HSH := hid hsh
    have HKW := hid (show Kp w wr from by have h := hsh.kp; rw [← HBB.out] at h; exact Below.trans HKA.out h)
    by_cases hlt : k < l.length
    · have i2 : (k : Int) < (l.length : Int) := by omega
      obtain ⟨t, ht⟩ : ∃ t, l[k]? = some t := ⟨_, List.getElem?_eq_getElem hlt⟩
      obtain ⟨b, off, rfl, hb, g0, g1, g2, g3, _, ok1, _⟩ := at_token (HR.out.kp CeToken.kp HKW.out) ht
      have HTK := hid (take_show ht)
      obtain ⟨k1, hk1⟩ : ∃ k1, k + 1 = k1 := ⟨_, rfl⟩
      have HK1 := hid hk1
      have k0 : IntKind.i64.wrap ((k : Int) + 1) = (k1 : Int) := by rw [IntKind.wrap_i64]; have := HLN.out; omega
      have HLEN := hid (hsh.len (by have := HLN.out; omega))
      have HT := hid ht
      have HOK := hid ok1
      clear hk hsh hk1 ok1
      go_upto_region 7 with fail
      have HBX := hid (blk_new wr (Obj.cells #[.int .i64 t.kind, .string t.text, .int .i64 t.line, .int .i64 t.col] 41))
      have HKB := hid (show Kp wr (wr.alloc (Obj.cells #[.int .i64 t.kind, .string t.text, .int .i64 t.line, .int .i64 t.col] 41)) from (Kp.refl _).alloc _)
      generalize (wr.alloc (Obj.cells #[.int .i64 t.kind, .string t.text, .int .i64 t.line, .int .i64 t.col] 41)) = W2 at HBX HKB ⊢
      obtain ⟨xb, hxb⟩ : ∃ xb, wr.heap.size = xb := ⟨_, rfl⟩
      rw [hxb] at HBX ⊢
      have HXB := hid (show bb ≤ xb by have := HSH.out.le; omega)
      have HXN := hid (show xb ≠ bb by have h9 := HSH.out.b; intro e; rcases h9 with ⟨_, v, h9, _⟩ | ⟨_, v, h9, _⟩ <;> (have := blk_lt h9; omega))
      clear hxb g0 g1 g2 g3 ht
      have x0 := blk_cell (o := 0) (v := .int .i64 t.kind) HBX.out rfl
      have x1 := blk_cell (o := 1) (v := .string t.text) HBX.out rfl
      have x2 := blk_cell (o := 2) (v := .int .i64 t.line) HBX.out rfl
      have x3 := blk_cell (o := 3) (v := .int .i64 t.col) HBX.out rfl
      have hlx := blk_lt HBX.out
      by_cases hw : WholeP t
      · have HW := hid hw
        have HALL := hid (show ∀ x ∈ l.take (k + 1), WholeP x by
          have e : l.take (k + 1) = l.take k ++ [t] := by rw [List.take_add_one, HT.out]; rfl
          rw [e]; intro x hx
          rcases List.mem_append.1 hx with hx | hx
          · exact HSH.out.all x hx
          · rw [List.mem_singleton] at hx; rw [hx]; exact hw)
        have HSZ := hid hw.size
        clear hw
        rcases Nat.eq_zero_or_pos k with h0 | h0
        · have i3 : ¬ (0 : Int) < (k : Int) := by omega
          have HSEP := hid (show sepB false (l.take k) = false by rw [h0]; rfl)
          clear h0
          by_cases h6 : t.kind = 6
          · have t6 : (t.kind == 6) = true := by simp [h6]
            have HK6 := hid h6
            clear h6
            go_upto_region 11 with (go_at_call 42; go_must (refine (who_yes t _ HOK.out HW.out).mono ?_); rintro e w9 ⟨rfl, hk9⟩; have HK9 := hid hk9; have HBX9 := hid ((hk9.block _ (blk_lt HBX.out)).trans HBX.out); have HS9 := hid (HSH.out.b.kp (HKB.out.trans hk9)); have HL9 := hid (Nat.le_trans HSH.out.le (HKB.out.trans hk9).le); have y1 := blk_cell (o := 1) (v := .string t.text) HBX9.out rfl; have hly := blk_lt HBX9.out; clear hk9)
            go_upto_region 13 with (go_at_call 32; go_must (refine (wstr_any bb bb _ t.text _ HS9.out (by (try simp only [List.length_append, List.length_cons, List.length_nil]); have := HLEN.out; have := HSZ.out; omega) HL9.out).mono ?_); rintro e w11 ⟨rfl, hs11, hb11, ho11⟩; have HS11 := hid hs11; have HB11 := hid hb11; have HBX11 := hid (ho11 xb _ HXN.out HBX9.out (fun cs fr e => by injection e with _ e _; exact absurd e (by decide))); have u0 := blk_cell (o := 0) (v := .int .i64 t.kind) HBX11.out rfl; have hlu := blk_lt HBX11.out; clear hs11 hb11 ho11)
            go_wp2_with (go_at_call 31; go_must (refine (wb_any 10 10 rfl bb bb _ _ HS11.out (by (try simp only [List.length_append, List.length_cons, List.length_nil, Array.length_toList]); have := HLEN.out; have := HSZ.out; have e9 : t.text.data.size = t.text.size := rfl; omega) (Nat.le_trans HL9.out HB11.out.size)).mono ?_); rintro e w12 ⟨rfl, hs12, hb12, ho12⟩)
            refine sh_round HK1.out hlt ⟨?_, (Below.trans HSH.out.kp (Below.trans (Below.mono HKB.out HSH.out.le) (Below.trans (Below.mono HK9.out (Nat.le_trans HSH.out.le HKB.out.le)) (Below.trans HB11.out hb12)))), ?_, HALL.out⟩
            · rw [HTK.out, HSEP.out, if_pos HK6.out]; simpa using hs12
            · exact Nat.le_trans HL9.out (Nat.le_trans HB11.out.size hb12.size)
          · have t6 : (t.kind == 6) = false := by simp [h6]
            have HK6 := hid h6
            clear h6
            go_upto_region 11 with (go_at_call 42; go_must (refine (who_yes t _ HOK.out HW.out).mono ?_); rintro e w9 ⟨rfl, hk9⟩; have HK9 := hid hk9; have HBX9 := hid ((hk9.block _ (blk_lt HBX.out)).trans HBX.out); have HS9 := hid (HSH.out.b.kp (HKB.out.trans hk9)); have HL9 := hid (Nat.le_trans HSH.out.le (HKB.out.trans hk9).le); have y1 := blk_cell (o := 1) (v := .string t.text) HBX9.out rfl; have hly := blk_lt HBX9.out; clear hk9)
            go_wp2_with (go_at_call 32; go_must (refine (wstr_any bb bb _ t.text _ HS9.out (by (try simp only [List.length_append, List.length_cons, List.length_nil]); have := HLEN.out; have := HSZ.out; omega) HL9.out).mono ?_); rintro e w11 ⟨rfl, hs11, hb11, ho11⟩; have HS11 := hid hs11; have HB11 := hid hb11; have HBX11 := hid (ho11 xb _ HXN.out HBX9.out (fun cs fr e => by injection e with _ e _; exact absurd e (by decide))); have u0 := blk_cell (o := 0) (v := .int .i64 t.kind) HBX11.out rfl; have hlu := blk_lt HBX11.out; clear hs11 hb11 ho11)
            refine sh_round HK1.out hlt ⟨?_, (Below.trans HSH.out.kp (Below.trans (Below.mono HKB.out HSH.out.le) (Below.trans (Below.mono HK9.out (Nat.le_trans HSH.out.le HKB.out.le)) HB11.out))), ?_, HALL.out⟩
            · rw [HTK.out, HSEP.out, if_neg HK6.out]; simpa using HS11.out
            · exact Nat.le_trans HL9.out HB11.out.size
        · have i3 : (0 : Int) < (k : Int) := by omega
          obtain ⟨m, hm⟩ : ∃ m, k = m + 1 := ⟨k - 1, by omega⟩
          have i4 : IntKind.i64.wrap ((k : Int) - 1) = (m : Int) := by rw [IntKind.wrap_i64]; have := HLN.out; omega
          have i5 : (m : Int) < (l.length : Int) := by omega
          obtain ⟨p, hp⟩ : ∃ p, l[m]? = some p := ⟨_, List.getElem?_eq_getElem (by omega)⟩
          have hsep := last_take hp
          rw [← hm] at hsep
          obtain ⟨b', off', e', hb', q0, _⟩ := at_token (HR.out.kp CeToken.kp HKW.out) hp
          cases e'
          have HP0 := hid q0
          by_cases hp6 : p.kind = 6
          · have t7 : (p.kind != 6) = false := by simp [hp6]
            have HSEP := hid (show sepB false (l.take k) = false by rw [hsep, hp6]; rfl)
            clear h0 hm hp hsep q0 hp6
            by_cases h6 : t.kind = 6
            · have t6 : (t.kind == 6) = true := by simp [h6]
              have HK6 := hid h6
              clear h6
              go_upto_region 11 with (go_at_call 42; go_must (refine (who_yes t _ HOK.out HW.out).mono ?_); rintro e w9 ⟨rfl, hk9⟩; have HK9 := hid hk9; have HBX9 := hid ((hk9.block _ (blk_lt HBX.out)).trans HBX.out); have HS9 := hid (HSH.out.b.kp (HKB.out.trans hk9)); have HL9 := hid (Nat.le_trans HSH.out.le (HKB.out.trans hk9).le); have p0 : w9.cell? ⟨b, off + m * 4, none⟩ = some (.int .i64 p.kind) := cell_kp (HKB.out.trans hk9) hb HP0.out; have hb9 := Nat.lt_of_lt_of_le hb (HKB.out.trans hk9).le; have y1 := blk_cell (o := 1) (v := .string t.text) HBX9.out rfl; have hly := blk_lt HBX9.out; clear hk9)
              go_upto_region 13 with (go_at_call 32; go_must (refine (wstr_any bb bb _ t.text _ HS9.out (by (try simp only [List.length_append, List.length_cons, List.length_nil]); have := HLEN.out; have := HSZ.out; omega) HL9.out).mono ?_); rintro e w11 ⟨rfl, hs11, hb11, ho11⟩; have HS11 := hid hs11; have HB11 := hid hb11; have HBX11 := hid (ho11 xb _ HXN.out HBX9.out (fun cs fr e => by injection e with _ e _; exact absurd e (by decide))); have u0 := blk_cell (o := 0) (v := .int .i64 t.kind) HBX11.out rfl; have hlu := blk_lt HBX11.out; clear hs11 hb11 ho11)
              go_wp2_with (go_at_call 31; go_must (refine (wb_any 10 10 rfl bb bb _ _ HS11.out (by (try simp only [List.length_append, List.length_cons, List.length_nil, Array.length_toList]); have := HLEN.out; have := HSZ.out; have e9 : t.text.data.size = t.text.size := rfl; omega) (Nat.le_trans HL9.out HB11.out.size)).mono ?_); rintro e w12 ⟨rfl, hs12, hb12, ho12⟩)
              refine sh_round HK1.out hlt ⟨?_, (Below.trans HSH.out.kp (Below.trans (Below.mono HKB.out HSH.out.le) (Below.trans (Below.mono HK9.out (Nat.le_trans HSH.out.le HKB.out.le)) (Below.trans HB11.out hb12)))), ?_, HALL.out⟩
              · rw [HTK.out, HSEP.out, if_pos HK6.out]; simpa using hs12
              · exact Nat.le_trans HL9.out (Nat.le_trans HB11.out.size hb12.size)
            · have t6 : (t.kind == 6) = false := by simp [h6]
              have HK6 := hid h6
              clear h6
              go_upto_region 11 with (go_at_call 42; go_must (refine (who_yes t _ HOK.out HW.out).mono ?_); rintro e w9 ⟨rfl, hk9⟩; have HK9 := hid hk9; have HBX9 := hid ((hk9.block _ (blk_lt HBX.out)).trans HBX.out); have HS9 := hid (HSH.out.b.kp (HKB.out.trans hk9)); have HL9 := hid (Nat.le_trans HSH.out.le (HKB.out.trans hk9).le); have p0 : w9.cell? ⟨b, off + m * 4, none⟩ = some (.int .i64 p.kind) := cell_kp (HKB.out.trans hk9) hb HP0.out; have hb9 := Nat.lt_of_lt_of_le hb (HKB.out.trans hk9).le; have y1 := blk_cell (o := 1) (v := .string t.text) HBX9.out rfl; have hly := blk_lt HBX9.out; clear hk9)
              go_wp2_with (go_at_call 32; go_must (refine (wstr_any bb bb _ t.text _ HS9.out (by (try simp only [List.length_append, List.length_cons, List.length_nil]); have := HLEN.out; have := HSZ.out; omega) HL9.out).mono ?_); rintro e w11 ⟨rfl, hs11, hb11, ho11⟩; have HS11 := hid hs11; have HB11 := hid hb11; have HBX11 := hid (ho11 xb _ HXN.out HBX9.out (fun cs fr e => by injection e with _ e _; exact absurd e (by decide))); have u0 := blk_cell (o := 0) (v := .int .i64 t.kind) HBX11.out rfl; have hlu := blk_lt HBX11.out; clear hs11 hb11 ho11)
              refine sh_round HK1.out hlt ⟨?_, (Below.trans HSH.out.kp (Below.trans (Below.mono HKB.out HSH.out.le) (Below.trans (Below.mono HK9.out (Nat.le_trans HSH.out.le HKB.out.le)) HB11.out))), ?_, HALL.out⟩
              · rw [HTK.out, HSEP.out, if_neg HK6.out]; simpa using HS11.out
              · exact Nat.le_trans HL9.out HB11.out.size
          · have t7 : (p.kind != 6) = true := by simp [hp6]
            have HSEP := hid (show sepB false (l.take k) = true by rw [hsep]; exact decide_eq_true hp6)
            clear h0 hm hp hsep q0 hp6
            by_cases h6 : t.kind = 6
            · have t6 : (t.kind == 6) = true := by simp [h6]
              have HK6 := hid h6
              clear h6
              go_upto_region 11 with first | (go_at_call 42; go_must (refine (who_yes t _ HOK.out HW.out).mono ?_); rintro e w9 ⟨rfl, hk9⟩; have HK9 := hid hk9; have HBX9 := hid ((hk9.block _ (blk_lt HBX.out)).trans HBX.out); have HS9 := hid (HSH.out.b.kp (HKB.out.trans hk9)); have HL9 := hid (Nat.le_trans HSH.out.le (HKB.out.trans hk9).le); have p0 : w9.cell? ⟨b, off + m * 4, none⟩ = some (.int .i64 p.kind) := cell_kp (HKB.out.trans hk9) hb HP0.out; have hb9 := Nat.lt_of_lt_of_le hb (HKB.out.trans hk9).le; have y1 := blk_cell (o := 1) (v := .string t.text) HBX9.out rfl; have hly := blk_lt HBX9.out; clear hk9) | (go_at_call 31; go_must (refine (wb_any 32 32 rfl bb bb _ _ HS9.out (by have := HLEN.out; omega) HL9.out).mono ?_); rintro e w10 ⟨rfl, hs10, hb10, ho10⟩; have HS10 := hid hs10; have HB10 := hid hb10; have HBX10 := hid (ho10 xb _ HXN.out HBX9.out (fun cs fr e => by injection e with _ e _; exact absurd e (by decide))); have z1 := blk_cell (o := 1) (v := .string t.text) HBX10.out rfl; have hlz := blk_lt HBX10.out; clear hs10 hb10 ho10)
              go_upto_region 13 with (go_at_call 32; go_must (refine (wstr_any bb bb _ t.text _ HS10.out (by (try simp only [List.length_append, List.length_cons, List.length_nil]); have := HLEN.out; have := HSZ.out; omega) (Nat.le_trans HL9.out HB10.out.size)).mono ?_); rintro e w11 ⟨rfl, hs11, hb11, ho11⟩; have HS11 := hid hs11; have HB11 := hid hb11; have HBX11 := hid (ho11 xb _ HXN.out HBX10.out (fun cs fr e => by injection e with _ e _; exact absurd e (by decide))); have u0 := blk_cell (o := 0) (v := .int .i64 t.kind) HBX11.out rfl; have hlu := blk_lt HBX11.out; clear hs11 hb11 ho11)
              go_wp2_with (go_at_call 31; go_must (refine (wb_any 10 10 rfl bb bb _ _ HS11.out (by (try simp only [List.length_append, List.length_cons, List.length_nil, Array.length_toList]); have := HLEN.out; have := HSZ.out; have e9 : t.text.data.size = t.text.size := rfl; omega) (Nat.le_trans (Nat.le_trans HL9.out HB10.out.size) HB11.out.size)).mono ?_); rintro e w12 ⟨rfl, hs12, hb12, ho12⟩)
              refine sh_round HK1.out hlt ⟨?_, (Below.trans HSH.out.kp (Below.trans (Below.mono HKB.out HSH.out.le) (Below.trans (Below.mono HK9.out (Nat.le_trans HSH.out.le HKB.out.le)) (Below.trans HB10.out (Below.trans HB11.out hb12))))), ?_, HALL.out⟩
              · rw [HTK.out, HSEP.out, if_pos HK6.out]; simpa using hs12
              · exact Nat.le_trans (Nat.le_trans HL9.out HB10.out.size) (Nat.le_trans HB11.out.size hb12.size)
            · have t6 : (t.kind == 6) = false := by simp [h6]
              have HK6 := hid h6
              clear h6
              go_upto_region 11 with first | (go_at_call 42; go_must (refine (who_yes t _ HOK.out HW.out).mono ?_); rintro e w9 ⟨rfl, hk9⟩; have HK9 := hid hk9; have HBX9 := hid ((hk9.block _ (blk_lt HBX.out)).trans HBX.out); have HS9 := hid (HSH.out.b.kp (HKB.out.trans hk9)); have HL9 := hid (Nat.le_trans HSH.out.le (HKB.out.trans hk9).le); have p0 : w9.cell? ⟨b, off + m * 4, none⟩ = some (.int .i64 p.kind) := cell_kp (HKB.out.trans hk9) hb HP0.out; have hb9 := Nat.lt_of_lt_of_le hb (HKB.out.trans hk9).le; have y1 := blk_cell (o := 1) (v := .string t.text) HBX9.out rfl; have hly := blk_lt HBX9.out; clear hk9) | (go_at_call 31; go_must (refine (wb_any 32 32 rfl bb bb _ _ HS9.out (by have := HLEN.out; omega) HL9.out).mono ?_); rintro e w10 ⟨rfl, hs10, hb10, ho10⟩; have HS10 := hid hs10; have HB10 := hid hb10; have HBX10 := hid (ho10 xb _ HXN.out HBX9.out (fun cs fr e => by injection e with _ e _; exact absurd e (by decide))); have z1 := blk_cell (o := 1) (v := .string t.text) HBX10.out rfl; have hlz := blk_lt HBX10.out; clear hs10 hb10 ho10)
              go_wp2_with (go_at_call 32; go_must (refine (wstr_any bb bb _ t.text _ HS10.out (by (try simp only [List.length_append, List.length_cons, List.length_nil]); have := HLEN.out; have := HSZ.out; omega) (Nat.le_trans HL9.out HB10.out.size)).mono ?_); rintro e w11 ⟨rfl, hs11, hb11, ho11⟩; have HS11 := hid hs11; have HB11 := hid hb11; have HBX11 := hid (ho11 xb _ HXN.out HBX10.out (fun cs fr e => by injection e with _ e _; exact absurd e (by decide))); have u0 := blk_cell (o := 0) (v := .int .i64 t.kind) HBX11.out rfl; have hlu := blk_lt HBX11.out; clear hs11 hb11 ho11)
              refine sh_round HK1.out hlt ⟨?_, (Below.trans HSH.out.kp (Below.trans (Below.mono HKB.out HSH.out.le) (Below.trans (Below.mono HK9.out (Nat.le_trans HSH.out.le HKB.out.le)) (Below.trans HB10.out HB11.out)))), ?_, HALL.out⟩
              · rw [HTK.out, HSEP.out, if_neg HK6.out]; simpa using HS11.out
              · exact Nat.le_trans (Nat.le_trans HL9.out HB10.out.size) HB11.out.size
      · have HW := hid hw
        clear hw
        go_wp2_with (go_at_call 42; go_must (refine (who_no t _ HOK.out HW.out).mono ?_); rintro e w9 ⟨rfl, hk9⟩)
        go_ret2
        exact ⟨.inr ⟨13, by omega, rfl⟩, HKW.out.trans (HKB.out.trans hk9)⟩
    · have i2 : ¬ (k : Int) < (l.length : Int) := by omega
      obtain rfl : k = l.length := by omega
      have HST := hid (show IsB wr bb bb (showG false l) by have h := hsh.b; rw [List.take_length] at h; exact h)
      have HALL := hid (show ∀ t ∈ l, WholeP t by have h := hsh.all; rw [List.take_length] at h; exact h)
      clear hsh hk
      by_cases hz : 8000 < (showG false l).length
      · have i3 : (8000 : Int) < ((showG false l).length : Int) := by omega
        clear hz
        go_wp2_with (go_at_call 43; go_must (refine (blen_any bb bb _ _ HST.out).mono ?_); rintro e w9 ⟨rfl, rfl⟩)
        go_ret2
        exact ⟨.inr ⟨1, by omega, rfl⟩, HKW.out⟩
      · have i3 : ¬ (8000 : Int) < ((showG false l).length : Int) := by omega
        have HZ := hid (Nat.le_of_not_lt hz)
        clear hz
        go_wp2_with first | (go_at_call 43; go_must (refine (blen_any bb bb _ _ HST.out).mono ?_); rintro e w9 ⟨rfl, rfl⟩) | (go_at_call 34; go_must (refine (bstr_any bb bb _ _ HST.out HSH.out.le).mono ?_); rintro e w9 ⟨rfl, hb9⟩)
        go_ret2
        exact ⟨.inl ⟨HLN.out, HALL.out, HZ.out, rfl⟩, Below.trans HKW.out (by have h := HBB.out; rw [h]; exact hb9)⟩
end Go.Proofs.Ytlfgofjmcegeiaa
