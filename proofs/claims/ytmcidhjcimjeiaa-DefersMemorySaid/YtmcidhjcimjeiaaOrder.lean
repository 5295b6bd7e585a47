/-
  defers.Order of calls that records keep. Condition: what comes in lies within the reach.
-/
import Derived.Test.YtmcidhjcimjeiaaDefers
namespace Go.Proofs.Ytmcidhjcimjeiaa
open Go.RowKit
set_option linter.unusedVariables false

def zeroCall : CallM := ⟨0, 0, []⟩
set_option maxHeartbeats 400000 in
theorem pop_nil (v : Value) (w : World) (h : RdCalls w v []) : Calls Try.prog 17 #[v] w fun e w' => e = .returned (.tuple #[.slice none 0 0, .agg #[.int .i64 0, .int .i64 0, .slice none 0 0], .bool false]) ∧ Kp w w' := by
  obtain ⟨A, c, rfl, _⟩ := h.form
  clear h
  go_enter Try.func17, Try.ntmps17
  go_wp2
  exact bodyPost_ret (v := .tuple #[.slice none 0 0, .agg #[.int .i64 0, .int .i64 0, .slice none 0 0], .bool false]) (by simp [results, Try.results17, go_sem]) rfl ⟨rfl, (Kp.refl _).alloc _⟩
theorem take_last {α : Type} {l : List α} {k : Nat} {m : α} (h : l[k]? = some m) : l.take (k + 1) = l.take k ++ [m] := (take_snoc h).symm
theorem drop_rev {α : Type} {l : List α} {k : Nat} {m : α} (h : l[k]? = some m) : (l.drop k).reverse = (l.drop (k + 1)).reverse ++ [m] := by
  have hk : k < l.length := by
    rcases Nat.lt_or_ge k l.length with h' | h'
    · exact h'
    · rw [List.getElem?_eq_none h'] at h; cases h
  rw [List.drop_eq_getElem_cons hk, List.reverse_cons]
  rw [List.getElem?_eq_getElem hk] at h
  rw [Option.some.inj h]
theorem row_grown {w w' : World} {base : Nat} {e : TypeId} {size n : Nat} {v : Value} {xs : List Value} {row : Option Nat} (h : w.ownsRow base e size v n xs) (hg : w.grownBy w' row) (hr : ∀ g, row = some g → g < base) : w'.ownsRow base e size v n xs := by
  refine World.ownsRow.kept h hg ?_
  rcases h.2 with ⟨rfl, _⟩ | ⟨g, cap, cur, rfl, hb, _⟩
  · exact .inl rfl
  · right
    intro hc
    have := hr g (by simpa [Value.ownBlock] using hc.symm)
    omega
theorem OCalls.grown {w w' : World} {base : Nat} {v : Value} {l : List CallM} {row : Option Nat} (h : OCalls w base v l) (hg : w.grownBy w' row) (hr : ∀ g, row = some g → g < base) : OCalls w' base v l := by
  obtain ⟨xs, h1, h2⟩ := h
  exact ⟨xs, row_grown h1 hg hr, h2.mono fun cs a ⟨la, g1, g2, g3⟩ => ⟨la, g1, row_grown g2 hg hr, g3⟩⟩
theorem OCalls.lt {w : World} {base : Nat} {v : Value} {l : List CallM} (h : OCalls w base v l) : ∀ g, v.ownBlock = some g → g < w.heap.size := by
  obtain ⟨xs, h1, _⟩ := h
  exact fun g hg => (h1.lt g hg).2
def lenOf (v : Value) : Nat := match v with | .slice _ n _ => n | _ => 0
set_option maxHeartbeats 1000000 in
theorem order_recs (v : Value) (l : List CallM) (w : World) (h : RdCalls w v l) (hl : (l.length + 1) * 40 ≤ 140737488355328) : Calls Try.prog 24 #[.bool false, v] w fun e w' => (∃ v', e = .returned (.tuple #[v', .int .i64 0]) ∧ OCalls w' w.heap.size v' l.reverse) ∧ Kp w w' := by
  have HL := hid h
  obtain ⟨A, c, rfl, hc⟩ := h.form
  clear h
  go_enter Try.func24, Try.ntmps24
  go_wp2
  go_loopw [6, 7] (fun o r wr => ∃ k : Nat, k ≤ l.length ∧ RdCalls wr r (l.take k) ∧ OCalls wr w.heap.size o (l.drop k).reverse ∧ Kp w wr) (fun _ r _ => lenOf r)
  case atStart => exact ⟨l.length, Nat.le_refl _, by rw [List.take_length]; exact HL.out, by rw [List.drop_length]; exact OwnL.nil _ _ _ _ _, Kp.refl _⟩
  case round =>
    obtain ⟨k, hk, hr, ho, hkp⟩ := hrel
    have hsz := hkp.le
    have HO := hid ho
    obtain ⟨A1, c1, rfl, hc1⟩ := hr.form
    have HR := hid hr
    clear ho
    cases k with
    | zero =>
      rw [List.drop_zero] at HO
      have hr0 : RdCalls wr (.slice A1 (l.take 0).length c1) [] := by rw [List.take_zero] at hr ⊢; exact hr
      have HR0 := hid hr0
      clear hr hr0
      go_wp2_with (go_at_call 17; go_must (refine (pop_nil _ _ HR0.out).mono ?_); rintro e w1 ⟨rfl, hk1⟩)
      go_ret2
      exact ⟨⟨_, rfl, (HO.out.kp hk1).kp ((Kp.refl _).alloc _)⟩, (hkp.trans hk1).alloc _⟩
    | succ k =>
      obtain ⟨m, hm⟩ : ∃ m, l[k]? = some m := ⟨l[k], List.getElem?_eq_getElem (by omega)⟩
      have hlen : (l.take (k + 1)).length = k + 1 := by rw [List.length_take]; omega
      have hdl : (l.drop (k + 1)).reverse.length = l.length - (k + 1) := by simp
      have HD := hid (drop_rev hm)
      have b1 : (l.drop (k + 1)).reverse.length + 1 ≤ maxLen := by rw [hdl]; unfold maxLen; omega
      have b2 : ((l.drop (k + 1)).reverse.length + 1) * 40 ≤ 140737488355328 := by rw [hdl]; omega
      have B1 := hid b1; have B2 := hid b2; clear b1 b2
      rw [hlen] at HR hc1 ⊢
      rw [take_last hm] at HR
      have hl1 : ((l.take k).length + 1) * 40 ≤ 140737488355328 := by rw [List.length_take]; omega
      have hk1' : (l.take k).length = k := by rw [List.length_take]; omega
      clear hr hm hlen
      go_wp2_with (first
        | (go_at_call 17; go_must (refine (pop_any _ (l.take k) m _ HR.out hl1).mono ?_); rintro e w1 ⟨⟨v1, v2, rfl, hR1, hR2⟩, hk1⟩; obtain ⟨lR, rfl, hoR, hokR⟩ := hR2; obtain ⟨AR, cR, rfl⟩ := own_form hoR; have HR1 := hid hR1.rd; obtain ⟨A3, c3, rfl, _⟩ := hR1.rd.form; have hz1 : w.heap.size ≤ w1.heap.size := Nat.le_trans hsz hk1.le; have hoR1 := hid (hoR.kp ((Kp.refl _).alloc (.cells #[.int .i64 m.site, .int .i64 m.fn, .slice AR m.args.length cR] 25))); obtain ⟨xs, hown1, hch⟩ := HO.out.kp (hk1.trans ((Kp.refl _).alloc (.cells #[.int .i64 m.site, .int .i64 m.fn, .slice AR m.args.length cR] 25))); have HCh := hid hch; have HOwn1 := hid hown1; clear hch hown1)
        | (at_builtin; go_must (refine app_lit_at (w1.heap.size + 1) (by simp) elCall rfl (.tmp 29) (.tmp 31) rfl HOwn1.out rfl _ _ 1 1 rfl rfl (by intro u hu; simp at hu; rcases hu with rfl | rfl | rfl <;> rfl) B1.out B2.out (Nat.le_trans hz1 (by simp)) ?_); intro v2 w2 hown3 hg2 hm2 hb2))
      rw [hk1'] at hR1
      go_roundw
      case rel => exact ⟨k, by omega, ((hR1.kp ((Kp.refl _).alloc _)).grown hg2 HO.out.lt).rd, by rw [HD.out]; exact OCalls.snoc HCh.out HOwn1.out hg2 rfl rfl hown3 hoR1.out hsz hokR, Below.trans ((hkp.trans hk1).alloc _) hb2⟩
      case measure => simp [lenOf]
end Go.Proofs.Ytmcidhjcimjeiaa
