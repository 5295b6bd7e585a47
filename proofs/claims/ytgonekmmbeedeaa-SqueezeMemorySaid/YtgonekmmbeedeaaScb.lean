/-
  scribbleCode: what it leaves. Condition: the code's rows are rows of the call's own within the reach.
-/
import Derived.Test.YtgonekmmbeedeaaShp
namespace Go.Proofs.Ytgonekmmbeedeaa
open Go.RowKit
set_option linter.unusedVariables false
set_option linter.unusedSimpArgs false

/-- What stands while a code is written over: xs are the cells of its functions' row. -/
structure ScS (w0 : World) (lo hi nb : Nat) (vf vt : Value) (n m : Nat) (xs : List Value) (wr : World) : Prop where
  sh : Sh lo hi w0 wr
  box : wr.heap[nb]? = some (.cells #[vf, vt] 25 (0, 0))
  fns : wr.ownsRow lo 45 5 vf n xs
  ins : ∀ i, i < n → ∃ A ni c, xs[i * 5 + 4]? = some (.slice A ni c) ∧ TRow wr lo 64 6 (.slice A ni c) ni ∧ ni * 48 ≤ 140737488351232 ∧ ∀ g, (Value.slice A ni c).ownBlock = some g → g < hi
  txs : TRow wr lo 9 1 vt m
theorem ScS.step {w0 wr w' : World} {lo hi nb n m : Nat} {vf vt : Value} {xs : List Value} {e : TypeId} (h : ScS w0 lo hi nb vf vt n m xs wr) (hs : Sh lo hi wr w') (ht : Touch e wr w') (h1 : 25 ≠ e) (h2 : 45 ≠ e) : ScS w0 lo hi nb vf vt n m xs w' :=
  ⟨h.sh.trans hs, ht.2 _ _ h.box (fun cs fr q => by injection q with _ q _; exact h1 q), ownsRow_touch h2 h.fns ht, fun i hi => by
    obtain ⟨A, ni, c, g1, g2, g3, g4⟩ := h.ins i hi
    exact ⟨A, ni, c, g1, g2.sh hs, g3, g4⟩, h.txs.sh hs⟩
theorem ScS.cell {w0 wr : World} {lo hi nb n m g o : Nat} {vf vt : Value} {xs : List Value} {e : TypeId} (h : ScS w0 lo hi nb vf vt n m xs wr) (hb : ∃ cs, wr.heap[g]? = some (.cells cs e (0, 0))) (hl : lo ≤ g) (hg : g < hi ∨ wr.heap.size ≤ g) (h1 : 25 ≠ e) (h2 : 45 ≠ e) (v : Value) : ScS w0 lo hi nb vf vt n m xs (wr.setCell ⟨g, o, none⟩ v) ∧ ∃ cs, (wr.setCell ⟨g, o, none⟩ v).heap[g]? = some (.cells cs e (0, 0)) := by
  obtain ⟨cs, hb⟩ := hb
  exact ⟨h.step ((Sh.refl lo hi wr).setCell hl hg v) (rowTouch hb v) h1 h2, _, blk_set hb v⟩
theorem ScS.six {w0 wr : World} {lo hi nb n m g o : Nat} {vf vt : Value} {xs : List Value} (h : ScS w0 lo hi nb vf vt n m xs wr) (hb : ∃ cs, wr.heap[g]? = some (.cells cs 64 (0, 0))) (hl : lo ≤ g) (hg : g < hi) (v0 v1 v2 v3 v4 v5 : Value) :
    ScS w0 lo hi nb vf vt n m xs ((((((wr.setCell ⟨g, o, none⟩ v0).setCell ⟨g, o + 1, none⟩ v1).setCell ⟨g, o + 2, none⟩ v2).setCell ⟨g, o + 3, none⟩ v3).setCell ⟨g, o + 4, none⟩ v4).setCell ⟨g, o + 5, none⟩ v5) := by
  obtain ⟨h, hb⟩ := h.cell (o := o) hb hl (.inl hg) (by decide) (by decide) v0
  obtain ⟨h, hb⟩ := h.cell (o := o + 1) hb hl (.inl hg) (by decide) (by decide) v1
  obtain ⟨h, hb⟩ := h.cell (o := o + 2) hb hl (.inl hg) (by decide) (by decide) v2
  obtain ⟨h, hb⟩ := h.cell (o := o + 3) hb hl (.inl hg) (by decide) (by decide) v3
  obtain ⟨h, hb⟩ := h.cell (o := o + 4) hb hl (.inl hg) (by decide) (by decide) v4
  exact (h.cell (o := o + 5) hb hl (.inl hg) (by decide) (by decide) v5).1
theorem ScS.name {w0 wr : World} {lo hi nb n m g c i : Nat} {vt : Value} {xs : List Value} (h : ScS w0 lo hi nb (.slice (some ⟨g, 0, none⟩) n c) vt n m xs wr) (hi' : i < n) (hg : g < hi) (v : Value) : ScS w0 lo hi nb (.slice (some ⟨g, 0, none⟩) n c) vt n m (xs.set (i * 5) v) (wr.setCell ⟨g, i * 5, none⟩ v) := by
  obtain ⟨hl, _⟩ := rowGe h.fns
  have hs := (Sh.refl lo hi wr).setCell hl (.inl hg) (i := i * 5) v
  obtain ⟨cs, fr, hb⟩ := rowBlk h.fns
  have hne : nb ≠ g := fun e => by
    have h1 := h.box
    rw [e, hb] at h1
    injection h1 with h1
    injection h1 with _ h1 _
    exact absurd h1 (by decide)
  refine ⟨h.sh.trans hs, (blk_far (p := ⟨g, i * 5, none⟩) hne v).trans h.box, rowSet h.fns (by omega) v, fun j hj => ?_, h.txs.sh hs⟩
  obtain ⟨A, ni, c, g1, g2, g3, g4⟩ := h.ins j hj
  exact ⟨A, ni, c, by rw [List.getElem?_set_ne (by omega)]; exact g1, g2.sh hs, g3, g4⟩
theorem own_lt' {w : World} {base size n g : Nat} {e : TypeId} {v : Value} {xs : List Value} (h : w.ownsRow base e size v n xs) (hv : v.ownBlock = some g) : g < w.heap.size := (h.lt g hv).2
theorem ScS.start {w1 w : World} {lo : Nat} {vf vt : Value} {c : CodeM} (h : OCode w1 lo (.agg #[vf, vt]) c) (hk : Kp w1 w) (hlo : lo ≤ w1.heap.size) : ∃ xs, ScS w lo w1.heap.size w.heap.size vf vt c.funcs.length c.texts.length xs (w.alloc (.cells #[vf, vt] 25)) := by
  obtain ⟨vf', vt', e, ⟨xs, h1, h2⟩, ⟨ys, h3, h4⟩, _⟩ := h
  injection e with e
  simp at e
  obtain ⟨rfl, rfl⟩ := e
  have hka := hk.alloc (.cells #[vf, vt] 25)
  refine ⟨xs, Sh.of_kp ((Kp.refl w).alloc _) (Nat.le_trans hlo hk.le), blk_new w _, ownsRow_keep h1 hka, fun i hi => ?_, ⟨ys, ownsRow_keep h3 hka⟩⟩
  obtain ⟨f, hf⟩ : ∃ f, c.funcs[i]? = some f := ⟨_, List.getElem?_eq_getElem hi⟩
  obtain ⟨cs, hcs, hl, hat⟩ := h2.get hf
  obtain ⟨lins, rfl, ⟨zs, g1, g2⟩, hok⟩ := hcs
  obtain ⟨A, cc, rfl⟩ := own_form g1
  exact ⟨A, f.ins.length, cc, by rw [hat 4 (by omega)]; rfl, ⟨zs, ownsRow_keep g1 hka⟩, hok.2.2.2.2, fun g hg => (g1.lt g hg).2⟩
set_option maxRecDepth 20000 in
set_option maxHeartbeats 16000000 in
theorem scribbleCode_any (w1 w : World) (lo : Nat) (v : Value) (c : CodeM) (h : OCode w1 lo v c) (hk : Kp w1 w) (hlo : lo ≤ w1.heap.size) : Calls Try.prog 17 #[v] w fun e w' => e = .returned (.tuple #[]) ∧ Sh lo w1.heap.size w w' := by
  have h' := h
  obtain ⟨vf, vt, rfl, hf, ht, hfl, htl⟩ := h
  obtain ⟨xs, hst⟩ := ScS.start h' hk hlo
  obtain ⟨Af, cf, rfl⟩ : ∃ A c', vf = .slice A c.funcs.length c' := by obtain ⟨ys, g1, _⟩ := hf; exact own_form g1
  obtain ⟨At, ct, rfl⟩ : ∃ A c', vt = .slice A c.texts.length c' := by obtain ⟨ys, g1, _⟩ := ht; exact own_form g1
  have HFB := hid (show ∀ g, (Value.slice Af c.funcs.length cf).ownBlock = some g → g < w1.heap.size by obtain ⟨ys, g1, _⟩ := hf; exact fun g hg => (g1.lt g hg).2)
  have HTB := hid (show ∀ g, (Value.slice At c.texts.length ct).ownBlock = some g → g < w1.heap.size by obtain ⟨ys, g1, _⟩ := ht; exact fun g hg => (g1.lt g hg).2)
  have HST := hid hst
  have hloW := Nat.le_trans hlo hk.le
  generalize w1.heap.size = hi at HFB HTB HST ⊢
  generalize c.funcs.length = n at HST HFB hfl ⊢
  generalize c.texts.length = m at HST HTB htl ⊢
  clear h' hf ht hst hk hlo
  go_enter Try.func17, Try.ntmps17
  go_wp2_with fail
  obtain ⟨nb, hnb⟩ : ∃ nb, w.heap.size = nb := ⟨_, rfl⟩
  generalize (w.alloc (.cells #[.slice Af n cf, .slice At m ct] 25)) = W at HST ⊢
  rw [hnb] at HST ⊢
  clear hnb
  go_loopw [2] (fun a wr => ∃ (i : Nat) (xs : List Value), i ≤ n ∧ a = .int .i64 (i : Int) ∧ ScS w lo hi nb (.slice Af n cf) (.slice At m ct) n m xs wr) (fun a _ => n - (intOf a).toNat)
  case atStart => exact ⟨0, xs, Nat.zero_le _, rfl, HST.out⟩
  case round =>
    obtain ⟨i, xs, hi', rfl, hs⟩ := hrel
    have b0 := blk_cell (o := 0) (v := .slice Af n cf) hs.box rfl
    have b1 := blk_cell (o := 1) (v := .slice At m ct) hs.box rfl
    have bl := blk_lt hs.box
    have HS := hid hs
    by_cases hlt : i < n
    · have i1 : (i : Int) < (n : Int) := by omega
      have k1 : IntKind.i64.wrap ((i : Int) + 1) = (i : Int) + 1 := by rw [IntKind.wrap_i64]; omega
      obtain ⟨gf, cf', e, hcf⟩ := rowSome hs.fns (by omega)
      cases e
      obtain ⟨Ai, ni, ci, hx, hti, hni, hgi⟩ := hs.ins i hlt
      have HGF := hid (HFB.out gf rfl)
      have hxl := hs.fns.1
      have q4 : wr.cell? ⟨gf, i * 5 + 4, none⟩ = some (.slice Ai ni ci) := by rw [(rowAt hs.fns (j := i * 5 + 4) (by omega)).1]; exact hx
      have ql := (rowGe hs.fns).2
      clear hs
      go_wp2_with fail
      obtain ⟨wo, hwo⟩ : ∃ x, x = wr := ⟨_, rfl⟩
      subst hwo
      have HX := hid hx
      clear b0 b1 bl q4 ql hti
      go_loopw [3] (fun a wr => ∃ j : Nat, j ≤ ni ∧ a = .int .i64 (j : Int) ∧ ScS w lo hi nb (.slice (some ⟨gf, 0, none⟩) n cf) (.slice At m ct) n m xs wr) (fun a _ => ni - (intOf a).toNat)
      case atStart => exact ⟨0, Nat.zero_le _, rfl, HS.out⟩
      case round =>
        obtain ⟨j, hj, rfl, hs⟩ := hrel
        have b0 := blk_cell (o := 0) (v := .slice (some ⟨gf, 0, none⟩) n cf) hs.box rfl
        have bl := blk_lt hs.box
        have HSJ := hid hs
        have q4 : wr.cell? ⟨gf, i * 5 + 4, none⟩ = some (.slice Ai ni ci) := by rw [(rowAt hs.fns (j := i * 5 + 4) (by omega)).1]; exact HX.out
        have ql := (rowGe hs.fns).2
        have hti : TRow wr lo 64 6 (.slice Ai ni ci) ni := by
          obtain ⟨A2, n2, c2, g1, g2, _⟩ := hs.ins i hlt
          rw [HX.out] at g1
          injection g1 with g1
          injection g1 with e1 e2 e3
          subst e1; subst e2; subst e3
          exact g2
        by_cases hjl : j < ni
        · have i2 : (j : Int) < (ni : Int) := by omega
          have k2 : IntKind.i64.wrap ((j : Int) + 1) = (j : Int) + 1 := by rw [IntKind.wrap_i64]; omega
          obtain ⟨gi, ci', e, hgl, hgc, hgb, hcl⟩ := hti.head (by omega)
          cases e
          obtain ⟨y0, z0, f0⟩ := hcl (j * 6) (by omega)
          obtain ⟨y1, z1, f1⟩ := hcl (j * 6 + 1) (by omega)
          obtain ⟨y2, z2, f2⟩ := hcl (j * 6 + 2) (by omega)
          obtain ⟨y3, z3, f3⟩ := hcl (j * 6 + 3) (by omega)
          obtain ⟨y4, z4, f4⟩ := hcl (j * 6 + 4) (by omega)
          obtain ⟨y5, z5, f5⟩ := hcl (j * 6 + 5) (by omega)
          have HNX := hid (hs.six (o := j * 6) hgb hgl (hgi gi rfl) (.int .i64 (-99)) (.int .i64 0) (.int .i64 0) (.int .i64 0) (.int .i64 0) (.int .i64 0))
          clear hs hcl hti hgb
          go_wp2
          exact ⟨⟨j + 1, hjl, by congr 1, HNX.out⟩, by simp only [intOf, Int.toNat_natCast]; omega⟩
        · have i2 : ¬ (j : Int) < (ni : Int) := by omega
          obtain rfl : j = ni := by omega
          have hown := hti
          have HOW := hid hown
          have HZ := hid (Nat.le_trans hloW hs.sh.size)
          have HSZ := hid hs.sh.size
          clear hs hti hown hjl
          go_wp2_with (at_builtin; refine app_sh (hi := hi) (m := 2) elIns ?p0 (.tmp 39) (.tmp 42) ?p1 HOW.out ?p2 #[.int .i64 (-99), .int .i64 0, .int .i64 0, .int .i64 0, .int .i64 0, .int .i64 0, .int .i64 (-99), .int .i64 0, .int .i64 0, .int .i64 0, .int .i64 0, .int .i64 0] 64 2 ?p3 ?p4 ?p5 ?p6 ?p7 ?p8 HZ.out hgi ?p9)
          case p5 => repeat' (first | exact rfl | refine ⟨?_, ?_⟩)
          case p7 => unfold maxLen; omega
          case p8 => omega
          case p9 =>
            intro v2 w2 t2 b2 s2 tt2
            obtain ⟨g2, c2, rfl, l2, n2c, hb2, hc2⟩ := t2.head (by omega)
            obtain ⟨y1, z1, f1⟩ := hc2 1 (by omega)
            have hs2 := HSJ.out.step s2 tt2 (by decide) (by decide)
            have hb2' : g2 < hi ∨ w2.heap.size ≤ g2 ∨ wr.heap.size ≤ g2 := by rcases b2 g2 rfl with h | h <;> omega
            have hs3 : ScS w lo hi nb (.slice (some ⟨gf, 0, none⟩) n cf) (.slice At m ct) n m xs (w2.setCell ⟨g2, 1, none⟩ (.int .i64 (-98))) := by
              have hz := s2.setCell (i := 1) l2 (b2 g2 rfl) (.int .i64 (-98))
              obtain ⟨cs, hbc⟩ := hb2
              exact HSJ.out.step hz (tt2.trans (rowTouch hbc _)) (by decide) (by decide)
            have HS3 := hid hs3
            have HS4 := hid (hs3.name hlt HGF.out (.string ⟨#[63]⟩))
            have x0 := blk_cell (o := 0) (v := .slice (some ⟨gf, 0, none⟩) n cf) hs3.box rfl
            have xl := blk_lt hs3.box
            obtain ⟨hq, hqf⟩ := rowAt hs3.fns (j := i * 5) (by omega)
            obtain ⟨yn, hyn⟩ : ∃ y, xs[i * 5]? = some y := ⟨_, List.getElem?_eq_getElem (by omega)⟩
            rw [hyn] at hq
            have i4 : (0 : Int) < (j : Int) + 2 := by omega
            clear t2 s2 tt2 hb2 hc2 hs2 hs3 hyn
            go_wp2
            exact ⟨⟨i + 1, _, hlt, by congr 1, HS4.out⟩, by simp only [intOf, Int.toNat_natCast]; omega⟩
          all_goals rfl
    · have i1 : ¬ (i : Int) < (n : Int) := by omega
      clear hs
      go_wp2_with fail
      obtain ⟨wo, hwo⟩ : ∃ x, x = wr := ⟨_, rfl⟩
      subst hwo
      clear b0 b1 bl
      go_loopw [5] (fun a wr => ∃ j : Nat, j ≤ m ∧ a = .int .i64 (j : Int) ∧ ScS w lo hi nb (.slice Af n cf) (.slice At m ct) n m xs wr) (fun a _ => m - (intOf a).toNat)
      case atStart => exact ⟨0, Nat.zero_le _, rfl, HS.out⟩
      case round =>
        obtain ⟨j, hj, rfl, hs⟩ := hrel
        have b1 := blk_cell (o := 1) (v := .slice At m ct) hs.box rfl
        have bl := blk_lt hs.box
        have HSJ := hid hs
        by_cases hjl : j < m
        · have i2 : (j : Int) < (m : Int) := by omega
          have k2 : IntKind.i64.wrap ((j : Int) + 1) = (j : Int) + 1 := by rw [IntKind.wrap_i64]; omega
          obtain ⟨gt, ct', e, hgl, hgc, hgb, hcl⟩ := hs.txs.head (by omega)
          cases e
          obtain ⟨y0, z0, f0⟩ := hcl j (by omega)
          have HNX := hid (hs.cell (o := j) hgb hgl (.inl (HTB.out gt rfl)) (by decide) (by decide) (.string ⟨#[63]⟩)).1
          clear hs hcl hgb
          go_wp2
          exact ⟨⟨j + 1, hjl, by congr 1, HNX.out⟩, by simp only [intOf, Int.toNat_natCast]; omega⟩
        · have i2 : ¬ (j : Int) < (m : Int) := by omega
          have hjm : j = m := by omega
          have HTX := hid hs.txs
          have HZ := hid (Nat.le_trans hloW hs.sh.size)
          clear hs
          go_wp2_with (at_builtin; go_loud (refine app_sh (hi := hi) (m := 2) elStrW ?q0 (.tmp 64) (.tmp 65) ?q1 HTX.out ?q2 #[.string ⟨#[63]⟩, .string ⟨#[63]⟩] 9 2 ?q3 ?q4 ?q5 ?q6 ?q7 ?q8 HZ.out HTB.out ?q9))
          case q5 => repeat' (first | exact rfl | refine ⟨?_, ?_⟩)
          case q7 => unfold maxLen; omega
          case q8 => omega
          case q9 =>
            intro v2 w2 t2 b2 s2 tt2
            obtain ⟨g2, c2, rfl, l2, n2c, hb2, hc2⟩ := t2.head (by omega)
            obtain ⟨y0, z0, f0⟩ := hc2 0 (by omega)
            have HEND := hid (HSJ.out.sh.trans (s2.setCell (i := 0) l2 (b2 g2 rfl) (.string ⟨#[33]⟩)))
            have i4 : (0 : Int) < (m : Int) + 2 := by omega
            clear t2 s2 tt2 hb2 hc2
            go_wp2
            go_end0
            exact ⟨rfl, HEND.out⟩
          all_goals rfl
end Go.Proofs.Ytgonekmmbeedeaa
