/-
  roomyCalls, scribbleCalls, stayedCalls: the laws' own, of lists of calls. Condition: what comes in lies within the reach.
-/
import Derived.Test.YtmcidhjcimjeiaaSc
import Derived.Test.YtmcidhjcimjeiaaDefers
import Derived.Test.YtmcidhjcimjeiaaRegion
namespace Go.Proofs.Ytmcidhjcimjeiaa
open Go.RowKit
set_option linter.unusedVariables false

/-- A Call that may be scribbled into: whatever it holds, its arguments are a row of numbers in a block from lo on and below hi. -/
def CeX (lo hi : Nat) (w : World) (cs : List Value) (_u : Unit) : Prop := ∃ (s f : Int) (la : Value) (ys : List Int), cs = [.int .i64 s, .int .i64 f, la] ∧ OwnI w lo la ys ∧ (ys.length + 3) * 8 ≤ 140737488355328 ∧ ∀ g, la.ownBlock = some g → g < hi
theorem CeX.sc {lo hi lo' hi' : Nat} {w w' : World} {cs : List Value} {u : Unit} (h : CeX lo hi w cs u) (hs : Sc lo' hi' w w') : CeX lo hi w' cs u := by
  obtain ⟨s, f, la, ys, e, h1, h2, h3⟩ := h
  obtain ⟨zs, h4, h5⟩ := hs.row h1
  exact ⟨s, f, la, zs, e, h5, by rw [h4]; exact h2, h3⟩
theorem CeX.touch {lo hi : Nat} {w w' : World} {cs : List Value} {u : Unit} (h : CeX lo hi w cs u) (hs : Touch 25 w w') : CeX lo hi w' cs u := by
  obtain ⟨s, f, la, ys, e, h1, h2, h3⟩ := h
  exact ⟨s, f, la, ys, e, ownsRow_touch (by decide) h1 hs, h2, h3⟩
def CallsX (w : World) (lo hi : Nat) (v : Value) (n : Nat) : Prop := ∃ xs, w.ownsRow lo 25 3 v n xs ∧ Chunk (CeX lo hi) 3 w xs (List.replicate n ())
theorem CallsX.of {w : World} {lo : Nat} {v : Value} {l : List CallM} (h : OCalls w lo v l) : CallsX w lo w.heap.size v l.length := by
  obtain ⟨xs, h1, h2⟩ := h
  refine ⟨xs, h1, ?_⟩
  clear h1
  induction l generalizing xs with
  | nil => exact h2
  | cons m r ih =>
    obtain ⟨cs, ys, e, g1, g2, g3⟩ := h2
    refine ⟨cs, ys, e, g1, ?_, ih _ g3⟩
    obtain ⟨la, e2, k1, k2⟩ := g2
    exact ⟨_, _, la, _, e2, k1, by have := k2.2.2.2; omega, fun g hg => (k1.lt g hg).2⟩
theorem rep_at {n k : Nat} (h : k < n) : (List.replicate n ())[k]? = some () := by rw [List.getElem?_replicate, if_pos h]
theorem Sc.of_grown {lo hi : Nat} {w w' : World} {e : TypeId} {size n : Nat} {v : Value} {xs : List Value} (hne : 3 ≠ e) (h : w.ownsRow lo e size v n xs) (hg : w.grownBy w' v.ownBlock) (hh : ∀ g, v.ownBlock = some g → g < hi) (hl : lo ≤ w.heap.size) : Sc lo hi w w' := by
  refine ⟨hg.os, hg.tape, hg.output, hg.size, fun k hk => hg.block k (by omega) (fun e => by have := (h.lt k e.symm).1; omega), fun k h1 h2 => hg.block k h2 (fun e => by have := hh k e.symm; omega), fun k cs hc => ⟨cs, ?_, IntAt.refl _⟩⟩
  exact (Touch.of_grown h hg).2 k _ hc (fun cs fr e2 => by injection e2 with _ e2 _; exact hne e2)
set_option maxRecDepth 20000 in
set_option maxHeartbeats 1000000 in
theorem scribbleCalls_sc (v : Value) (n : Nat) (w : World) (lo hi : Nat) (h : CallsX w lo hi v n) (hl : (n + 2) * 40 ≤ 140737488355328) (hb : lo ≤ w.heap.size) (hh : ∀ g, v.ownBlock = some g → g < hi) : Calls Try.prog 27 #[v] w fun e w' => e = .returned (.tuple #[]) ∧ Sc lo hi w w' := by
  obtain ⟨A, c, rfl⟩ : ∃ A c, v = .slice A n c := by obtain ⟨xs, h1, _⟩ := h; exact own_form h1
  have HO := hid h; have HH := hid hh
  clear h hh
  go_enter Try.func27, Try.ntmps27
  go_wp2
  go_loopw [2] (fun i wr => ∃ k : Nat, k ≤ n ∧ i = .int .i64 k ∧ CallsX wr lo hi (.slice A n c) n ∧ Sc lo hi w wr) (fun i _ => n - (intOf i).toNat)
  case atStart => exact ⟨0, by omega, rfl, HO.out, Sc.refl _ _ _⟩
  case round =>
    obtain ⟨k, hk, rfl, ho, hsc⟩ := hrel
    have hsz := hsc.size
    have HS := hid hsc
    obtain ⟨xs, hown, hch⟩ := ho
    have HR := hid hown; have HC := hid hch
    clear hsc
    by_cases hlt : k < n
    · have i1 : (k : Int) < (n : Int) := by omega
      obtain ⟨g, c', e, hnc⟩ := rowSome hown (by omega)
      injection e with e1 _ e3
      subst e1; subst e3
      obtain ⟨hg1, hg2⟩ := rowGe hown
      obtain ⟨cs, ⟨s, f, la, ys, rfl, q1, q2, q3⟩, _, q5⟩ := hch.get (rep_at hlt)
      have p0 := (rowAt hown (show k * 3 < n * 3 by omega)).1.trans (q5 0 (by omega))
      have p2 := (rowAt hown (show k * 3 + 2 < n * 3 by omega)).1.trans (q5 2 (by omega))
      simp only [List.getElem?_cons_zero, List.getElem?_cons_succ] at p0 p2
      obtain ⟨A2, c2, rfl⟩ := own_form q1
      have Q1 := hid q1; have Q3 := hid q3
      clear hown hch q1 q3 q5
      go_wp2_with (go_at_call 28; go_must (refine (scribble_sc _ ys _ lo hi Q1.out q2 (Nat.le_trans hb hsz) Q3.out).mono ?_); rintro e w2 ⟨rfl, hs2, ht2⟩; have HR2 := hid (ownsRow_touch (by decide) HR.out ht2); have HS2 := hid hs2; obtain ⟨p3, f3⟩ := rowBox HR2.out (show k * 3 < n * 3 by omega); clear hs2 ht2)
      have hblk := hid (rowBlk HR2.out)
      have HE : Hid (Sc lo hi w (w2.setCell ⟨g, k * 3, none⟩ (.int .i64 (-99)))) := hid ((HS.out.trans HS2.out).setCell hg1 (.inl (HH.out g rfl)) _ (.inr fun cs' hc' => by
        obtain ⟨cs0, fr0, h0⟩ := hblk.out
        rw [h0] at hc'
        injection hc' with hc'
        injection hc' with _ hc' _
        exact absurd hc' (by decide)))
      have HX : Hid (CallsX (w2.setCell ⟨g, k * 3, none⟩ (.int .i64 (-99))) lo hi (.slice (some ⟨g, 0, none⟩) n c) n) := hid (by
        obtain ⟨cs0, fr0, h0⟩ := hblk.out
        have h1 : Chunk (CeX lo hi) 3 (w2.setCell ⟨g, k * 3, none⟩ (.int .i64 (-99))) xs (List.replicate n ()) := HC.out.mono (fun cs a ha => (ha.sc HS2.out).touch (rowTouch h0 _))
        have h2 := Chunk.set 0 (by omega) (.int .i64 (-99)) h1 (rep_at hlt) (b := ()) (fun cs ha hl => by
          obtain ⟨s, f, la, ys, rfl, r⟩ := ha
          exact ⟨_, f, la, ys, rfl, r⟩)
        refine ⟨_, rowSet HR2.out (show k * 3 < n * 3 by omega) _, ?_⟩
        have e : (List.replicate n ()).set k () = List.replicate n () := by
          exact List.ext_getElem (by simp) (fun _ _ _ => rfl)
        rw [e] at h2
        exact h2)
      go_roundw
      case rel => exact ⟨k + 1, hlt, by simp, HX.out, HE.out⟩
      case measure => simp [intOf]; omega
    · obtain rfl : k = n := by omega
      have i1 : ¬ (k : Int) < (k : Int) := by omega
      have b3 : lo ≤ wr.heap.size := Nat.le_trans hb hsz
      have B1 := hid (show k + 2 ≤ maxLen by unfold maxLen; omega)
      clear hown hch
      go_wp2_with (at_builtin; go_must (refine app_lit elCall rfl (.tmp 19) (.tmp 22) rfl HR.out rfl _ _ 2 2 rfl rfl (by intro u hu; simp at hu; rcases hu with rfl | rfl | rfl | rfl | rfl | rfl <;> rfl) B1.out hl b3 ?_); intro v2 w2 hown2 hg2 hm2 hn2 hb2; obtain ⟨g2, c2, rfl, hnc2⟩ := rowSome hown2 (by omega); have HR2 := hid hown2; have HS2 := hid (Sc.of_grown (hi := hi) (by decide) HR.out hg2 HH.out b3); have HM2 := hid hm2; have hge2 := (rowGe hown2).1; obtain ⟨p3, f3⟩ := rowBox hown2 (show 1 < (k + 2) * 3 by omega); clear hown2 hg2 hm2 hb2)
      have hend : Sc lo hi w (w2.setCell ⟨g2, 1, none⟩ (.int .i64 (-98))) := (HS.out.trans HS2.out).setCell hge2 (by
        rcases HM2.out with h3 | ⟨k', h3, h3'⟩
        · exact .inl (HH.out g2 h3.symm)
        · have h4 : some g2 = some k' := h3
          injection h4 with h4; right; have := hsz; omega) _ (.inr fun cs' hc' => by
        obtain ⟨cs0, fr0, h0⟩ := rowBlk HR2.out
        rw [h0] at hc'
        injection hc' with hc'
        injection hc' with _ hc' _
        exact absurd hc' (by decide))
      go_end0
      exact ⟨rfl, hend⟩

/-! ### roomyCalls -/
def CallAt (w : World) (cur : Array Value) (i : Nat) (m : CallM) : Prop := ∃ gi, cur[i * 3]? = some (.int .i64 m.site) ∧ cur[i * 3 + 1]? = some (.int .i64 m.fn) ∧ cur[i * 3 + 2]? = some (.slice (some ⟨gi, 0, none⟩) m.args.length (m.args.length + 2)) ∧ RoomAt w gi m.args ∧ m.args.length * 8 ≤ 140737488351232 ∧ (∀ x ∈ m.args, okI x) ∧ okI m.site ∧ okI m.fn
theorem CallAt.kp {w w' : World} {cur : Array Value} {i : Nat} {m : CallM} (h : CallAt w cur i m) (hk : Kp w w') : CallAt w' cur i m := by
  obtain ⟨gi, h1, h2, h3, h4, h5⟩ := h
  exact ⟨gi, h1, h2, h3, h4.kp hk, h5⟩
/-- The first k calls lie in the block g, which has room for n + 1. -/
def RoomK (w : World) (g n k : Nat) (l : List CallM) : Prop := ∃ cur : Array Value, w.heap[g]? = some (.cells cur 25 (0, 0)) ∧ cur.size = (n + 1) * 3 ∧ ∀ i m, i < k → l[i]? = some m → CallAt w cur i m
theorem RoomK.box {w : World} {g n k : Nat} {l : List CallM} (h : RoomK w g n k l) {j : Nat} (hj : j < (n + 1) * 3) : BoxAt w g j := by
  obtain ⟨cur, h1, h2, _⟩ := h
  exact BoxAt.mk_ (blk_cell h1 (Array.getElem?_eq_getElem (by omega))) (blk_free h1)
theorem RoomK.kp {w w' : World} {g n k : Nat} {l : List CallM} (h : RoomK w g n k l) (hk : Kp w w') : RoomK w' g n k l := by
  obtain ⟨cur, h1, h2, h3⟩ := h
  exact ⟨cur, (hk.block g (blk_lt h1)).trans h1, h2, fun i m hi hm => (h3 i m hi hm).kp hk⟩
theorem room_blk {w : World} {g : Nat} {xs : List Int} (h : RoomAt w g xs) {cs : Array Value} {T : TypeId} {fr : Nat × Nat} (h2 : w.heap[g]? = some (.cells cs T fr)) : T = 3 := by
  unfold RoomAt at h
  rw [h] at h2
  injection h2 with h2
  injection h2 with _ h2 _
  exact h2.symm
/-- The call at k, laid. -/
theorem RoomK.put {w W3 : World} {g n k gi : Nat} {l : List CallM} {m : CallM} {v2 : Value} (h : RoomK w g n k l) (hk : k < n) (hm : l[k]? = some m)
    (h3 : Kp (((w.setCell ⟨g, k * 3, none⟩ (.int .i64 m.site)).setCell ⟨g, k * 3 + 1, none⟩ (.int .i64 m.fn)).setCell ⟨g, k * 3 + 2, none⟩ v2) W3) (hr : RoomAt W3 gi m.args) (hb : m.args.length * 8 ≤ 140737488351232) (ho : (∀ x ∈ m.args, okI x) ∧ okI m.site ∧ okI m.fn) :
    RoomK (W3.setCell ⟨g, k * 3 + 2, none⟩ (.slice (some ⟨gi, 0, none⟩) m.args.length (m.args.length + 2))) g n (k + 1) l := by
  obtain ⟨cur, h1, h2, h4⟩ := h
  have b1 := blk_set (o := k * 3 + 2) (blk_set (o := k * 3 + 1) (blk_set (o := k * 3) h1 (.int .i64 m.site)) (.int .i64 m.fn)) v2
  have b2 := (h3.block g (blk_lt b1)).trans b1
  have b3 := blk_set (o := k * 3 + 2) b2 (.slice (some ⟨gi, 0, none⟩) m.args.length (m.args.length + 2))
  have hfar : ∀ gj xs, RoomAt W3 gj xs → RoomAt (W3.setCell ⟨g, k * 3 + 2, none⟩ (.slice (some ⟨gi, 0, none⟩) m.args.length (m.args.length + 2))) gj xs := fun gj xs hj =>
    hj.setCell (fun e => by subst e; exact absurd (room_blk hj b2) (by decide)) _
  refine ⟨_, b3, by simpa using h2, fun i a hi ha => ?_⟩
  by_cases e : i = k
  · subst e
    rw [hm] at ha
    injection ha with ha
    subst ha
    refine ⟨gi, ?_, ?_, ?_, hfar _ _ hr, hb, ho⟩
    · rw [Array.getElem?_setIfInBounds_ne (by omega), Array.getElem?_setIfInBounds_ne (by omega), Array.getElem?_setIfInBounds_ne (by omega), Array.getElem?_setIfInBounds_self_of_lt (by omega)]
    · rw [Array.getElem?_setIfInBounds_ne (by omega), Array.getElem?_setIfInBounds_ne (by omega), Array.getElem?_setIfInBounds_self_of_lt (by simp; omega)]
    · rw [Array.getElem?_setIfInBounds_self_of_lt (by simp; omega)]
  · obtain ⟨gj, k1, k2, k3, k4, k5⟩ := h4 i a (by omega) ha
    have hne : g ≠ gj := fun e2 => by subst e2; exact absurd (room_blk k4 h1) (by decide)
    refine ⟨gj, ?_, ?_, ?_, hfar _ _ ((((k4.setCell hne _).setCell hne _).setCell hne _).kp h3), k5⟩
    · rw [Array.getElem?_setIfInBounds_ne (by omega), Array.getElem?_setIfInBounds_ne (by omega), Array.getElem?_setIfInBounds_ne (by omega), Array.getElem?_setIfInBounds_ne (by omega)]; exact k1
    · rw [Array.getElem?_setIfInBounds_ne (by omega), Array.getElem?_setIfInBounds_ne (by omega), Array.getElem?_setIfInBounds_ne (by omega), Array.getElem?_setIfInBounds_ne (by omega)]; exact k2
    · rw [Array.getElem?_setIfInBounds_ne (by omega), Array.getElem?_setIfInBounds_ne (by omega), Array.getElem?_setIfInBounds_ne (by omega), Array.getElem?_setIfInBounds_ne (by omega)]; exact k3
/-- The mark behind the last call. -/
theorem RoomK.mark {w : World} {g n : Nat} {l : List CallM} (h : RoomK w g n n l) (v1 v2 : Value) : RoomK (((w.setCell ⟨g, n * 3, none⟩ (.int .i64 (-4711))).setCell ⟨g, n * 3 + 1, none⟩ v1).setCell ⟨g, n * 3 + 2, none⟩ v2) g n n l ∧ (((w.setCell ⟨g, n * 3, none⟩ (.int .i64 (-4711))).setCell ⟨g, n * 3 + 1, none⟩ v1).setCell ⟨g, n * 3 + 2, none⟩ v2).cell? ⟨g, n * 3, none⟩ = some (.int .i64 (-4711)) := by
  obtain ⟨cur, h1, h2, h4⟩ := h
  have b1 := blk_set (o := n * 3 + 2) (blk_set (o := n * 3 + 1) (blk_set (o := n * 3) h1 (.int .i64 (-4711))) v1) v2
  refine ⟨⟨_, b1, by simpa using h2, fun i a hi ha => ?_⟩, blk_cell b1 ?_⟩
  · obtain ⟨gj, k1, k2, k3, k4, k5⟩ := h4 i a (by omega) ha
    have hne : g ≠ gj := fun e2 => by subst e2; exact absurd (room_blk k4 h1) (by decide)
    refine ⟨gj, ?_, ?_, ?_, ((k4.setCell hne _).setCell hne _).setCell hne _, k5⟩
    · rw [Array.getElem?_setIfInBounds_ne (by omega), Array.getElem?_setIfInBounds_ne (by omega), Array.getElem?_setIfInBounds_ne (by omega)]; exact k1
    · rw [Array.getElem?_setIfInBounds_ne (by omega), Array.getElem?_setIfInBounds_ne (by omega), Array.getElem?_setIfInBounds_ne (by omega)]; exact k2
    · rw [Array.getElem?_setIfInBounds_ne (by omega), Array.getElem?_setIfInBounds_ne (by omega), Array.getElem?_setIfInBounds_ne (by omega)]; exact k3
  · rw [Array.getElem?_setIfInBounds_ne (by omega), Array.getElem?_setIfInBounds_ne (by omega), Array.getElem?_setIfInBounds_self_of_lt (by omega)]
/-- A list of calls with marked room behind it and behind its lists. -/
def RoomCs (w : World) (g : Nat) (l : List CallM) : Prop := RoomK w g l.length l.length l ∧ w.cell? ⟨g, l.length * 3, none⟩ = some (.int .i64 (-4711))
theorem madeCalls_size (n : Nat) : (madeCells #[.int .i64 0, .int .i64 0, .slice none 0 0] (n * 3)).size = n * 3 := by simp [madeCells]
set_option maxRecDepth 20000 in
set_option maxHeartbeats 1000000 in
theorem roomyCalls_any (v : Value) (l : List CallM) (w : World) (h : RdCalls w v l) (hl : (l.length + 1) * 40 ≤ 140737488355328) : Calls Try.prog 25 #[v] w fun e w' => (∃ g, e = .returned (.slice (some ⟨g, 0, none⟩) l.length (l.length + 1)) ∧ w.heap.size ≤ g ∧ RoomCs w' g l) ∧ Kp w w' := by
  have HL := hid h
  obtain ⟨A, c, rfl, hc⟩ := h.form
  clear h
  obtain ⟨e0, hT0, hi0, hz0, hz1, hz2, _, _⟩ := elCall
  have hmk : ∀ u : World, (Instr.makeSlice 22 (.int .i64 ((l.length : Int) + 1)) (.int .i64 ((l.length : Int) + 1))).run Try.prog u =
      .ok (.slice (some ⟨u.heap.size, 0, none⟩) (l.length + 1) (l.length + 1)) (u.alloc (.cells (madeCells #[.int .i64 0, .int .i64 0, .slice none 0 0] ((l.length + 1) * 3)) 25)) := fun u => by
    have h := run_make (P := Try.prog) u 22 25 e0 _ hT0 hi0 hz0 .i64 .i64 ((l.length : Int) + 1) ((l.length : Int) + 1) (by omega) (Int.le_refl _) (by rw [hz2]; omega) (by omega)
    have e : ((l.length : Int) + 1).toNat = l.length + 1 := by omega
    rw [e] at h
    simpa [hz1, Value.cells] using h
  clear hT0 hi0 hz0 hz1 hz2
  go_enter Try.func25, Try.ntmps25
  go_wp2
  clear hmk
  go_loopw [4] (fun i wr => ∃ k : Nat, k ≤ l.length ∧ i = .int .i64 k ∧ RoomK wr w.heap.size l.length k l ∧ Kp w wr) (fun i _ => l.length - (intOf i).toNat)
  case atStart => exact ⟨0, by omega, rfl, ⟨_, blk_new _ _, madeCalls_size _, fun i m hi => by omega⟩, (Kp.refl _).alloc _⟩
  case round =>
    obtain ⟨k, hk, rfl, hrk, hkp⟩ := hrel
    have HK := hid hrk; have HKP := hid hkp
    by_cases hlt : k < l.length
    · obtain ⟨m, hm⟩ : ∃ m, l[k]? = some m := ⟨_, List.getElem?_eq_getElem hlt⟩
      have HM := hid hm
      obtain ⟨b, off, rfl, hb, la, q0, q1, q2, o0, o1, o2, o3⟩ := at_call HL.out hm
      obtain ⟨bx0, f0⟩ := hrk.box (show k * 3 < (l.length + 1) * 3 by omega)
      obtain ⟨bx1, f1⟩ := hrk.box (show k * 3 + 1 < (l.length + 1) * 3 by omega)
      obtain ⟨bx2, f2⟩ := hrk.box (show k * 3 + 2 < (l.length + 1) * 3 by omega)
      have q0' := cell_kp hkp hb q0; have q1' := cell_kp hkp hb q1; have q2' := cell_kp hkp hb q2
      obtain ⟨A2, c2, rfl⟩ := o2.form
      have HR := hid o2; have HO := hid (show (∀ x ∈ m.args, okI x) ∧ okI m.site ∧ okI m.fn from ⟨o2.2.1, o0, o1⟩)
      have i1 : (k : Int) < (l.length : Int) := by omega
      have i2 : (k : Int) < ((l.length + 1 : Nat) : Int) := by omega
      clear hrk hkp hm o2 o0 o1 q0 q1 q2
      have hm2 : (m.args.length + 2) * 8 ≤ 140737488355328 := by omega
      have hks : Kp w (((wr.setCell ⟨w.heap.size, k * 3, none⟩ (.int .i64 m.site)).setCell ⟨w.heap.size, k * 3 + 1, none⟩ (.int .i64 m.fn)).setCell ⟨w.heap.size, k * 3 + 2, none⟩ (.slice A2 m.args.length c2)) := ((HKP.out.setCell (Nat.le_refl _) _).setCell (Nat.le_refl _) _).setCell (Nat.le_refl _) _
      have HKS := hid hks
      have hgl : w.heap.size < wr.heap.size := by obtain ⟨_, h, _⟩ := HK.out; exact blk_lt h
      clear hks
      go_wp2_with (go_at_call 26; go_must (refine (roomy_any _ m.args _ (HR.out.kp HKS.out) hm2).mono ?_); rintro e W3 ⟨⟨gi, rfl, hgi, hri⟩, hk3⟩; have HPUT := hid (HK.out.put hlt HM.out hk3 hri o3 HO.out); have HK3 := hid hk3; obtain ⟨p2, g2⟩ := ((BoxAt.mk_ bx2 f2).setCell ⟨w.heap.size, k * 3, none⟩ (.int .i64 m.site) |>.setCell ⟨w.heap.size, k * 3 + 1, none⟩ (.int .i64 m.fn) |>.setCell ⟨w.heap.size, k * 3 + 2, none⟩ (.slice A2 m.args.length c2)).kp hk3 (by simp [World.setCell]; exact hgl); clear hri hk3)
      go_roundw
      case rel => exact ⟨k + 1, hlt, by simp, HPUT.out, (HKS.out.trans HK3.out).setCell (Nat.le_refl _) _⟩
      case measure => simp [intOf]; omega
    · obtain rfl : k = l.length := by omega
      have i1 : ¬ (l.length : Int) < (l.length : Int) := by omega
      have i2 : (l.length : Int) < ((l.length + 1 : Nat) : Int) := by omega
      obtain ⟨bx0, f0⟩ := hrk.box (show l.length * 3 < (l.length + 1) * 3 by omega)
      obtain ⟨bx1, f1⟩ := hrk.box (show l.length * 3 + 1 < (l.length + 1) * 3 by omega)
      obtain ⟨bx2, f2⟩ := hrk.box (show l.length * 3 + 2 < (l.length + 1) * 3 by omega)
      have HM := hid (hrk.mark (.int .i64 0) (.slice none 0 0))
      have hkm : Kp w (((wr.setCell ⟨w.heap.size, l.length * 3, none⟩ (.int .i64 (-4711))).setCell ⟨w.heap.size, l.length * 3 + 1, none⟩ (.int .i64 0)).setCell ⟨w.heap.size, l.length * 3 + 2, none⟩ (.slice none 0 0)) := ((HKP.out.setCell (Nat.le_refl _) _).setCell (Nat.le_refl _) _).setCell (Nat.le_refl _) _
      have HKM := hid hkm
      clear hrk hkp hkm
      go_wp2
      go_ret
      exact ⟨⟨_, rfl, Nat.le_refl _, HM.out⟩, HKM.out⟩
theorem RoomCs.kp {w w' : World} {g : Nat} {l : List CallM} (h : RoomCs w g l) (hk : Kp w w') : RoomCs w' g l := by
  have hb : g < w.heap.size := by obtain ⟨⟨_, h, _⟩, _⟩ := h; exact blk_lt h
  exact ⟨h.1.kp hk, cell_kp hk hb h.2⟩
theorem RoomCs.lt {w : World} {g : Nat} {l : List CallM} (h : RoomCs w g l) : g < w.heap.size := by obtain ⟨⟨_, h, _⟩, _⟩ := h; exact blk_lt h
theorem RoomCs.at_ {w : World} {g : Nat} {l : List CallM} (h : RoomCs w g l) {k : Nat} {m : CallM} (hm : l[k]? = some m) : ∃ gi, w.cell? ⟨g, k * 3, none⟩ = some (.int .i64 m.site) ∧ w.cell? ⟨g, k * 3 + 1, none⟩ = some (.int .i64 m.fn) ∧ w.cell? ⟨g, k * 3 + 2, none⟩ = some (.slice (some ⟨gi, 0, none⟩) m.args.length (m.args.length + 2)) ∧ RoomAt w gi m.args ∧ m.args.length * 8 ≤ 140737488351232 ∧ (∀ x ∈ m.args, okI x) ∧ okI m.site ∧ okI m.fn := by
  obtain ⟨⟨cur, h1, _, h3⟩, _⟩ := h
  obtain ⟨gi, k1, k2, k3, k4⟩ := h3 k m (List.getElem?_eq_some_iff.1 hm).1 hm
  exact ⟨gi, blk_cell h1 k1, blk_cell h1 k2, blk_cell h1 k3, k4⟩
/-- As a reader sees them. -/
theorem RoomCs.rd {w : World} {g : Nat} {l : List CallM} (h : RoomCs w g l) : RdCalls w (.slice (some ⟨g, 0, none⟩) l.length (l.length + 1)) l := by
  refine ⟨_, _, rfl, by omega, fun i m hm => ?_⟩
  obtain ⟨gi, k1, k2, k3, k4, k5, k6, k7, k8⟩ := h.at_ hm
  refine ⟨g, 0, [.int .i64 m.site, .int .i64 m.fn, .slice (some ⟨gi, 0, none⟩) m.args.length (m.args.length + 2)], rfl, h.lt, ⟨_, rfl, k7, k8, k4.rd (by omega) k6, k5⟩, rfl, fun j hj => ?_⟩
  rw [Nat.zero_add]
  match j, hj with
  | 0, _ => exact k1
  | 1, _ => exact k2
  | 2, _ => exact k3
set_option maxRecDepth 20000 in
set_option maxHeartbeats 1000000 in
theorem stayedCalls_any (g : Nat) (lv : Value) (l : List CallM) (w : World) (h : RoomCs w g l) (hr : RdCalls w lv l) (hl : l.length ≤ 140737488355328) : Calls Try.prog 29 #[.slice (some ⟨g, 0, none⟩) l.length (l.length + 1), lv] w fun e w' => e = .returned (.bool true) ∧ Kp w w' := by
  have HR := hid hr; have H := hid h
  obtain ⟨A, c, rfl, hc⟩ := hr.form
  have hm := h.2
  have i0 : l.length < l.length + 1 := by omega
  clear h hr
  go_enter Try.func29, Try.ntmps29
  go_wp2
  go_loopw [5] (fun i wr => ∃ k : Nat, k ≤ l.length ∧ i = .int .i64 k ∧ Kp w wr) (fun i _ => l.length - (intOf i).toNat)
  case atStart => exact ⟨0, by omega, rfl, Kp.refl _⟩
  case round =>
    obtain ⟨k, hk, rfl, hkp⟩ := hrel
    have HKP := hid hkp
    by_cases hlt : k < l.length
    · have i1 : (k : Int) < (l.length : Int) := by omega
      obtain ⟨m, hm⟩ : ∃ m, l[k]? = some m := ⟨_, List.getElem?_eq_getElem hlt⟩
      obtain ⟨gi, p0, p1, p2, p3, _⟩ := (H.out.kp hkp).at_ hm
      obtain ⟨b, off, rfl, hb, la, q0, q1, q2, _, _, o2, _⟩ := at_call (HR.out.kp hkp) hm
      obtain ⟨A2, c2, rfl⟩ := o2.form
      have hgw := ((H.out.kp hkp).lt)
      have HP0 := hid p0; have HP1 := hid p1; have HP2 := hid p2; have HP3 := hid p3; have HQ0 := hid q0; have HQ1 := hid q1; have HQ2 := hid q2; have HO := hid o2
      clear hm p0 p1 p2 p3 q0 q1 q2 o2 hkp
      go_wp2
      refine wp_region_kp [[], [], [0, 1], [2], [3], [], [], [5, 6], [7], [8], [4, 9], [10], [11], [11], [11, 12, 13], [11, 14], [11, 15], [11], [11], [11, 17, 18], [11, 19], [11, 20], [11, 16, 21], [11, 22], [23], [24], [24], [24, 25, 26], [24, 27], [24, 28], [24], [24], [24, 30, 31], [24, 32], [24, 33], [24, 29, 34], [24, 35], [24, 36]] (fun u => Kp wr u)
        [fun (y : Value) (u : World) => y = (.slice (some ⟨g, 0, none⟩) l.length (l.length + 1) : Value),
         fun (y : Value) (u : World) => y = (.int .i64 (k : Int) : Value),
         fun (y : Value) (u : World) => y = (.pointer (some ⟨g, k * 3, none⟩) : Value),
         fun (y : Value) (u : World) => y = (.pointer (some ⟨g, k * 3, none⟩) : Value),
         fun (y : Value) (u : World) => y = (.int .i64 m.site : Value),
         fun (y : Value) (u : World) => y = (.slice (some ⟨b, off, none⟩) l.length c : Value),
         fun (y : Value) (u : World) => y = (.int .i64 (k : Int) : Value),
         fun (y : Value) (u : World) => y = (.pointer (some ⟨b, off + k * 3, none⟩) : Value),
         fun (y : Value) (u : World) => y = (.pointer (some ⟨b, off + k * 3, none⟩) : Value),
         fun (y : Value) (u : World) => y = (.int .i64 m.site : Value),
         fun (y : Value) (u : World) => y = (.bool false : Value),
         fun (y : Value) (u : World) => y = (.bool false : Value),
         fun (y : Value) (u : World) => y = (.slice (some ⟨g, 0, none⟩) l.length (l.length + 1) : Value),
         fun (y : Value) (u : World) => y = (.int .i64 (k : Int) : Value),
         fun (y : Value) (u : World) => y = (.pointer (some ⟨g, k * 3, none⟩) : Value),
         fun (y : Value) (u : World) => y = (.pointer (some ⟨g, k * 3 + 1, none⟩) : Value),
         fun (y : Value) (u : World) => y = (.int .i64 m.fn : Value),
         fun (y : Value) (u : World) => y = (.slice (some ⟨b, off, none⟩) l.length c : Value),
         fun (y : Value) (u : World) => y = (.int .i64 (k : Int) : Value),
         fun (y : Value) (u : World) => y = (.pointer (some ⟨b, off + k * 3, none⟩) : Value),
         fun (y : Value) (u : World) => y = (.pointer (some ⟨b, off + k * 3 + 1, none⟩) : Value),
         fun (y : Value) (u : World) => y = (.int .i64 m.fn : Value),
         fun (y : Value) (u : World) => y = (.bool false : Value),
         fun (y : Value) (u : World) => y = (.bool false : Value),
         fun (y : Value) (u : World) => y = (.bool false : Value),
         fun (y : Value) (u : World) => y = (.slice (some ⟨g, 0, none⟩) l.length (l.length + 1) : Value),
         fun (y : Value) (u : World) => y = (.int .i64 (k : Int) : Value),
         fun (y : Value) (u : World) => y = (.pointer (some ⟨g, k * 3, none⟩) : Value),
         fun (y : Value) (u : World) => y = (.pointer (some ⟨g, k * 3 + 2, none⟩) : Value),
         fun (y : Value) (u : World) => y = (.slice (some ⟨gi, 0, none⟩) m.args.length (m.args.length + 2) : Value),
         fun (y : Value) (u : World) => y = (.slice (some ⟨b, off, none⟩) l.length c : Value),
         fun (y : Value) (u : World) => y = (.int .i64 (k : Int) : Value),
         fun (y : Value) (u : World) => y = (.pointer (some ⟨b, off + k * 3, none⟩) : Value),
         fun (y : Value) (u : World) => y = (.pointer (some ⟨b, off + k * 3 + 2, none⟩) : Value),
         fun (y : Value) (u : World) => y = (.slice A2 m.args.length c2 : Value),
         fun (y : Value) (u : World) => y = (.bool true : Value),
         fun (y : Value) (u : World) => y = (.bool false : Value),
         fun (y : Value) (u : World) => y = (.bool false : Value)]
        (by kernel_rfl) (by kernel_rfl) (by kernel_rfl) (by kernel_rfl) ((Kp.refl _).drew) (fun _ _ hk h => h.trans hk) ⟨fun _ _ _ _ h => h, fun _ _ _ _ h => h, fun _ _ _ _ h => h, fun _ _ _ _ h => h, fun _ _ _ _ h => h, fun _ _ _ _ h => h, fun _ _ _ _ h => h, fun _ _ _ _ h => h, fun _ _ _ _ h => h, fun _ _ _ _ h => h, fun _ _ _ _ h => h, fun _ _ _ _ h => h, fun _ _ _ _ h => h, fun _ _ _ _ h => h, fun _ _ _ _ h => h, fun _ _ _ _ h => h, fun _ _ _ _ h => h, fun _ _ _ _ h => h, fun _ _ _ _ h => h, fun _ _ _ _ h => h, fun _ _ _ _ h => h, fun _ _ _ _ h => h, fun _ _ _ _ h => h, fun _ _ _ _ h => h, fun _ _ _ _ h => h, fun _ _ _ _ h => h, fun _ _ _ _ h => h, fun _ _ _ _ h => h, fun _ _ _ _ h => h, fun _ _ _ _ h => h, fun _ _ _ _ h => h, fun _ _ _ _ h => h, fun _ _ _ _ h => h, fun _ _ _ _ h => h, fun _ _ _ _ h => h, fun _ _ _ _ h => h, fun _ _ _ _ h => h, fun _ _ _ _ h => h, trivial⟩ ⟨?sb0, ?sb1, ?sb2, ?sb3, ?sb4, ?sb5, ?sb6, ?sb7, ?sb8, ?sb9, ?sb10, ?sb11, ?sb12, ?sb13, ?sb14, ?sb15, ?sb16, ?sb17, ?sb18, ?sb19, ?sb20, ?sb21, ?sb22, ?sb23, ?sb24, ?sb25, ?sb26, ?sb27, ?sb28, ?sb29, ?sb30, ?sb31, ?sb32, ?sb33, ?sb34, ?sb35, ?sb36, ?sb37, trivial⟩ ?hEb
      case sb0 =>
        intro x u hg hd K hK
        clear hd
        refine ⟨?_⟩
        simp only [putsFrom, Act.put, List.setIfInBounds_toArray, List.set_cons_zero, List.set_cons_succ, Nat.reduceAdd] at hK ⊢
        go_simp
        exact hK.out _ _ (Kp.refl _) rfl
      case sb1 =>
        intro x u hg hd K hK
        clear hd
        refine ⟨?_⟩
        simp only [putsFrom, Act.put, List.setIfInBounds_toArray, List.set_cons_zero, List.set_cons_succ, Nat.reduceAdd] at hK ⊢
        go_simp
        exact hK.out _ _ (Kp.refl _) rfl
      case sb2 =>
        intro x u hg hd K hK
        have d0 : (x 0) = .slice (some ⟨g, 0, none⟩) l.length (l.length + 1) := And.left hd
        have d1 : (x 1) = .int .i64 (k : Int) := And.left (And.right hd)
        clear hd
        refine ⟨?_⟩
        simp only [putsFrom, Act.put, List.setIfInBounds_toArray, List.set_cons_zero, List.set_cons_succ, Nat.reduceAdd, d0, d1] at hK ⊢
        go_simp
        exact hK.out _ _ (Kp.refl _) rfl
      case sb3 =>
        intro x u hg hd K hK
        have d2 : (x 2) = .pointer (some ⟨g, k * 3, none⟩) := And.left hd
        clear hd
        refine ⟨?_⟩
        simp only [putsFrom, Act.put, List.setIfInBounds_toArray, List.set_cons_zero, List.set_cons_succ, Nat.reduceAdd, d2] at hK ⊢
        go_simp
        exact hK.out _ _ (Kp.refl _) rfl
      case sb4 =>
        intro x u hg hd K hK
        have d3 : (x 3) = .pointer (some ⟨g, k * 3, none⟩) := And.left hd
        clear hd
        have q0 := cell_kp hg hgw HP0.out
        refine ⟨?_⟩
        simp only [putsFrom, Act.put, List.setIfInBounds_toArray, List.set_cons_zero, List.set_cons_succ, Nat.reduceAdd, d3] at hK ⊢
        go_simp
        exact hK.out _ _ (Kp.refl _) rfl
      case sb5 =>
        intro x u hg hd K hK
        clear hd
        refine ⟨?_⟩
        simp only [putsFrom, Act.put, List.setIfInBounds_toArray, List.set_cons_zero, List.set_cons_succ, Nat.reduceAdd] at hK ⊢
        go_simp
        exact hK.out _ _ (Kp.refl _) rfl
      case sb6 =>
        intro x u hg hd K hK
        clear hd
        refine ⟨?_⟩
        simp only [putsFrom, Act.put, List.setIfInBounds_toArray, List.set_cons_zero, List.set_cons_succ, Nat.reduceAdd] at hK ⊢
        go_simp
        exact hK.out _ _ (Kp.refl _) rfl
      case sb7 =>
        intro x u hg hd K hK
        have d5 : (x 5) = .slice (some ⟨b, off, none⟩) l.length c := And.left hd
        have d6 : (x 6) = .int .i64 (k : Int) := And.left (And.right hd)
        clear hd
        refine ⟨?_⟩
        simp only [putsFrom, Act.put, List.setIfInBounds_toArray, List.set_cons_zero, List.set_cons_succ, Nat.reduceAdd, d5, d6] at hK ⊢
        go_simp
        exact hK.out _ _ (Kp.refl _) rfl
      case sb8 =>
        intro x u hg hd K hK
        have d7 : (x 7) = .pointer (some ⟨b, off + k * 3, none⟩) := And.left hd
        clear hd
        refine ⟨?_⟩
        simp only [putsFrom, Act.put, List.setIfInBounds_toArray, List.set_cons_zero, List.set_cons_succ, Nat.reduceAdd, d7] at hK ⊢
        go_simp
        exact hK.out _ _ (Kp.refl _) rfl
      case sb9 =>
        intro x u hg hd K hK
        have d8 : (x 8) = .pointer (some ⟨b, off + k * 3, none⟩) := And.left hd
        clear hd
        have q0 := cell_kp hg hb HQ0.out
        refine ⟨?_⟩
        simp only [putsFrom, Act.put, List.setIfInBounds_toArray, List.set_cons_zero, List.set_cons_succ, Nat.reduceAdd, d8] at hK ⊢
        go_simp
        exact hK.out _ _ (Kp.refl _) rfl
      case sb10 =>
        intro x u hg hd K hK
        have d4 : (x 4) = .int .i64 m.site := And.left hd
        have d9 : (x 9) = .int .i64 m.site := And.left (And.right hd)
        clear hd
        refine ⟨?_⟩
        simp only [putsFrom, Act.put, List.setIfInBounds_toArray, List.set_cons_zero, List.set_cons_succ, Nat.reduceAdd, d4, d9] at hK ⊢
        go_simp
        exact hK.out _ _ (Kp.refl _) rfl
      case sb11 =>
        intro x u hg hd K hK
        have d10 : (x 10) = .bool false := And.left hd
        clear hd
        refine ⟨?_⟩
        simp only [putsFrom, Act.put, List.setIfInBounds_toArray, List.set_cons_zero, List.set_cons_succ, Nat.reduceAdd, d10] at hK ⊢
        go_simp
        exact hK.out _ _ (Kp.refl _) rfl
      case sb12 =>
        intro x u hg hd K hK
        have d11 : (x 11) = .bool false := And.left hd
        clear hd
        refine ⟨?_⟩
        simp only [putsFrom, Act.put, List.setIfInBounds_toArray, List.set_cons_zero, List.set_cons_succ, Nat.reduceAdd, d11] at hK ⊢
        go_simp
        exact hK.out _ _ (Kp.refl _) rfl
      case sb13 =>
        intro x u hg hd K hK
        have d11 : (x 11) = .bool false := And.left hd
        clear hd
        refine ⟨?_⟩
        simp only [putsFrom, Act.put, List.setIfInBounds_toArray, List.set_cons_zero, List.set_cons_succ, Nat.reduceAdd, d11] at hK ⊢
        go_simp
        exact hK.out _ _ (Kp.refl _) rfl
      case sb14 =>
        intro x u hg hd K hK
        have d11 : (x 11) = .bool false := And.left hd
        have d12 : (x 12) = .slice (some ⟨g, 0, none⟩) l.length (l.length + 1) := And.left (And.right hd)
        have d13 : (x 13) = .int .i64 (k : Int) := And.left (And.right (And.right hd))
        clear hd
        refine ⟨?_⟩
        simp only [putsFrom, Act.put, List.setIfInBounds_toArray, List.set_cons_zero, List.set_cons_succ, Nat.reduceAdd, d11, d12, d13] at hK ⊢
        go_simp
        exact hK.out _ _ (Kp.refl _) rfl
      case sb15 =>
        intro x u hg hd K hK
        have d11 : (x 11) = .bool false := And.left hd
        have d14 : (x 14) = .pointer (some ⟨g, k * 3, none⟩) := And.left (And.right hd)
        clear hd
        refine ⟨?_⟩
        simp only [putsFrom, Act.put, List.setIfInBounds_toArray, List.set_cons_zero, List.set_cons_succ, Nat.reduceAdd, d11, d14] at hK ⊢
        go_simp
        exact hK.out _ _ (Kp.refl _) rfl
      case sb16 =>
        intro x u hg hd K hK
        have d11 : (x 11) = .bool false := And.left hd
        have d15 : (x 15) = .pointer (some ⟨g, k * 3 + 1, none⟩) := And.left (And.right hd)
        clear hd
        have q0 := cell_kp hg hgw HP1.out
        refine ⟨?_⟩
        simp only [putsFrom, Act.put, List.setIfInBounds_toArray, List.set_cons_zero, List.set_cons_succ, Nat.reduceAdd, d11, d15] at hK ⊢
        go_simp
        exact hK.out _ _ (Kp.refl _) rfl
      case sb17 =>
        intro x u hg hd K hK
        have d11 : (x 11) = .bool false := And.left hd
        clear hd
        refine ⟨?_⟩
        simp only [putsFrom, Act.put, List.setIfInBounds_toArray, List.set_cons_zero, List.set_cons_succ, Nat.reduceAdd, d11] at hK ⊢
        go_simp
        exact hK.out _ _ (Kp.refl _) rfl
      case sb18 =>
        intro x u hg hd K hK
        have d11 : (x 11) = .bool false := And.left hd
        clear hd
        refine ⟨?_⟩
        simp only [putsFrom, Act.put, List.setIfInBounds_toArray, List.set_cons_zero, List.set_cons_succ, Nat.reduceAdd, d11] at hK ⊢
        go_simp
        exact hK.out _ _ (Kp.refl _) rfl
      case sb19 =>
        intro x u hg hd K hK
        have d11 : (x 11) = .bool false := And.left hd
        have d17 : (x 17) = .slice (some ⟨b, off, none⟩) l.length c := And.left (And.right hd)
        have d18 : (x 18) = .int .i64 (k : Int) := And.left (And.right (And.right hd))
        clear hd
        refine ⟨?_⟩
        simp only [putsFrom, Act.put, List.setIfInBounds_toArray, List.set_cons_zero, List.set_cons_succ, Nat.reduceAdd, d11, d17, d18] at hK ⊢
        go_simp
        exact hK.out _ _ (Kp.refl _) rfl
      case sb20 =>
        intro x u hg hd K hK
        have d11 : (x 11) = .bool false := And.left hd
        have d19 : (x 19) = .pointer (some ⟨b, off + k * 3, none⟩) := And.left (And.right hd)
        clear hd
        refine ⟨?_⟩
        simp only [putsFrom, Act.put, List.setIfInBounds_toArray, List.set_cons_zero, List.set_cons_succ, Nat.reduceAdd, d11, d19] at hK ⊢
        go_simp
        exact hK.out _ _ (Kp.refl _) rfl
      case sb21 =>
        intro x u hg hd K hK
        have d11 : (x 11) = .bool false := And.left hd
        have d20 : (x 20) = .pointer (some ⟨b, off + k * 3 + 1, none⟩) := And.left (And.right hd)
        clear hd
        have q0 := cell_kp hg hb HQ1.out
        refine ⟨?_⟩
        simp only [putsFrom, Act.put, List.setIfInBounds_toArray, List.set_cons_zero, List.set_cons_succ, Nat.reduceAdd, d11, d20] at hK ⊢
        go_simp
        exact hK.out _ _ (Kp.refl _) rfl
      case sb22 =>
        intro x u hg hd K hK
        have d11 : (x 11) = .bool false := And.left hd
        have d16 : (x 16) = .int .i64 m.fn := And.left (And.right hd)
        have d21 : (x 21) = .int .i64 m.fn := And.left (And.right (And.right hd))
        clear hd
        refine ⟨?_⟩
        simp only [putsFrom, Act.put, List.setIfInBounds_toArray, List.set_cons_zero, List.set_cons_succ, Nat.reduceAdd, d11, d16, d21] at hK ⊢
        go_simp
        exact hK.out _ _ (Kp.refl _) rfl
      case sb23 =>
        intro x u hg hd K hK
        have d11 : (x 11) = .bool false := And.left hd
        have d22 : (x 22) = .bool false := And.left (And.right hd)
        clear hd
        refine ⟨?_⟩
        simp only [putsFrom, Act.put, List.setIfInBounds_toArray, List.set_cons_zero, List.set_cons_succ, Nat.reduceAdd, d11, d22] at hK ⊢
        go_simp
        exact hK.out _ _ (Kp.refl _) rfl
      case sb24 =>
        intro x u hg hd K hK
        have d23 : (x 23) = .bool false := And.left hd
        clear hd
        refine ⟨?_⟩
        simp only [putsFrom, Act.put, List.setIfInBounds_toArray, List.set_cons_zero, List.set_cons_succ, Nat.reduceAdd, d23] at hK ⊢
        go_simp
        exact hK.out _ _ (Kp.refl _) rfl
      case sb25 =>
        intro x u hg hd K hK
        have d24 : (x 24) = .bool false := And.left hd
        clear hd
        refine ⟨?_⟩
        simp only [putsFrom, Act.put, List.setIfInBounds_toArray, List.set_cons_zero, List.set_cons_succ, Nat.reduceAdd, d24] at hK ⊢
        go_simp
        exact hK.out _ _ (Kp.refl _) rfl
      case sb26 =>
        intro x u hg hd K hK
        have d24 : (x 24) = .bool false := And.left hd
        clear hd
        refine ⟨?_⟩
        simp only [putsFrom, Act.put, List.setIfInBounds_toArray, List.set_cons_zero, List.set_cons_succ, Nat.reduceAdd, d24] at hK ⊢
        go_simp
        exact hK.out _ _ (Kp.refl _) rfl
      case sb27 =>
        intro x u hg hd K hK
        have d24 : (x 24) = .bool false := And.left hd
        have d25 : (x 25) = .slice (some ⟨g, 0, none⟩) l.length (l.length + 1) := And.left (And.right hd)
        have d26 : (x 26) = .int .i64 (k : Int) := And.left (And.right (And.right hd))
        clear hd
        refine ⟨?_⟩
        simp only [putsFrom, Act.put, List.setIfInBounds_toArray, List.set_cons_zero, List.set_cons_succ, Nat.reduceAdd, d24, d25, d26] at hK ⊢
        go_simp
        exact hK.out _ _ (Kp.refl _) rfl
      case sb28 =>
        intro x u hg hd K hK
        have d24 : (x 24) = .bool false := And.left hd
        have d27 : (x 27) = .pointer (some ⟨g, k * 3, none⟩) := And.left (And.right hd)
        clear hd
        refine ⟨?_⟩
        simp only [putsFrom, Act.put, List.setIfInBounds_toArray, List.set_cons_zero, List.set_cons_succ, Nat.reduceAdd, d24, d27] at hK ⊢
        go_simp
        exact hK.out _ _ (Kp.refl _) rfl
      case sb29 =>
        intro x u hg hd K hK
        have d24 : (x 24) = .bool false := And.left hd
        have d28 : (x 28) = .pointer (some ⟨g, k * 3 + 2, none⟩) := And.left (And.right hd)
        clear hd
        have q0 := cell_kp hg hgw HP2.out
        refine ⟨?_⟩
        simp only [putsFrom, Act.put, List.setIfInBounds_toArray, List.set_cons_zero, List.set_cons_succ, Nat.reduceAdd, d24, d28] at hK ⊢
        go_simp
        exact hK.out _ _ (Kp.refl _) rfl
      case sb30 =>
        intro x u hg hd K hK
        have d24 : (x 24) = .bool false := And.left hd
        clear hd
        refine ⟨?_⟩
        simp only [putsFrom, Act.put, List.setIfInBounds_toArray, List.set_cons_zero, List.set_cons_succ, Nat.reduceAdd, d24] at hK ⊢
        go_simp
        exact hK.out _ _ (Kp.refl _) rfl
      case sb31 =>
        intro x u hg hd K hK
        have d24 : (x 24) = .bool false := And.left hd
        clear hd
        refine ⟨?_⟩
        simp only [putsFrom, Act.put, List.setIfInBounds_toArray, List.set_cons_zero, List.set_cons_succ, Nat.reduceAdd, d24] at hK ⊢
        go_simp
        exact hK.out _ _ (Kp.refl _) rfl
      case sb32 =>
        intro x u hg hd K hK
        have d24 : (x 24) = .bool false := And.left hd
        have d30 : (x 30) = .slice (some ⟨b, off, none⟩) l.length c := And.left (And.right hd)
        have d31 : (x 31) = .int .i64 (k : Int) := And.left (And.right (And.right hd))
        clear hd
        refine ⟨?_⟩
        simp only [putsFrom, Act.put, List.setIfInBounds_toArray, List.set_cons_zero, List.set_cons_succ, Nat.reduceAdd, d24, d30, d31] at hK ⊢
        go_simp
        exact hK.out _ _ (Kp.refl _) rfl
      case sb33 =>
        intro x u hg hd K hK
        have d24 : (x 24) = .bool false := And.left hd
        have d32 : (x 32) = .pointer (some ⟨b, off + k * 3, none⟩) := And.left (And.right hd)
        clear hd
        refine ⟨?_⟩
        simp only [putsFrom, Act.put, List.setIfInBounds_toArray, List.set_cons_zero, List.set_cons_succ, Nat.reduceAdd, d24, d32] at hK ⊢
        go_simp
        exact hK.out _ _ (Kp.refl _) rfl
      case sb34 =>
        intro x u hg hd K hK
        have d24 : (x 24) = .bool false := And.left hd
        have d33 : (x 33) = .pointer (some ⟨b, off + k * 3 + 2, none⟩) := And.left (And.right hd)
        clear hd
        have q0 := cell_kp hg hb HQ2.out
        refine ⟨?_⟩
        simp only [putsFrom, Act.put, List.setIfInBounds_toArray, List.set_cons_zero, List.set_cons_succ, Nat.reduceAdd, d24, d33] at hK ⊢
        go_simp
        exact hK.out _ _ (Kp.refl _) rfl
      case sb35 =>
        intro x u hg hd K hK
        have d24 : (x 24) = .bool false := And.left hd
        have d29 : (x 29) = .slice (some ⟨gi, 0, none⟩) m.args.length (m.args.length + 2) := And.left (And.right hd)
        have d34 : (x 34) = .slice A2 m.args.length c2 := And.left (And.right (And.right hd))
        clear hd
        refine ⟨?_⟩
        simp only [putsFrom, Act.put, List.setIfInBounds_toArray, List.set_cons_zero, List.set_cons_succ, Nat.reduceAdd, d24, d29, d34] at hK ⊢
        go_simp
        go_at_call 30
        have hc := stayed_any gi _ m.args _ (HP3.out.kp hg) (HO.out.kp hg)
        refine hc.mono ?_
        clear hc
        rintro e u' ⟨rfl, hk⟩
        dsimp only
        exact hK.out _ _ hk rfl
      case sb36 =>
        intro x u hg hd K hK
        have d24 : (x 24) = .bool false := And.left hd
        have d35 : (x 35) = .bool true := And.left (And.right hd)
        clear hd
        refine ⟨?_⟩
        simp only [putsFrom, Act.put, List.setIfInBounds_toArray, List.set_cons_zero, List.set_cons_succ, Nat.reduceAdd, d24, d35] at hK ⊢
        go_simp
        exact hK.out _ _ (Kp.refl _) rfl
      case sb37 =>
        intro x u hg hd K hK
        have d24 : (x 24) = .bool false := And.left hd
        have d36 : (x 36) = .bool false := And.left (And.right hd)
        clear hd
        refine ⟨?_⟩
        simp only [putsFrom, Act.put, List.setIfInBounds_toArray, List.set_cons_zero, List.set_cons_succ, Nat.reduceAdd, d24, d36] at hK ⊢
        go_simp
        exact hK.out _ _ (Kp.refl _) rfl
      intro x u hg he
      have d0 : (x 0) = .slice (some ⟨g, 0, none⟩) l.length (l.length + 1) := And.left he
      have d1 : (x 1) = .int .i64 (k : Int) := And.left (And.right he)
      have d2 : (x 2) = .pointer (some ⟨g, k * 3, none⟩) := And.left (And.right (And.right he))
      have d3 : (x 3) = .pointer (some ⟨g, k * 3, none⟩) := And.left (And.right (And.right (And.right he)))
      have d4 : (x 4) = .int .i64 m.site := And.left (And.right (And.right (And.right (And.right he))))
      have d5 : (x 5) = .slice (some ⟨b, off, none⟩) l.length c := And.left (And.right (And.right (And.right (And.right (And.right he)))))
      have d6 : (x 6) = .int .i64 (k : Int) := And.left (And.right (And.right (And.right (And.right (And.right (And.right he))))))
      have d7 : (x 7) = .pointer (some ⟨b, off + k * 3, none⟩) := And.left (And.right (And.right (And.right (And.right (And.right (And.right (And.right he)))))))
      have d8 : (x 8) = .pointer (some ⟨b, off + k * 3, none⟩) := And.left (And.right (And.right (And.right (And.right (And.right (And.right (And.right (And.right he))))))))
      have d9 : (x 9) = .int .i64 m.site := And.left (And.right (And.right (And.right (And.right (And.right (And.right (And.right (And.right (And.right he)))))))))
      have d10 : (x 10) = .bool false := And.left (And.right (And.right (And.right (And.right (And.right (And.right (And.right (And.right (And.right (And.right he))))))))))
      have d11 : (x 11) = .bool false := And.left (And.right (And.right (And.right (And.right (And.right (And.right (And.right (And.right (And.right (And.right (And.right he)))))))))))
      have d12 : (x 12) = .slice (some ⟨g, 0, none⟩) l.length (l.length + 1) := And.left (And.right (And.right (And.right (And.right (And.right (And.right (And.right (And.right (And.right (And.right (And.right (And.right he))))))))))))
      have d13 : (x 13) = .int .i64 (k : Int) := And.left (And.right (And.right (And.right (And.right (And.right (And.right (And.right (And.right (And.right (And.right (And.right (And.right (And.right he)))))))))))))
      have d14 : (x 14) = .pointer (some ⟨g, k * 3, none⟩) := And.left (And.right (And.right (And.right (And.right (And.right (And.right (And.right (And.right (And.right (And.right (And.right (And.right (And.right (And.right he))))))))))))))
      have d15 : (x 15) = .pointer (some ⟨g, k * 3 + 1, none⟩) := And.left (And.right (And.right (And.right (And.right (And.right (And.right (And.right (And.right (And.right (And.right (And.right (And.right (And.right (And.right (And.right he)))))))))))))))
      have d16 : (x 16) = .int .i64 m.fn := And.left (And.right (And.right (And.right (And.right (And.right (And.right (And.right (And.right (And.right (And.right (And.right (And.right (And.right (And.right (And.right (And.right he))))))))))))))))
      have d17 : (x 17) = .slice (some ⟨b, off, none⟩) l.length c := And.left (And.right (And.right (And.right (And.right (And.right (And.right (And.right (And.right (And.right (And.right (And.right (And.right (And.right (And.right (And.right (And.right (And.right he)))))))))))))))))
      have d18 : (x 18) = .int .i64 (k : Int) := And.left (And.right (And.right (And.right (And.right (And.right (And.right (And.right (And.right (And.right (And.right (And.right (And.right (And.right (And.right (And.right (And.right (And.right (And.right he))))))))))))))))))
      have d19 : (x 19) = .pointer (some ⟨b, off + k * 3, none⟩) := And.left (And.right (And.right (And.right (And.right (And.right (And.right (And.right (And.right (And.right (And.right (And.right (And.right (And.right (And.right (And.right (And.right (And.right (And.right (And.right he)))))))))))))))))))
      have d20 : (x 20) = .pointer (some ⟨b, off + k * 3 + 1, none⟩) := And.left (And.right (And.right (And.right (And.right (And.right (And.right (And.right (And.right (And.right (And.right (And.right (And.right (And.right (And.right (And.right (And.right (And.right (And.right (And.right (And.right he))))))))))))))))))))
      have d21 : (x 21) = .int .i64 m.fn := And.left (And.right (And.right (And.right (And.right (And.right (And.right (And.right (And.right (And.right (And.right (And.right (And.right (And.right (And.right (And.right (And.right (And.right (And.right (And.right (And.right (And.right he)))))))))))))))))))))
      have d22 : (x 22) = .bool false := And.left (And.right (And.right (And.right (And.right (And.right (And.right (And.right (And.right (And.right (And.right (And.right (And.right (And.right (And.right (And.right (And.right (And.right (And.right (And.right (And.right (And.right (And.right he))))))))))))))))))))))
      have d23 : (x 23) = .bool false := And.left (And.right (And.right (And.right (And.right (And.right (And.right (And.right (And.right (And.right (And.right (And.right (And.right (And.right (And.right (And.right (And.right (And.right (And.right (And.right (And.right (And.right (And.right (And.right he)))))))))))))))))))))))
      have d24 : (x 24) = .bool false := And.left (And.right (And.right (And.right (And.right (And.right (And.right (And.right (And.right (And.right (And.right (And.right (And.right (And.right (And.right (And.right (And.right (And.right (And.right (And.right (And.right (And.right (And.right (And.right (And.right he))))))))))))))))))))))))
      have d25 : (x 25) = .slice (some ⟨g, 0, none⟩) l.length (l.length + 1) := And.left (And.right (And.right (And.right (And.right (And.right (And.right (And.right (And.right (And.right (And.right (And.right (And.right (And.right (And.right (And.right (And.right (And.right (And.right (And.right (And.right (And.right (And.right (And.right (And.right (And.right he)))))))))))))))))))))))))
      have d26 : (x 26) = .int .i64 (k : Int) := And.left (And.right (And.right (And.right (And.right (And.right (And.right (And.right (And.right (And.right (And.right (And.right (And.right (And.right (And.right (And.right (And.right (And.right (And.right (And.right (And.right (And.right (And.right (And.right (And.right (And.right (And.right he))))))))))))))))))))))))))
      have d27 : (x 27) = .pointer (some ⟨g, k * 3, none⟩) := And.left (And.right (And.right (And.right (And.right (And.right (And.right (And.right (And.right (And.right (And.right (And.right (And.right (And.right (And.right (And.right (And.right (And.right (And.right (And.right (And.right (And.right (And.right (And.right (And.right (And.right (And.right (And.right he)))))))))))))))))))))))))))
      have d28 : (x 28) = .pointer (some ⟨g, k * 3 + 2, none⟩) := And.left (And.right (And.right (And.right (And.right (And.right (And.right (And.right (And.right (And.right (And.right (And.right (And.right (And.right (And.right (And.right (And.right (And.right (And.right (And.right (And.right (And.right (And.right (And.right (And.right (And.right (And.right (And.right (And.right he))))))))))))))))))))))))))))
      have d29 : (x 29) = .slice (some ⟨gi, 0, none⟩) m.args.length (m.args.length + 2) := And.left (And.right (And.right (And.right (And.right (And.right (And.right (And.right (And.right (And.right (And.right (And.right (And.right (And.right (And.right (And.right (And.right (And.right (And.right (And.right (And.right (And.right (And.right (And.right (And.right (And.right (And.right (And.right (And.right (And.right he)))))))))))))))))))))))))))))
      have d30 : (x 30) = .slice (some ⟨b, off, none⟩) l.length c := And.left (And.right (And.right (And.right (And.right (And.right (And.right (And.right (And.right (And.right (And.right (And.right (And.right (And.right (And.right (And.right (And.right (And.right (And.right (And.right (And.right (And.right (And.right (And.right (And.right (And.right (And.right (And.right (And.right (And.right (And.right he))))))))))))))))))))))))))))))
      have d31 : (x 31) = .int .i64 (k : Int) := And.left (And.right (And.right (And.right (And.right (And.right (And.right (And.right (And.right (And.right (And.right (And.right (And.right (And.right (And.right (And.right (And.right (And.right (And.right (And.right (And.right (And.right (And.right (And.right (And.right (And.right (And.right (And.right (And.right (And.right (And.right (And.right he)))))))))))))))))))))))))))))))
      have d32 : (x 32) = .pointer (some ⟨b, off + k * 3, none⟩) := And.left (And.right (And.right (And.right (And.right (And.right (And.right (And.right (And.right (And.right (And.right (And.right (And.right (And.right (And.right (And.right (And.right (And.right (And.right (And.right (And.right (And.right (And.right (And.right (And.right (And.right (And.right (And.right (And.right (And.right (And.right (And.right (And.right he))))))))))))))))))))))))))))))))
      have d33 : (x 33) = .pointer (some ⟨b, off + k * 3 + 2, none⟩) := And.left (And.right (And.right (And.right (And.right (And.right (And.right (And.right (And.right (And.right (And.right (And.right (And.right (And.right (And.right (And.right (And.right (And.right (And.right (And.right (And.right (And.right (And.right (And.right (And.right (And.right (And.right (And.right (And.right (And.right (And.right (And.right (And.right (And.right he)))))))))))))))))))))))))))))))))
      have d34 : (x 34) = .slice A2 m.args.length c2 := And.left (And.right (And.right (And.right (And.right (And.right (And.right (And.right (And.right (And.right (And.right (And.right (And.right (And.right (And.right (And.right (And.right (And.right (And.right (And.right (And.right (And.right (And.right (And.right (And.right (And.right (And.right (And.right (And.right (And.right (And.right (And.right (And.right (And.right (And.right he))))))))))))))))))))))))))))))))))
      have d35 : (x 35) = .bool true := And.left (And.right (And.right (And.right (And.right (And.right (And.right (And.right (And.right (And.right (And.right (And.right (And.right (And.right (And.right (And.right (And.right (And.right (And.right (And.right (And.right (And.right (And.right (And.right (And.right (And.right (And.right (And.right (And.right (And.right (And.right (And.right (And.right (And.right (And.right (And.right he)))))))))))))))))))))))))))))))))))
      have d36 : (x 36) = .bool false := And.left (And.right (And.right (And.right (And.right (And.right (And.right (And.right (And.right (And.right (And.right (And.right (And.right (And.right (And.right (And.right (And.right (And.right (And.right (And.right (And.right (And.right (And.right (And.right (And.right (And.right (And.right (And.right (And.right (And.right (And.right (And.right (And.right (And.right (And.right (And.right (And.right he))))))))))))))))))))))))))))))))))))
      have d37 : (x 37) = .bool false := And.left (And.right (And.right (And.right (And.right (And.right (And.right (And.right (And.right (And.right (And.right (And.right (And.right (And.right (And.right (And.right (And.right (And.right (And.right (And.right (And.right (And.right (And.right (And.right (And.right (And.right (And.right (And.right (And.right (And.right (And.right (And.right (And.right (And.right (And.right (And.right (And.right (And.right he)))))))))))))))))))))))))))))))))))))
      clear he
      refine ⟨?_⟩
      simp only [putsFrom, Act.put, List.setIfInBounds_toArray, List.set_cons_zero, List.set_cons_succ, Nat.reduceAdd, d0, d1, d2, d3, d4, d5, d6, d7, d8, d9, d10, d11, d12, d13, d14, d15, d16, d17, d18, d19, d20, d21, d22, d23, d24, d25, d26, d27, d28, d29, d30, d31, d32, d33, d34, d35, d36, d37]
      clear d0 d1 d2 d3 d4 d5 d6 d7 d8 d9 d10 d11 d12 d13 d14 d15 d16 d17 d18 d19 d20 d21 d22 d23 d24 d25 d26 d27 d28 d29 d30 d31 d32 d33 d34 d35 d36 d37
      go_wp2
      go_roundw
      case rel => exact ⟨k + 1, hlt, by simp, HKP.out.trans hg⟩
      case measure => simp [intOf]; omega
    · obtain rfl : k = l.length := by omega
      have i1 : ¬ (l.length : Int) < (l.length : Int) := by omega
      clear hkp
      go_wp2
      go_ret
      exact ⟨rfl, HKP.out⟩
end Go.Proofs.Ytmcidhjcimjeiaa
