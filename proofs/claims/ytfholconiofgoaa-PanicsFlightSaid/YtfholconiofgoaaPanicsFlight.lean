/-
  The law PanicsFlight answers true for all lists of events. No condition.
-/
import Derived.SizedLaws
import Derived.Deep.CondSized
import Derived.Test.YtfholconiofgoaaRows
import Derived.Test.YtfholconiofgoaaPanL
namespace Go.Proofs.Ytfholconiofgoaa.panicsFlight
open Go.ChangeShapes Go.WideShapes Go.ChangeAt Go.RowKit
open Go.ChangeMaps (open_string shut_string)
set_option linter.unusedVariables false

theorem own : ownKnob Try.prog.godebug = none := by kernel_rfl
theorem laidOut : laidOutB Try.prog = true := by kernel_rfl


set_option maxRecDepth 20000 in
set_option maxHeartbeats 8000000 in
theorem walk (v0 : Value) (a0 : List EventM) (w : World) (w0 : RdEventsB w v0 a0) :
    Calls Try.prog 8 #[v0] w fun e w' => e = .returned (.bool true) ∧ Kp w w' := by
  have HL := hid (show RdL CeEvent 6 w v0 a0 from w0.1)
  obtain ⟨A, c, rfl, hlc⟩ := w0.1.form
  clear w0
  go_enter Try.func8, Try.ntmps8
  go_wp2_with fail
  refine (events_any _ a0 _ HL.out).mono ?_
  rintro e w1 ⟨⟨v1, rfl, h1⟩, hk1⟩
  go_wp2_with fail
  refine (played_any _ (eventsM a0) _ h1.rd (eventsM_ok _) (eventsM_len _)).mono ?_
  rintro e w2 ⟨⟨vs, va, rfl, h2, h3⟩, hk2⟩
  have HG := hid (all_good (eventsM_len a0))
  have HLL := hid (states_le (eventsM_len a0))
  generalize st0 :: statesM st0 (eventsM a0) = L at HG HLL h2
  obtain ⟨As, cs, rfl, hLc⟩ := h2.rd.form
  have HS := hid h2; have HK := hid (hk1.trans hk2)
  have hLm := hid h2
  clear h1 h2 h3 hk1 hk2
  go_wp2
  go_loopw [21] (fun i wr => ∃ k : Nat, k ≤ L.length ∧ i = .int .i64 k ∧ Kp w2 wr) (fun i _ => L.length - (intOf i).toNat)
  case atStart => exact ⟨0, by omega, rfl, Kp.refl _⟩
  case round =>
    obtain ⟨k, hk, rfl, hkp⟩ := hrel
    have HKR := hid hkp
    by_cases hlt : k < L.length
    · have i1 : (k : Int) < (L.length : Int) := by omega
      have HWK := hid (wrap_up (n := k) (by have := HLL.out; omega))
      obtain ⟨S, hS⟩ : ∃ S, L[k]? = some S := ⟨_, List.getElem?_eq_getElem hlt⟩
      obtain ⟨hG, _, hgr⟩ := HG.out S (List.mem_of_getElem? hS)
      have HGS := hid hG; have HGR := hid hgr
      obtain ⟨b, off, rfl, hb, fv, pv, q0, q1, q2, q3, q4, q5, hso⟩ := at_sts (HS.out.kp hkp) hS
      have HSO := hid hso
      obtain ⟨A1, cF, B1, cP, rfl, rfl⟩ := hso.form
      clear hso hG hgr hk hS hkp
      go_wp2
      have HB := hid (show StBox (wr.alloc (Obj.cells #[.slice A1 S.fr.length cF, .slice B1 S.pn.length cP, .int .i64 S.next, .int .i64 S.ser, .int .i64 S.en, .int .i64 S.stat] 36)) wr.heap.size (.slice A1 S.fr.length cF) (.slice B1 S.pn.length cP) (numS S) from blk_new _ _)
      have HKA := hid (show Kp wr (wr.alloc (Obj.cells #[.slice A1 S.fr.length cF, .slice B1 S.pn.length cP, .int .i64 S.next, .int .i64 S.ser, .int .i64 S.en, .int .i64 S.stat] 36)) from (Kp.refl _).alloc _)
      clear q0 q1 q2 q3 q4 q5
      obtain ⟨bs, hbs⟩ : ∃ bs, wr.heap.size = bs := ⟨_, rfl⟩
      rw [hbs] at HB ⊢
      clear hbs
      generalize wr.alloc (Obj.cells #[.slice A1 S.fr.length cF, .slice B1 S.pn.length cP, .int .i64 S.next, .int .i64 S.ser, .int .i64 S.en, .int .i64 S.stat] 36) = W at HB HKA ⊢
      go_loopw [8] (fun j wq => ∃ m : Nat, m ≤ S.pn.length ∧ j = .int .i64 m ∧ Kp W wq) (fun j _ => S.pn.length - (intOf j).toNat)
      case atStart => exact ⟨0, by omega, rfl, Kp.refl _⟩
      case round =>
        obtain ⟨m, hm, rfl, hkq⟩ := hrel
        have HKQ := hid hkq
        obtain ⟨y0, y1, y2, y3, y4, y5, _⟩ := (HB.out.kp hkq).cells
        dsimp only [numS] at y0 y1 y2 y3 y4 y5
        have HBL := hid (blk_lt (HB.out.kp hkq)); have Y1 := hid y1; have Y3 := hid y3
        have HKR2 := hid (HKR.out.trans (HKA.out.trans hkq))
        have hpn := (HSO.out.kp (HKA.out.trans hkq)).2.1
        by_cases hlm : m < S.pn.length
        · have i2 : (m : Int) < (S.pn.length : Int) := by omega
          obtain ⟨q, hq⟩ : ∃ q, S.pn.reverse[m]? = some q := ⟨_, List.getElem?_eq_getElem (by rw [List.length_reverse]; exact hlm)⟩
          obtain ⟨pb, po, rfl, hpb, A2, c2, z0, z1, z2, z3, z4, z5, z6, _⟩ := at_pn hpn hq
          have Z0 := hid z0; have HPB := hid hpb
          have t2 : decide (S.ser ≤ q.serial) = false := decide_eq_false (by
            have := HGS.out.ris.lt q (List.mem_reverse.1 (List.mem_of_getElem? hq)); omega)
          rcases Nat.eq_zero_or_pos m with hz | hz
          · subst hz
            have Z0' := hid (show wr.cell? ⟨pb, po, none⟩ = some (.int .i64 q.serial) by simpa using Z0.out)
            have t3 : ¬ (0 : Int) < ((0 : Nat) : Int) := by decide
            have HW := hid (wrap_up (n := 0) (by decide))
            clear hpn hq hm hkq z0 z1 z2 z3 z4 z5 z6
            go_wp2
            clear t3 y0 y1 y2 y3 y4 y5
            refine wp_region_kp [[], [0], [1], [2], [2, 3], [2], [2, 5], [2, 4, 6], [2, 7], [2, 8], [2], [2, 10], [2], [2, 11, 12], [2, 13], [2, 14], [2, 9, 15], [2, 16], [17], [18], [18, 19], [18], [18, 20, 21], [18, 22], [18, 23], [18], [18, 25], [18, 24, 26], [18, 27]] (fun u => Kp wr u)
              [fun (y : Value) (u : World) => y = (.int .i64 0 : Value),
               fun (y : Value) (u : World) => y = (.bool false : Value),
               fun (y : Value) (u : World) => y = (.bool false : Value),
               fun (y : Value) (u : World) => y = (undef : Value),
               fun (y : Value) (u : World) => y = (undef : Value),
               fun (y : Value) (u : World) => y = (undef : Value),
               fun (y : Value) (u : World) => y = (undef : Value),
               fun (y : Value) (u : World) => y = (undef : Value),
               fun (y : Value) (u : World) => y = (undef : Value),
               fun (y : Value) (u : World) => y = (undef : Value),
               fun (y : Value) (u : World) => y = (undef : Value),
               fun (y : Value) (u : World) => y = (undef : Value),
               fun (y : Value) (u : World) => y = (undef : Value),
               fun (y : Value) (u : World) => y = (undef : Value),
               fun (y : Value) (u : World) => y = (undef : Value),
               fun (y : Value) (u : World) => y = (undef : Value),
               fun (y : Value) (u : World) => y = (undef : Value),
               fun (y : Value) (u : World) => y = (.bool false : Value),
               fun (y : Value) (u : World) => y = (.bool false : Value),
               fun (y : Value) (u : World) => y = (.pointer (some ⟨bs, 1, none⟩) : Value),
               fun (y : Value) (u : World) => y = (.slice (some ⟨pb, po, none⟩) S.pn.length cP : Value),
               fun (y : Value) (u : World) => y = (.int .i64 0 : Value),
               fun (y : Value) (u : World) => y = (.pointer (some ⟨pb, po, none⟩) : Value),
               fun (y : Value) (u : World) => y = (.pointer (some ⟨pb, po, none⟩) : Value),
               fun (y : Value) (u : World) => y = (.int .i64 q.serial : Value),
               fun (y : Value) (u : World) => y = (.pointer (some ⟨bs, 3, none⟩) : Value),
               fun (y : Value) (u : World) => y = (.int .i64 S.ser : Value),
               fun (y : Value) (u : World) => y = (.bool false : Value),
               fun (y : Value) (u : World) => y = (.bool false : Value)]
              (by kernel_rfl) (by kernel_rfl) (by kernel_rfl) (by kernel_rfl) ((Kp.refl _).drew) (fun _ _ hk h => h.trans hk) ⟨fun _ _ _ _ h => h, fun _ _ _ _ h => h, fun _ _ _ _ h => h, fun _ _ _ _ h => h, fun _ _ _ _ h => h, fun _ _ _ _ h => h, fun _ _ _ _ h => h, fun _ _ _ _ h => h, fun _ _ _ _ h => h, fun _ _ _ _ h => h, fun _ _ _ _ h => h, fun _ _ _ _ h => h, fun _ _ _ _ h => h, fun _ _ _ _ h => h, fun _ _ _ _ h => h, fun _ _ _ _ h => h, fun _ _ _ _ h => h, fun _ _ _ _ h => h, fun _ _ _ _ h => h, fun _ _ _ _ h => h, fun _ _ _ _ h => h, fun _ _ _ _ h => h, fun _ _ _ _ h => h, fun _ _ _ _ h => h, fun _ _ _ _ h => h, fun _ _ _ _ h => h, fun _ _ _ _ h => h, fun _ _ _ _ h => h, fun _ _ _ _ h => h, trivial⟩ ⟨?sb0, ?sb1, ?sb2, ?sb3, ?sb4, ?sb5, ?sb6, ?sb7, ?sb8, ?sb9, ?sb10, ?sb11, ?sb12, ?sb13, ?sb14, ?sb15, ?sb16, ?sb17, ?sb18, ?sb19, ?sb20, ?sb21, ?sb22, ?sb23, ?sb24, ?sb25, ?sb26, ?sb27, ?sb28, trivial⟩ ?hEb
            case sb0 =>
              intro x u hg hd K hK
              clear hd
              refine ⟨?_⟩
              simp only [putsFrom, Act.put, List.setIfInBounds_toArray, List.set_cons_zero, List.set_cons_succ, Nat.reduceAdd] at hK ⊢
              go_simp
              exact hK.out _ _ (Kp.refl _) rfl
            case sb1 =>
              intro x u hg hd K hK
              have d0 : (x 0) = .int .i64 0 := And.left hd
              clear hd
              refine ⟨?_⟩
              simp only [putsFrom, Act.put, List.setIfInBounds_toArray, List.set_cons_zero, List.set_cons_succ, Nat.reduceAdd, d0] at hK ⊢
              go_simp
              exact hK.out _ _ (Kp.refl _) rfl
            case sb2 =>
              intro x u hg hd K hK
              have d1 : (x 1) = .bool false := And.left hd
              clear hd
              refine ⟨?_⟩
              simp only [putsFrom, Act.put, List.setIfInBounds_toArray, List.set_cons_zero, List.set_cons_succ, Nat.reduceAdd, d1] at hK ⊢
              go_simp
              exact hK.out _ _ (Kp.refl _) rfl
            case sb3 =>
              intro x u hg hd K hK
              have d2 : (x 2) = .bool false := And.left hd
              clear hd
              refine ⟨?_⟩
              simp only [putsFrom, Act.put, List.setIfInBounds_toArray, List.set_cons_zero, List.set_cons_succ, Nat.reduceAdd, d2] at hK ⊢
              go_simp
              exact hK.out _ _ (Kp.refl _) rfl
            case sb4 =>
              intro x u hg hd K hK
              have d2 : (x 2) = .bool false := And.left hd
              have d3 : (x 3) = undef := And.left (And.right hd)
              clear hd
              refine ⟨?_⟩
              simp only [putsFrom, Act.put, List.setIfInBounds_toArray, List.set_cons_zero, List.set_cons_succ, Nat.reduceAdd, d2, d3] at hK ⊢
              go_simp
              exact hK.out _ _ (Kp.refl _) rfl
            case sb5 =>
              intro x u hg hd K hK
              have d2 : (x 2) = .bool false := And.left hd
              clear hd
              refine ⟨?_⟩
              simp only [putsFrom, Act.put, List.setIfInBounds_toArray, List.set_cons_zero, List.set_cons_succ, Nat.reduceAdd, d2] at hK ⊢
              go_simp
              exact hK.out _ _ (Kp.refl _) rfl
            case sb6 =>
              intro x u hg hd K hK
              have d2 : (x 2) = .bool false := And.left hd
              have d5 : (x 5) = undef := And.left (And.right hd)
              clear hd
              refine ⟨?_⟩
              simp only [putsFrom, Act.put, List.setIfInBounds_toArray, List.set_cons_zero, List.set_cons_succ, Nat.reduceAdd, d2, d5] at hK ⊢
              go_simp
              exact hK.out _ _ (Kp.refl _) rfl
            case sb7 =>
              intro x u hg hd K hK
              have d2 : (x 2) = .bool false := And.left hd
              have d4 : (x 4) = undef := And.left (And.right hd)
              have d6 : (x 6) = undef := And.left (And.right (And.right hd))
              clear hd
              refine ⟨?_⟩
              simp only [putsFrom, Act.put, List.setIfInBounds_toArray, List.set_cons_zero, List.set_cons_succ, Nat.reduceAdd, d2, d4, d6] at hK ⊢
              go_simp
              exact hK.out _ _ (Kp.refl _) rfl
            case sb8 =>
              intro x u hg hd K hK
              have d2 : (x 2) = .bool false := And.left hd
              have d7 : (x 7) = undef := And.left (And.right hd)
              clear hd
              refine ⟨?_⟩
              simp only [putsFrom, Act.put, List.setIfInBounds_toArray, List.set_cons_zero, List.set_cons_succ, Nat.reduceAdd, d2, d7] at hK ⊢
              go_simp
              exact hK.out _ _ (Kp.refl _) rfl
            case sb9 =>
              intro x u hg hd K hK
              have d2 : (x 2) = .bool false := And.left hd
              have d8 : (x 8) = undef := And.left (And.right hd)
              clear hd
              refine ⟨?_⟩
              simp only [putsFrom, Act.put, List.setIfInBounds_toArray, List.set_cons_zero, List.set_cons_succ, Nat.reduceAdd, d2, d8] at hK ⊢
              go_simp
              exact hK.out _ _ (Kp.refl _) rfl
            case sb10 =>
              intro x u hg hd K hK
              have d2 : (x 2) = .bool false := And.left hd
              clear hd
              refine ⟨?_⟩
              simp only [putsFrom, Act.put, List.setIfInBounds_toArray, List.set_cons_zero, List.set_cons_succ, Nat.reduceAdd, d2] at hK ⊢
              go_simp
              exact hK.out _ _ (Kp.refl _) rfl
            case sb11 =>
              intro x u hg hd K hK
              have d2 : (x 2) = .bool false := And.left hd
              have d10 : (x 10) = undef := And.left (And.right hd)
              clear hd
              refine ⟨?_⟩
              simp only [putsFrom, Act.put, List.setIfInBounds_toArray, List.set_cons_zero, List.set_cons_succ, Nat.reduceAdd, d2, d10] at hK ⊢
              go_simp
              exact hK.out _ _ (Kp.refl _) rfl
            case sb12 =>
              intro x u hg hd K hK
              have d2 : (x 2) = .bool false := And.left hd
              clear hd
              refine ⟨?_⟩
              simp only [putsFrom, Act.put, List.setIfInBounds_toArray, List.set_cons_zero, List.set_cons_succ, Nat.reduceAdd, d2] at hK ⊢
              go_simp
              exact hK.out _ _ (Kp.refl _) rfl
            case sb13 =>
              intro x u hg hd K hK
              have d2 : (x 2) = .bool false := And.left hd
              have d11 : (x 11) = undef := And.left (And.right hd)
              have d12 : (x 12) = undef := And.left (And.right (And.right hd))
              clear hd
              refine ⟨?_⟩
              simp only [putsFrom, Act.put, List.setIfInBounds_toArray, List.set_cons_zero, List.set_cons_succ, Nat.reduceAdd, d2, d11, d12] at hK ⊢
              go_simp
              exact hK.out _ _ (Kp.refl _) rfl
            case sb14 =>
              intro x u hg hd K hK
              have d2 : (x 2) = .bool false := And.left hd
              have d13 : (x 13) = undef := And.left (And.right hd)
              clear hd
              refine ⟨?_⟩
              simp only [putsFrom, Act.put, List.setIfInBounds_toArray, List.set_cons_zero, List.set_cons_succ, Nat.reduceAdd, d2, d13] at hK ⊢
              go_simp
              exact hK.out _ _ (Kp.refl _) rfl
            case sb15 =>
              intro x u hg hd K hK
              have d2 : (x 2) = .bool false := And.left hd
              have d14 : (x 14) = undef := And.left (And.right hd)
              clear hd
              refine ⟨?_⟩
              simp only [putsFrom, Act.put, List.setIfInBounds_toArray, List.set_cons_zero, List.set_cons_succ, Nat.reduceAdd, d2, d14] at hK ⊢
              go_simp
              exact hK.out _ _ (Kp.refl _) rfl
            case sb16 =>
              intro x u hg hd K hK
              have d2 : (x 2) = .bool false := And.left hd
              have d9 : (x 9) = undef := And.left (And.right hd)
              have d15 : (x 15) = undef := And.left (And.right (And.right hd))
              clear hd
              refine ⟨?_⟩
              simp only [putsFrom, Act.put, List.setIfInBounds_toArray, List.set_cons_zero, List.set_cons_succ, Nat.reduceAdd, d2, d9, d15] at hK ⊢
              go_simp
              exact hK.out _ _ (Kp.refl _) rfl
            case sb17 =>
              intro x u hg hd K hK
              have d2 : (x 2) = .bool false := And.left hd
              have d16 : (x 16) = undef := And.left (And.right hd)
              clear hd
              refine ⟨?_⟩
              simp only [putsFrom, Act.put, List.setIfInBounds_toArray, List.set_cons_zero, List.set_cons_succ, Nat.reduceAdd, d2, d16] at hK ⊢
              go_simp
              exact hK.out _ _ (Kp.refl _) rfl
            case sb18 =>
              intro x u hg hd K hK
              have d17 : (x 17) = .bool false := And.left hd
              clear hd
              refine ⟨?_⟩
              simp only [putsFrom, Act.put, List.setIfInBounds_toArray, List.set_cons_zero, List.set_cons_succ, Nat.reduceAdd, d17] at hK ⊢
              go_simp
              exact hK.out _ _ (Kp.refl _) rfl
            case sb19 =>
              intro x u hg hd K hK
              have d18 : (x 18) = .bool false := And.left hd
              clear hd
              refine ⟨?_⟩
              simp only [putsFrom, Act.put, List.setIfInBounds_toArray, List.set_cons_zero, List.set_cons_succ, Nat.reduceAdd, d18] at hK ⊢
              go_simp
              exact hK.out _ _ (Kp.refl _) rfl
            case sb20 =>
              intro x u hg hd K hK
              have d18 : (x 18) = .bool false := And.left hd
              have d19 : (x 19) = .pointer (some ⟨bs, 1, none⟩) := And.left (And.right hd)
              clear hd
              have q0 := cell_kp hg HBL.out Y1.out
              refine ⟨?_⟩
              simp only [putsFrom, Act.put, List.setIfInBounds_toArray, List.set_cons_zero, List.set_cons_succ, Nat.reduceAdd, d18, d19] at hK ⊢
              go_simp
              exact hK.out _ _ (Kp.refl _) rfl
            case sb21 =>
              intro x u hg hd K hK
              have d18 : (x 18) = .bool false := And.left hd
              clear hd
              refine ⟨?_⟩
              simp only [putsFrom, Act.put, List.setIfInBounds_toArray, List.set_cons_zero, List.set_cons_succ, Nat.reduceAdd, d18] at hK ⊢
              go_simp
              exact hK.out _ _ (Kp.refl _) rfl
            case sb22 =>
              intro x u hg hd K hK
              have d18 : (x 18) = .bool false := And.left hd
              have d20 : (x 20) = .slice (some ⟨pb, po, none⟩) S.pn.length cP := And.left (And.right hd)
              have d21 : (x 21) = .int .i64 0 := And.left (And.right (And.right hd))
              clear hd
              refine ⟨?_⟩
              simp only [putsFrom, Act.put, List.setIfInBounds_toArray, List.set_cons_zero, List.set_cons_succ, Nat.reduceAdd, d18, d20, d21] at hK ⊢
              go_simp
              exact hK.out _ _ (Kp.refl _) rfl
            case sb23 =>
              intro x u hg hd K hK
              have d18 : (x 18) = .bool false := And.left hd
              have d22 : (x 22) = .pointer (some ⟨pb, po, none⟩) := And.left (And.right hd)
              clear hd
              refine ⟨?_⟩
              simp only [putsFrom, Act.put, List.setIfInBounds_toArray, List.set_cons_zero, List.set_cons_succ, Nat.reduceAdd, d18, d22] at hK ⊢
              go_simp
              exact hK.out _ _ (Kp.refl _) rfl
            case sb24 =>
              intro x u hg hd K hK
              have d18 : (x 18) = .bool false := And.left hd
              have d23 : (x 23) = .pointer (some ⟨pb, po, none⟩) := And.left (And.right hd)
              clear hd
              have q0 := cell_kp hg HPB.out Z0'.out
              refine ⟨?_⟩
              simp only [putsFrom, Act.put, List.setIfInBounds_toArray, List.set_cons_zero, List.set_cons_succ, Nat.reduceAdd, d18, d23] at hK ⊢
              go_simp
              exact hK.out _ _ (Kp.refl _) rfl
            case sb25 =>
              intro x u hg hd K hK
              have d18 : (x 18) = .bool false := And.left hd
              clear hd
              refine ⟨?_⟩
              simp only [putsFrom, Act.put, List.setIfInBounds_toArray, List.set_cons_zero, List.set_cons_succ, Nat.reduceAdd, d18] at hK ⊢
              go_simp
              exact hK.out _ _ (Kp.refl _) rfl
            case sb26 =>
              intro x u hg hd K hK
              have d18 : (x 18) = .bool false := And.left hd
              have d25 : (x 25) = .pointer (some ⟨bs, 3, none⟩) := And.left (And.right hd)
              clear hd
              have q0 := cell_kp hg HBL.out Y3.out
              refine ⟨?_⟩
              simp only [putsFrom, Act.put, List.setIfInBounds_toArray, List.set_cons_zero, List.set_cons_succ, Nat.reduceAdd, d18, d25] at hK ⊢
              go_simp
              exact hK.out _ _ (Kp.refl _) rfl
            case sb27 =>
              intro x u hg hd K hK
              have d18 : (x 18) = .bool false := And.left hd
              have d24 : (x 24) = .int .i64 q.serial := And.left (And.right hd)
              have d26 : (x 26) = .int .i64 S.ser := And.left (And.right (And.right hd))
              clear hd
              refine ⟨?_⟩
              simp only [putsFrom, Act.put, List.setIfInBounds_toArray, List.set_cons_zero, List.set_cons_succ, Nat.reduceAdd, d18, d24, d26] at hK ⊢
              go_simp
              exact hK.out _ _ (Kp.refl _) rfl
            case sb28 =>
              intro x u hg hd K hK
              have d18 : (x 18) = .bool false := And.left hd
              have d27 : (x 27) = .bool false := And.left (And.right hd)
              clear hd
              refine ⟨?_⟩
              simp only [putsFrom, Act.put, List.setIfInBounds_toArray, List.set_cons_zero, List.set_cons_succ, Nat.reduceAdd, d18, d27] at hK ⊢
              go_simp
              exact hK.out _ _ (Kp.refl _) rfl
            intro x u hg he
            have d0 : (x 0) = .int .i64 0 := And.left he
            have d1 : (x 1) = .bool false := And.left (And.right he)
            have d2 : (x 2) = .bool false := And.left (And.right (And.right he))
            have d3 : (x 3) = undef := And.left (And.right (And.right (And.right he)))
            have d4 : (x 4) = undef := And.left (And.right (And.right (And.right (And.right he))))
            have d5 : (x 5) = undef := And.left (And.right (And.right (And.right (And.right (And.right he)))))
            have d6 : (x 6) = undef := And.left (And.right (And.right (And.right (And.right (And.right (And.right he))))))
            have d7 : (x 7) = undef := And.left (And.right (And.right (And.right (And.right (And.right (And.right (And.right he)))))))
            have d8 : (x 8) = undef := And.left (And.right (And.right (And.right (And.right (And.right (And.right (And.right (And.right he))))))))
            have d9 : (x 9) = undef := And.left (And.right (And.right (And.right (And.right (And.right (And.right (And.right (And.right (And.right he)))))))))
            have d10 : (x 10) = undef := And.left (And.right (And.right (And.right (And.right (And.right (And.right (And.right (And.right (And.right (And.right he))))))))))
            have d11 : (x 11) = undef := And.left (And.right (And.right (And.right (And.right (And.right (And.right (And.right (And.right (And.right (And.right (And.right he)))))))))))
            have d12 : (x 12) = undef := And.left (And.right (And.right (And.right (And.right (And.right (And.right (And.right (And.right (And.right (And.right (And.right (And.right he))))))))))))
            have d13 : (x 13) = undef := And.left (And.right (And.right (And.right (And.right (And.right (And.right (And.right (And.right (And.right (And.right (And.right (And.right (And.right he)))))))))))))
            have d14 : (x 14) = undef := And.left (And.right (And.right (And.right (And.right (And.right (And.right (And.right (And.right (And.right (And.right (And.right (And.right (And.right (And.right he))))))))))))))
            have d15 : (x 15) = undef := And.left (And.right (And.right (And.right (And.right (And.right (And.right (And.right (And.right (And.right (And.right (And.right (And.right (And.right (And.right (And.right he)))))))))))))))
            have d16 : (x 16) = undef := And.left (And.right (And.right (And.right (And.right (And.right (And.right (And.right (And.right (And.right (And.right (And.right (And.right (And.right (And.right (And.right (And.right he))))))))))))))))
            have d17 : (x 17) = .bool false := And.left (And.right (And.right (And.right (And.right (And.right (And.right (And.right (And.right (And.right (And.right (And.right (And.right (And.right (And.right (And.right (And.right (And.right he)))))))))))))))))
            have d18 : (x 18) = .bool false := And.left (And.right (And.right (And.right (And.right (And.right (And.right (And.right (And.right (And.right (And.right (And.right (And.right (And.right (And.right (And.right (And.right (And.right (And.right he))))))))))))))))))
            have d19 : (x 19) = .pointer (some ⟨bs, 1, none⟩) := And.left (And.right (And.right (And.right (And.right (And.right (And.right (And.right (And.right (And.right (And.right (And.right (And.right (And.right (And.right (And.right (And.right (And.right (And.right (And.right he)))))))))))))))))))
            have d20 : (x 20) = .slice (some ⟨pb, po, none⟩) S.pn.length cP := And.left (And.right (And.right (And.right (And.right (And.right (And.right (And.right (And.right (And.right (And.right (And.right (And.right (And.right (And.right (And.right (And.right (And.right (And.right (And.right (And.right he))))))))))))))))))))
            have d21 : (x 21) = .int .i64 0 := And.left (And.right (And.right (And.right (And.right (And.right (And.right (And.right (And.right (And.right (And.right (And.right (And.right (And.right (And.right (And.right (And.right (And.right (And.right (And.right (And.right (And.right he)))))))))))))))))))))
            have d22 : (x 22) = .pointer (some ⟨pb, po, none⟩) := And.left (And.right (And.right (And.right (And.right (And.right (And.right (And.right (And.right (And.right (And.right (And.right (And.right (And.right (And.right (And.right (And.right (And.right (And.right (And.right (And.right (And.right (And.right he))))))))))))))))))))))
            have d23 : (x 23) = .pointer (some ⟨pb, po, none⟩) := And.left (And.right (And.right (And.right (And.right (And.right (And.right (And.right (And.right (And.right (And.right (And.right (And.right (And.right (And.right (And.right (And.right (And.right (And.right (And.right (And.right (And.right (And.right (And.right he)))))))))))))))))))))))
            have d24 : (x 24) = .int .i64 q.serial := And.left (And.right (And.right (And.right (And.right (And.right (And.right (And.right (And.right (And.right (And.right (And.right (And.right (And.right (And.right (And.right (And.right (And.right (And.right (And.right (And.right (And.right (And.right (And.right (And.right he))))))))))))))))))))))))
            have d25 : (x 25) = .pointer (some ⟨bs, 3, none⟩) := And.left (And.right (And.right (And.right (And.right (And.right (And.right (And.right (And.right (And.right (And.right (And.right (And.right (And.right (And.right (And.right (And.right (And.right (And.right (And.right (And.right (And.right (And.right (And.right (And.right (And.right he)))))))))))))))))))))))))
            have d26 : (x 26) = .int .i64 S.ser := And.left (And.right (And.right (And.right (And.right (And.right (And.right (And.right (And.right (And.right (And.right (And.right (And.right (And.right (And.right (And.right (And.right (And.right (And.right (And.right (And.right (And.right (And.right (And.right (And.right (And.right (And.right he))))))))))))))))))))))))))
            have d27 : (x 27) = .bool false := And.left (And.right (And.right (And.right (And.right (And.right (And.right (And.right (And.right (And.right (And.right (And.right (And.right (And.right (And.right (And.right (And.right (And.right (And.right (And.right (And.right (And.right (And.right (And.right (And.right (And.right (And.right (And.right he)))))))))))))))))))))))))))
            have d28 : (x 28) = .bool false := And.left (And.right (And.right (And.right (And.right (And.right (And.right (And.right (And.right (And.right (And.right (And.right (And.right (And.right (And.right (And.right (And.right (And.right (And.right (And.right (And.right (And.right (And.right (And.right (And.right (And.right (And.right (And.right (And.right he))))))))))))))))))))))))))))
            clear he
            refine ⟨?_⟩
            simp only [putsFrom, Act.put, List.setIfInBounds_toArray, List.set_cons_zero, List.set_cons_succ, Nat.reduceAdd, d0, d1, d2, d3, d4, d5, d6, d7, d8, d9, d10, d11, d12, d13, d14, d15, d16, d17, d18, d19, d20, d21, d22, d23, d24, d25, d26, d27, d28]
            clear d0 d1 d2 d3 d4 d5 d6 d7 d8 d9 d10 d11 d12 d13 d14 d15 d16 d17 d18 d19 d20 d21 d22 d23 d24 d25 d26 d27 d28
            go_wp2
            exact round_up0 hlm (HKQ.out.trans hg)
          · have t3 : (0 : Int) < (m : Int) := by omega
            have t4 : (0 : Int) ≤ (m : Int) - 1 := by omega
            obtain ⟨q', hq'⟩ : ∃ q, S.pn.reverse[m - 1]? = some q := ⟨_, List.getElem?_eq_getElem (by rw [List.length_reverse]; omega)⟩
            obtain ⟨pb', po', e, hpb', A3, c3, x0, x1, x2, x3, x4, x5, x6, _⟩ := at_pn hpn hq'
            cases e
            have t5 : decide (q.serial ≤ q'.serial) = false := decide_eq_false (by
              have := HGS.out.ris.at_ (show m - 1 < m by omega) hq' hq; omega)
            have HW := hid (show wrap64 ((m : Int) + 1) = ((m + 1 : Nat) : Int) by unfold wrap64; have := HGR.out.pl; omega)
            have t9 : (1 : Int) ≤ (m : Int) := by omega
            have t10 : IntKind.i64.wrap ((m : Int) - 1) = (m : Int) - 1 := IntWalk.i64_in _ (by have := HGR.out.pl; omega)
            have t7 : ((m : Int) - 1).toNat = m - 1 := by omega
            have t8 : (m : Int) - 1 < (S.pn.length : Int) := by omega
            have t6 : decide ((0 : Int) < (m : Int)) = true := decide_eq_true t3
            have X0 := hid x0; have HPB' := hid hpb'
            clear hpn hq hq' hm hkq z0 z1 z2 z3 z4 z5 z6 x0 x1 x2 x3 x4 x5 x6
            go_wp2
            clear y0 y1 y2 y3 y4 y5
            refine wp_region_kp [[], [0], [1], [2], [2, 3], [2], [2, 5], [2, 4, 6], [2, 7], [2, 8], [2], [2, 10], [2], [2, 11, 12], [2, 13], [2, 14], [2, 9, 15], [2, 16], [17], [18], [18, 19], [18], [18, 20, 21], [18, 22], [18, 23], [18], [18, 25], [18, 24, 26], [18, 27]] (fun u => Kp wr u)
              [fun (y : Value) (u : World) => y = (.int .i64 (m : Int) : Value),
               fun (y : Value) (u : World) => y = (.bool true : Value),
               fun (y : Value) (u : World) => y = (.bool true : Value),
               fun (y : Value) (u : World) => y = (.pointer (some ⟨bs, 1, none⟩) : Value),
               fun (y : Value) (u : World) => y = (.slice (some ⟨pb, po, none⟩) S.pn.length cP : Value),
               fun (y : Value) (u : World) => y = (.int .i64 (m : Int) : Value),
               fun (y : Value) (u : World) => y = (.int .i64 ((m : Int) - 1) : Value),
               fun (y : Value) (u : World) => y = (.pointer (some ⟨pb, po + (m - 1) * 7, none⟩) : Value),
               fun (y : Value) (u : World) => y = (.pointer (some ⟨pb, po + (m - 1) * 7, none⟩) : Value),
               fun (y : Value) (u : World) => y = (.int .i64 q'.serial : Value),
               fun (y : Value) (u : World) => y = (.pointer (some ⟨bs, 1, none⟩) : Value),
               fun (y : Value) (u : World) => y = (.slice (some ⟨pb, po, none⟩) S.pn.length cP : Value),
               fun (y : Value) (u : World) => y = (.int .i64 (m : Int) : Value),
               fun (y : Value) (u : World) => y = (.pointer (some ⟨pb, po + m * 7, none⟩) : Value),
               fun (y : Value) (u : World) => y = (.pointer (some ⟨pb, po + m * 7, none⟩) : Value),
               fun (y : Value) (u : World) => y = (.int .i64 q.serial : Value),
               fun (y : Value) (u : World) => y = (.bool false : Value),
               fun (y : Value) (u : World) => y = (.bool false : Value),
               fun (y : Value) (u : World) => y = (.bool false : Value),
               fun (y : Value) (u : World) => y = (.pointer (some ⟨bs, 1, none⟩) : Value),
               fun (y : Value) (u : World) => y = (.slice (some ⟨pb, po, none⟩) S.pn.length cP : Value),
               fun (y : Value) (u : World) => y = (.int .i64 (m : Int) : Value),
               fun (y : Value) (u : World) => y = (.pointer (some ⟨pb, po + m * 7, none⟩) : Value),
               fun (y : Value) (u : World) => y = (.pointer (some ⟨pb, po + m * 7, none⟩) : Value),
               fun (y : Value) (u : World) => y = (.int .i64 q.serial : Value),
               fun (y : Value) (u : World) => y = (.pointer (some ⟨bs, 3, none⟩) : Value),
               fun (y : Value) (u : World) => y = (.int .i64 S.ser : Value),
               fun (y : Value) (u : World) => y = (.bool false : Value),
               fun (y : Value) (u : World) => y = (.bool false : Value)]
              (by kernel_rfl) (by kernel_rfl) (by kernel_rfl) (by kernel_rfl) ((Kp.refl _).drew) (fun _ _ hk h => h.trans hk) ⟨fun _ _ _ _ h => h, fun _ _ _ _ h => h, fun _ _ _ _ h => h, fun _ _ _ _ h => h, fun _ _ _ _ h => h, fun _ _ _ _ h => h, fun _ _ _ _ h => h, fun _ _ _ _ h => h, fun _ _ _ _ h => h, fun _ _ _ _ h => h, fun _ _ _ _ h => h, fun _ _ _ _ h => h, fun _ _ _ _ h => h, fun _ _ _ _ h => h, fun _ _ _ _ h => h, fun _ _ _ _ h => h, fun _ _ _ _ h => h, fun _ _ _ _ h => h, fun _ _ _ _ h => h, fun _ _ _ _ h => h, fun _ _ _ _ h => h, fun _ _ _ _ h => h, fun _ _ _ _ h => h, fun _ _ _ _ h => h, fun _ _ _ _ h => h, fun _ _ _ _ h => h, fun _ _ _ _ h => h, fun _ _ _ _ h => h, fun _ _ _ _ h => h, trivial⟩ ⟨?sc0, ?sc1, ?sc2, ?sc3, ?sc4, ?sc5, ?sc6, ?sc7, ?sc8, ?sc9, ?sc10, ?sc11, ?sc12, ?sc13, ?sc14, ?sc15, ?sc16, ?sc17, ?sc18, ?sc19, ?sc20, ?sc21, ?sc22, ?sc23, ?sc24, ?sc25, ?sc26, ?sc27, ?sc28, trivial⟩ ?hEc
            case sc0 =>
              intro x u hg hd K hK
              clear hd
              refine ⟨?_⟩
              simp only [putsFrom, Act.put, List.setIfInBounds_toArray, List.set_cons_zero, List.set_cons_succ, Nat.reduceAdd] at hK ⊢
              go_simp
              exact hK.out _ _ (Kp.refl _) rfl
            case sc1 =>
              intro x u hg hd K hK
              have d0 : (x 0) = .int .i64 (m : Int) := And.left hd
              clear hd
              refine ⟨?_⟩
              simp only [putsFrom, Act.put, List.setIfInBounds_toArray, List.set_cons_zero, List.set_cons_succ, Nat.reduceAdd, d0] at hK ⊢
              go_simp
              exact hK.out _ _ (Kp.refl _) rfl
            case sc2 =>
              intro x u hg hd K hK
              have d1 : (x 1) = .bool true := And.left hd
              clear hd
              refine ⟨?_⟩
              simp only [putsFrom, Act.put, List.setIfInBounds_toArray, List.set_cons_zero, List.set_cons_succ, Nat.reduceAdd, d1] at hK ⊢
              go_simp
              exact hK.out _ _ (Kp.refl _) rfl
            case sc3 =>
              intro x u hg hd K hK
              have d2 : (x 2) = .bool true := And.left hd
              clear hd
              refine ⟨?_⟩
              simp only [putsFrom, Act.put, List.setIfInBounds_toArray, List.set_cons_zero, List.set_cons_succ, Nat.reduceAdd, d2] at hK ⊢
              go_simp
              exact hK.out _ _ (Kp.refl _) rfl
            case sc4 =>
              intro x u hg hd K hK
              have d2 : (x 2) = .bool true := And.left hd
              have d3 : (x 3) = .pointer (some ⟨bs, 1, none⟩) := And.left (And.right hd)
              clear hd
              have q0 := cell_kp hg HBL.out Y1.out
              refine ⟨?_⟩
              simp only [putsFrom, Act.put, List.setIfInBounds_toArray, List.set_cons_zero, List.set_cons_succ, Nat.reduceAdd, d2, d3] at hK ⊢
              go_simp
              exact hK.out _ _ (Kp.refl _) rfl
            case sc5 =>
              intro x u hg hd K hK
              have d2 : (x 2) = .bool true := And.left hd
              clear hd
              refine ⟨?_⟩
              simp only [putsFrom, Act.put, List.setIfInBounds_toArray, List.set_cons_zero, List.set_cons_succ, Nat.reduceAdd, d2] at hK ⊢
              go_simp
              exact hK.out _ _ (Kp.refl _) rfl
            case sc6 =>
              intro x u hg hd K hK
              have d2 : (x 2) = .bool true := And.left hd
              have d5 : (x 5) = .int .i64 (m : Int) := And.left (And.right hd)
              clear hd
              refine ⟨?_⟩
              simp only [putsFrom, Act.put, List.setIfInBounds_toArray, List.set_cons_zero, List.set_cons_succ, Nat.reduceAdd, d2, d5] at hK ⊢
              go_simp
              exact hK.out _ _ (Kp.refl _) rfl
            case sc7 =>
              intro x u hg hd K hK
              have d2 : (x 2) = .bool true := And.left hd
              have d4 : (x 4) = .slice (some ⟨pb, po, none⟩) S.pn.length cP := And.left (And.right hd)
              have d6 : (x 6) = .int .i64 ((m : Int) - 1) := And.left (And.right (And.right hd))
              clear hd
              refine ⟨?_⟩
              simp only [putsFrom, Act.put, List.setIfInBounds_toArray, List.set_cons_zero, List.set_cons_succ, Nat.reduceAdd, d2, d4, d6] at hK ⊢
              go_simp
              exact hK.out _ _ (Kp.refl _) rfl
            case sc8 =>
              intro x u hg hd K hK
              have d2 : (x 2) = .bool true := And.left hd
              have d7 : (x 7) = .pointer (some ⟨pb, po + (m - 1) * 7, none⟩) := And.left (And.right hd)
              clear hd
              refine ⟨?_⟩
              simp only [putsFrom, Act.put, List.setIfInBounds_toArray, List.set_cons_zero, List.set_cons_succ, Nat.reduceAdd, d2, d7] at hK ⊢
              go_simp
              exact hK.out _ _ (Kp.refl _) rfl
            case sc9 =>
              intro x u hg hd K hK
              have d2 : (x 2) = .bool true := And.left hd
              have d8 : (x 8) = .pointer (some ⟨pb, po + (m - 1) * 7, none⟩) := And.left (And.right hd)
              clear hd
              have q0 := cell_kp hg HPB.out X0.out
              refine ⟨?_⟩
              simp only [putsFrom, Act.put, List.setIfInBounds_toArray, List.set_cons_zero, List.set_cons_succ, Nat.reduceAdd, d2, d8] at hK ⊢
              go_simp
              exact hK.out _ _ (Kp.refl _) rfl
            case sc10 =>
              intro x u hg hd K hK
              have d2 : (x 2) = .bool true := And.left hd
              clear hd
              refine ⟨?_⟩
              simp only [putsFrom, Act.put, List.setIfInBounds_toArray, List.set_cons_zero, List.set_cons_succ, Nat.reduceAdd, d2] at hK ⊢
              go_simp
              exact hK.out _ _ (Kp.refl _) rfl
            case sc11 =>
              intro x u hg hd K hK
              have d2 : (x 2) = .bool true := And.left hd
              have d10 : (x 10) = .pointer (some ⟨bs, 1, none⟩) := And.left (And.right hd)
              clear hd
              have q0 := cell_kp hg HBL.out Y1.out
              refine ⟨?_⟩
              simp only [putsFrom, Act.put, List.setIfInBounds_toArray, List.set_cons_zero, List.set_cons_succ, Nat.reduceAdd, d2, d10] at hK ⊢
              go_simp
              exact hK.out _ _ (Kp.refl _) rfl
            case sc12 =>
              intro x u hg hd K hK
              have d2 : (x 2) = .bool true := And.left hd
              clear hd
              refine ⟨?_⟩
              simp only [putsFrom, Act.put, List.setIfInBounds_toArray, List.set_cons_zero, List.set_cons_succ, Nat.reduceAdd, d2] at hK ⊢
              go_simp
              exact hK.out _ _ (Kp.refl _) rfl
            case sc13 =>
              intro x u hg hd K hK
              have d2 : (x 2) = .bool true := And.left hd
              have d11 : (x 11) = .slice (some ⟨pb, po, none⟩) S.pn.length cP := And.left (And.right hd)
              have d12 : (x 12) = .int .i64 (m : Int) := And.left (And.right (And.right hd))
              clear hd
              refine ⟨?_⟩
              simp only [putsFrom, Act.put, List.setIfInBounds_toArray, List.set_cons_zero, List.set_cons_succ, Nat.reduceAdd, d2, d11, d12] at hK ⊢
              go_simp
              exact hK.out _ _ (Kp.refl _) rfl
            case sc14 =>
              intro x u hg hd K hK
              have d2 : (x 2) = .bool true := And.left hd
              have d13 : (x 13) = .pointer (some ⟨pb, po + m * 7, none⟩) := And.left (And.right hd)
              clear hd
              refine ⟨?_⟩
              simp only [putsFrom, Act.put, List.setIfInBounds_toArray, List.set_cons_zero, List.set_cons_succ, Nat.reduceAdd, d2, d13] at hK ⊢
              go_simp
              exact hK.out _ _ (Kp.refl _) rfl
            case sc15 =>
              intro x u hg hd K hK
              have d2 : (x 2) = .bool true := And.left hd
              have d14 : (x 14) = .pointer (some ⟨pb, po + m * 7, none⟩) := And.left (And.right hd)
              clear hd
              have q0 := cell_kp hg HPB.out Z0.out
              refine ⟨?_⟩
              simp only [putsFrom, Act.put, List.setIfInBounds_toArray, List.set_cons_zero, List.set_cons_succ, Nat.reduceAdd, d2, d14] at hK ⊢
              go_simp
              exact hK.out _ _ (Kp.refl _) rfl
            case sc16 =>
              intro x u hg hd K hK
              have d2 : (x 2) = .bool true := And.left hd
              have d9 : (x 9) = .int .i64 q'.serial := And.left (And.right hd)
              have d15 : (x 15) = .int .i64 q.serial := And.left (And.right (And.right hd))
              clear hd
              refine ⟨?_⟩
              simp only [putsFrom, Act.put, List.setIfInBounds_toArray, List.set_cons_zero, List.set_cons_succ, Nat.reduceAdd, d2, d9, d15] at hK ⊢
              go_simp
              exact hK.out _ _ (Kp.refl _) rfl
            case sc17 =>
              intro x u hg hd K hK
              have d2 : (x 2) = .bool true := And.left hd
              have d16 : (x 16) = .bool false := And.left (And.right hd)
              clear hd
              refine ⟨?_⟩
              simp only [putsFrom, Act.put, List.setIfInBounds_toArray, List.set_cons_zero, List.set_cons_succ, Nat.reduceAdd, d2, d16] at hK ⊢
              go_simp
              exact hK.out _ _ (Kp.refl _) rfl
            case sc18 =>
              intro x u hg hd K hK
              have d17 : (x 17) = .bool false := And.left hd
              clear hd
              refine ⟨?_⟩
              simp only [putsFrom, Act.put, List.setIfInBounds_toArray, List.set_cons_zero, List.set_cons_succ, Nat.reduceAdd, d17] at hK ⊢
              go_simp
              exact hK.out _ _ (Kp.refl _) rfl
            case sc19 =>
              intro x u hg hd K hK
              have d18 : (x 18) = .bool false := And.left hd
              clear hd
              refine ⟨?_⟩
              simp only [putsFrom, Act.put, List.setIfInBounds_toArray, List.set_cons_zero, List.set_cons_succ, Nat.reduceAdd, d18] at hK ⊢
              go_simp
              exact hK.out _ _ (Kp.refl _) rfl
            case sc20 =>
              intro x u hg hd K hK
              have d18 : (x 18) = .bool false := And.left hd
              have d19 : (x 19) = .pointer (some ⟨bs, 1, none⟩) := And.left (And.right hd)
              clear hd
              have q0 := cell_kp hg HBL.out Y1.out
              refine ⟨?_⟩
              simp only [putsFrom, Act.put, List.setIfInBounds_toArray, List.set_cons_zero, List.set_cons_succ, Nat.reduceAdd, d18, d19] at hK ⊢
              go_simp
              exact hK.out _ _ (Kp.refl _) rfl
            case sc21 =>
              intro x u hg hd K hK
              have d18 : (x 18) = .bool false := And.left hd
              clear hd
              refine ⟨?_⟩
              simp only [putsFrom, Act.put, List.setIfInBounds_toArray, List.set_cons_zero, List.set_cons_succ, Nat.reduceAdd, d18] at hK ⊢
              go_simp
              exact hK.out _ _ (Kp.refl _) rfl
            case sc22 =>
              intro x u hg hd K hK
              have d18 : (x 18) = .bool false := And.left hd
              have d20 : (x 20) = .slice (some ⟨pb, po, none⟩) S.pn.length cP := And.left (And.right hd)
              have d21 : (x 21) = .int .i64 (m : Int) := And.left (And.right (And.right hd))
              clear hd
              refine ⟨?_⟩
              simp only [putsFrom, Act.put, List.setIfInBounds_toArray, List.set_cons_zero, List.set_cons_succ, Nat.reduceAdd, d18, d20, d21] at hK ⊢
              go_simp
              exact hK.out _ _ (Kp.refl _) rfl
            case sc23 =>
              intro x u hg hd K hK
              have d18 : (x 18) = .bool false := And.left hd
              have d22 : (x 22) = .pointer (some ⟨pb, po + m * 7, none⟩) := And.left (And.right hd)
              clear hd
              refine ⟨?_⟩
              simp only [putsFrom, Act.put, List.setIfInBounds_toArray, List.set_cons_zero, List.set_cons_succ, Nat.reduceAdd, d18, d22] at hK ⊢
              go_simp
              exact hK.out _ _ (Kp.refl _) rfl
            case sc24 =>
              intro x u hg hd K hK
              have d18 : (x 18) = .bool false := And.left hd
              have d23 : (x 23) = .pointer (some ⟨pb, po + m * 7, none⟩) := And.left (And.right hd)
              clear hd
              have q0 := cell_kp hg HPB.out Z0.out
              refine ⟨?_⟩
              simp only [putsFrom, Act.put, List.setIfInBounds_toArray, List.set_cons_zero, List.set_cons_succ, Nat.reduceAdd, d18, d23] at hK ⊢
              go_simp
              exact hK.out _ _ (Kp.refl _) rfl
            case sc25 =>
              intro x u hg hd K hK
              have d18 : (x 18) = .bool false := And.left hd
              clear hd
              refine ⟨?_⟩
              simp only [putsFrom, Act.put, List.setIfInBounds_toArray, List.set_cons_zero, List.set_cons_succ, Nat.reduceAdd, d18] at hK ⊢
              go_simp
              exact hK.out _ _ (Kp.refl _) rfl
            case sc26 =>
              intro x u hg hd K hK
              have d18 : (x 18) = .bool false := And.left hd
              have d25 : (x 25) = .pointer (some ⟨bs, 3, none⟩) := And.left (And.right hd)
              clear hd
              have q0 := cell_kp hg HBL.out Y3.out
              refine ⟨?_⟩
              simp only [putsFrom, Act.put, List.setIfInBounds_toArray, List.set_cons_zero, List.set_cons_succ, Nat.reduceAdd, d18, d25] at hK ⊢
              go_simp
              exact hK.out _ _ (Kp.refl _) rfl
            case sc27 =>
              intro x u hg hd K hK
              have d18 : (x 18) = .bool false := And.left hd
              have d24 : (x 24) = .int .i64 q.serial := And.left (And.right hd)
              have d26 : (x 26) = .int .i64 S.ser := And.left (And.right (And.right hd))
              clear hd
              refine ⟨?_⟩
              simp only [putsFrom, Act.put, List.setIfInBounds_toArray, List.set_cons_zero, List.set_cons_succ, Nat.reduceAdd, d18, d24, d26] at hK ⊢
              go_simp
              exact hK.out _ _ (Kp.refl _) rfl
            case sc28 =>
              intro x u hg hd K hK
              have d18 : (x 18) = .bool false := And.left hd
              have d27 : (x 27) = .bool false := And.left (And.right hd)
              clear hd
              refine ⟨?_⟩
              simp only [putsFrom, Act.put, List.setIfInBounds_toArray, List.set_cons_zero, List.set_cons_succ, Nat.reduceAdd, d18, d27] at hK ⊢
              go_simp
              exact hK.out _ _ (Kp.refl _) rfl
            intro x u hg he
            have d0 : (x 0) = .int .i64 (m : Int) := And.left he
            have d1 : (x 1) = .bool true := And.left (And.right he)
            have d2 : (x 2) = .bool true := And.left (And.right (And.right he))
            have d3 : (x 3) = .pointer (some ⟨bs, 1, none⟩) := And.left (And.right (And.right (And.right he)))
            have d4 : (x 4) = .slice (some ⟨pb, po, none⟩) S.pn.length cP := And.left (And.right (And.right (And.right (And.right he))))
            have d5 : (x 5) = .int .i64 (m : Int) := And.left (And.right (And.right (And.right (And.right (And.right he)))))
            have d6 : (x 6) = .int .i64 ((m : Int) - 1) := And.left (And.right (And.right (And.right (And.right (And.right (And.right he))))))
            have d7 : (x 7) = .pointer (some ⟨pb, po + (m - 1) * 7, none⟩) := And.left (And.right (And.right (And.right (And.right (And.right (And.right (And.right he)))))))
            have d8 : (x 8) = .pointer (some ⟨pb, po + (m - 1) * 7, none⟩) := And.left (And.right (And.right (And.right (And.right (And.right (And.right (And.right (And.right he))))))))
            have d9 : (x 9) = .int .i64 q'.serial := And.left (And.right (And.right (And.right (And.right (And.right (And.right (And.right (And.right (And.right he)))))))))
            have d10 : (x 10) = .pointer (some ⟨bs, 1, none⟩) := And.left (And.right (And.right (And.right (And.right (And.right (And.right (And.right (And.right (And.right (And.right he))))))))))
            have d11 : (x 11) = .slice (some ⟨pb, po, none⟩) S.pn.length cP := And.left (And.right (And.right (And.right (And.right (And.right (And.right (And.right (And.right (And.right (And.right (And.right he)))))))))))
            have d12 : (x 12) = .int .i64 (m : Int) := And.left (And.right (And.right (And.right (And.right (And.right (And.right (And.right (And.right (And.right (And.right (And.right (And.right he))))))))))))
            have d13 : (x 13) = .pointer (some ⟨pb, po + m * 7, none⟩) := And.left (And.right (And.right (And.right (And.right (And.right (And.right (And.right (And.right (And.right (And.right (And.right (And.right (And.right he)))))))))))))
            have d14 : (x 14) = .pointer (some ⟨pb, po + m * 7, none⟩) := And.left (And.right (And.right (And.right (And.right (And.right (And.right (And.right (And.right (And.right (And.right (And.right (And.right (And.right (And.right he))))))))))))))
            have d15 : (x 15) = .int .i64 q.serial := And.left (And.right (And.right (And.right (And.right (And.right (And.right (And.right (And.right (And.right (And.right (And.right (And.right (And.right (And.right (And.right he)))))))))))))))
            have d16 : (x 16) = .bool false := And.left (And.right (And.right (And.right (And.right (And.right (And.right (And.right (And.right (And.right (And.right (And.right (And.right (And.right (And.right (And.right (And.right he))))))))))))))))
            have d17 : (x 17) = .bool false := And.left (And.right (And.right (And.right (And.right (And.right (And.right (And.right (And.right (And.right (And.right (And.right (And.right (And.right (And.right (And.right (And.right (And.right he)))))))))))))))))
            have d18 : (x 18) = .bool false := And.left (And.right (And.right (And.right (And.right (And.right (And.right (And.right (And.right (And.right (And.right (And.right (And.right (And.right (And.right (And.right (And.right (And.right (And.right he))))))))))))))))))
            have d19 : (x 19) = .pointer (some ⟨bs, 1, none⟩) := And.left (And.right (And.right (And.right (And.right (And.right (And.right (And.right (And.right (And.right (And.right (And.right (And.right (And.right (And.right (And.right (And.right (And.right (And.right (And.right he)))))))))))))))))))
            have d20 : (x 20) = .slice (some ⟨pb, po, none⟩) S.pn.length cP := And.left (And.right (And.right (And.right (And.right (And.right (And.right (And.right (And.right (And.right (And.right (And.right (And.right (And.right (And.right (And.right (And.right (And.right (And.right (And.right (And.right he))))))))))))))))))))
            have d21 : (x 21) = .int .i64 (m : Int) := And.left (And.right (And.right (And.right (And.right (And.right (And.right (And.right (And.right (And.right (And.right (And.right (And.right (And.right (And.right (And.right (And.right (And.right (And.right (And.right (And.right (And.right he)))))))))))))))))))))
            have d22 : (x 22) = .pointer (some ⟨pb, po + m * 7, none⟩) := And.left (And.right (And.right (And.right (And.right (And.right (And.right (And.right (And.right (And.right (And.right (And.right (And.right (And.right (And.right (And.right (And.right (And.right (And.right (And.right (And.right (And.right (And.right he))))))))))))))))))))))
            have d23 : (x 23) = .pointer (some ⟨pb, po + m * 7, none⟩) := And.left (And.right (And.right (And.right (And.right (And.right (And.right (And.right (And.right (And.right (And.right (And.right (And.right (And.right (And.right (And.right (And.right (And.right (And.right (And.right (And.right (And.right (And.right (And.right he)))))))))))))))))))))))
            have d24 : (x 24) = .int .i64 q.serial := And.left (And.right (And.right (And.right (And.right (And.right (And.right (And.right (And.right (And.right (And.right (And.right (And.right (And.right (And.right (And.right (And.right (And.right (And.right (And.right (And.right (And.right (And.right (And.right (And.right he))))))))))))))))))))))))
            have d25 : (x 25) = .pointer (some ⟨bs, 3, none⟩) := And.left (And.right (And.right (And.right (And.right (And.right (And.right (And.right (And.right (And.right (And.right (And.right (And.right (And.right (And.right (And.right (And.right (And.right (And.right (And.right (And.right (And.right (And.right (And.right (And.right (And.right he)))))))))))))))))))))))))
            have d26 : (x 26) = .int .i64 S.ser := And.left (And.right (And.right (And.right (And.right (And.right (And.right (And.right (And.right (And.right (And.right (And.right (And.right (And.right (And.right (And.right (And.right (And.right (And.right (And.right (And.right (And.right (And.right (And.right (And.right (And.right (And.right he))))))))))))))))))))))))))
            have d27 : (x 27) = .bool false := And.left (And.right (And.right (And.right (And.right (And.right (And.right (And.right (And.right (And.right (And.right (And.right (And.right (And.right (And.right (And.right (And.right (And.right (And.right (And.right (And.right (And.right (And.right (And.right (And.right (And.right (And.right (And.right he)))))))))))))))))))))))))))
            have d28 : (x 28) = .bool false := And.left (And.right (And.right (And.right (And.right (And.right (And.right (And.right (And.right (And.right (And.right (And.right (And.right (And.right (And.right (And.right (And.right (And.right (And.right (And.right (And.right (And.right (And.right (And.right (And.right (And.right (And.right (And.right (And.right he))))))))))))))))))))))))))))
            clear he
            refine ⟨?_⟩
            simp only [putsFrom, Act.put, List.setIfInBounds_toArray, List.set_cons_zero, List.set_cons_succ, Nat.reduceAdd, d0, d1, d2, d3, d4, d5, d6, d7, d8, d9, d10, d11, d12, d13, d14, d15, d16, d17, d18, d19, d20, d21, d22, d23, d24, d25, d26, d27, d28]
            clear d0 d1 d2 d3 d4 d5 d6 d7 d8 d9 d10 d11 d12 d13 d14 d15 d16 d17 d18 d19 d20 d21 d22 d23 d24 d25 d26 d27 d28
            go_wp2
            exact round_up HW.out hlm (HKQ.out.trans hg)
        · have i2 : ¬ (m : Int) < (S.pn.length : Int) := by omega
          rcases List.eq_nil_or_concat S.pn.reverse with hz | ⟨r, q, hz⟩
          · have hz0 : S.pn.length = 0 := by rw [← List.length_reverse, hz]; rfl
            have w1 : IntKind.i64.wrap ((S.pn.length : Int) - 1) = -1 := by rw [hz0]; decide
            have w2 : IntKind.i64.wrap (-1) = -1 := by decide
            clear hpn hm hkq hz
            go_wp2
            exact round_up HWK.out hlt HKR2.out
          · have hn : S.pn.length = r.length + 1 := by rw [← List.length_reverse, hz]; simp
            have hq : S.pn.reverse[r.length]? = some q := by rw [hz]; simp
            have ha : q.abt = false := by
              have := HGS.out.lst
              have h2 : S.pn = q :: r.reverse := by rw [← List.reverse_reverse S.pn, hz]; simp
              rw [h2] at this; exact this
            obtain ⟨pb, po, rfl, hpb, A2, c2, z0, z1, z2, z3, z4, z5, z6, _⟩ := at_pn hpn hq
            rw [ha] at z6
            have w1 : IntKind.i64.wrap ((S.pn.length : Int) - 1) = (r.length : Int) := by rw [IntKind.wrap_i64]; have := HGR.out.pl; omega
            have i3 : (r.length : Int) < (S.pn.length : Int) := by omega
            have t6 : decide ((0 : Int) ≤ (r.length : Int)) = true := decide_eq_true (by omega)
            clear hn hm hkq hz hq z0 z1 z2 z3 z4 z5
            go_wp2
            exact round_up HWK.out hlt HKR2.out
    · have i1 : ¬ (k : Int) < (L.length : Int) := by omega
      clear hk hkp
      go_wp2
      exact bodyPost_ret (v := .bool true) (by simp [results, Try.results8, go_sem]) rfl ⟨rfl, HK.out.trans HKR.out⟩
/-! ### The row's step (the guide's frame, written by program) -/
set_option maxRecDepth 100000 in
theorem lifted (os : Os) (started : os.Started) (H : Type) (enc : TypeId × Value → H) :
    ReturnsInHanded {} Try.checked os 8 .any (Rows.panicsFlightSpec.pre6 enc Try.prog Try.f8 Rows.panicsFlightRow.domain false) (Rows.panicsFlightSpec.post enc Try.prog Try.f8 false true false false) := by
  refine returnsInHanded_of_change_sized (C := Try.checked) own started (by kernel_rfl) Try.func8
    (ChangeSpec.witness6 (enc := enc) (C := Try.checked) false ⟨#[], #[.slice none 0 0], []⟩ 8 (by kernel_rfl) (by kernel_rfl) (by kernel_rfl) (by kernel_rfl)) ?_
  intro W base args ds gs before hval0 hW _ hsz0 _
  have hsz : (DataW.weightsEach Try.prog (Try.f8.params.toList ++ Rows.panicsFlightSpec.plain.varTypes Try.prog) (ds ++ gs)).all (· ≤ reachBytes) = true := hsz0
  clear hsz0
  have hval : ∀ (j : Nat) t v, Try.f8.params[j]? = some t → args[j]? = some v → Value.okWide Try.prog W .any base t v := hval0
  have hW' := hW
  obtain ⟨p, q, hA0, hV, rfl, hfz, hnd⟩ := hW
  have hA : DataW.TrodAll enc Try.prog W 0 (fun _ => true) true Try.f8.params.toList args.toList ds p := hA0
  rw [Try.params8] at hA hval hsz
  obtain ⟨v0, vs0, d0, ds0, p0, q0, hargs, rfl, rfl, h0, r0⟩ := trodAll_cons hA
  obtain ⟨rfl, rfl, rfl⟩ := trodAll_nil r0
  obtain rfl : args = #[v0] := by cases args; simp_all
  obtain ⟨rfl, rfl⟩ := trodVars_none hV
  have k0 := h0
  have lt0 : ∀ x ∈ p0, x.block < W.heap.size := by obtain ⟨m, hm⟩ := k0; exact DataW.trod_lt m _ _ _ hm
  have hz0 : ∀ n ∈ DataW.weights Try.prog 22 d0, n ≤ reachBytes := fun n hn => by
    have := List.all_eq_true.1 hsz _ (DataW.weights_mem_each (j := 0) rfl rfl n hn)
    simpa using this
  obtain ⟨a0, w0⟩ := open_events (hval 0 22 v0 rfl rfl) h0 hz0
  clear hA0 hval0
  simp only [List.append_nil] at hW'
  refine (walk v0 a0 W w0).mono fun e W' ⟨he, bel⟩ => ?_
  subst he
  exact ⟨_, rfl, _, _, _, [], _, [], hW', trodAll_mk1 (shut_bool Try.underlying4 _), (trodAll_cons_mk (Below.trod laidOut (by kernel_rfl) (of_decide_eq_true (by kernel_rfl)) k0 bel lt0) trodAll_mk0), rfl, Below.frame bel _, fun h => by cases h⟩

theorem over : Rows.panicsFlightRow.holds Try.pinned (OpenSpec.ofChange Rows.panicsFlightSpec) :=
  OpenClaim.holds_of_wide 8 Try.f8 rfl rfl rfl rfl rfl rfl rfl ⟨rfl, rfl, rfl, rfl, rfl⟩ rfl rfl rfl rfl rfl (by kernel_rfl) Try.func8 (by kernel_rfl)
    (of_decide_eq_true (by kernel_rfl)) (by unfold Func.isWrapper; rw [if_neg (of_decide_eq_false (by kernel_rfl))]; exact ⟨rfl, rfl⟩)
    (fun os started H enc _ => lifted os started H enc)

/-- THE STATEMENT. -/
theorem proved : Rows.PanicsFlightSaid := over
#print axioms proved

end Go.Proofs.Ytfholconiofgoaa.panicsFlight
