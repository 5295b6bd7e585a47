/-
  The law PanicsCut answers true for all lists of events. No condition.
-/
import Derived.SizedLaws
import Derived.Deep.CondSized
import Derived.Test.YtfholconiofgoaaRows
import Derived.Test.YtfholconiofgoaaPanL
import Derived.Test.YtfholconiofgoaaPanO
namespace Go.Proofs.Ytfholconiofgoaa.panicsCut
open Go.ChangeShapes Go.WideShapes Go.ChangeAt Go.RowKit
open Go.ChangeMaps (open_string shut_string)
set_option linter.unusedVariables false

theorem own : ownKnob Try.prog.godebug = none := by kernel_rfl
theorem laidOut : laidOutB Try.prog = true := by kernel_rfl


theorem flat_at {T : List (List TellM)} {Tk : List TellM} {t : TellM} : ∀ {l : List (List TellM)} {i k : Nat}, l[i]? = some Tk → Tk[k]? = some t → l.flatten[(l.take i).flatten.length + k]? = some t
  | [], i, k, h, _ => by simp at h
  | a :: l, 0, k, h, h2 => by
    obtain rfl : a = Tk := by simpa using h
    have hk := (List.getElem?_eq_some_iff.1 h2).1
    rw [List.take_zero, List.flatten_nil, List.length_nil, Nat.zero_add, List.flatten_cons, List.getElem?_append_left hk]; exact h2
  | a :: l, i + 1, k, h, h2 => by
    rw [List.take_succ_cons, List.flatten_cons, List.flatten_cons, List.length_append, List.getElem?_append_right (by omega)]
    have e : a.length + (l.take i).flatten.length + k - a.length = (l.take i).flatten.length + k := by omega
    rw [e]
    exact flat_at (T := T) (by simpa using h) h2
theorem flat_take {l : List (List TellM)} {i : Nat} {Tk : List TellM} (h : l[i]? = some Tk) : (l.take (i + 1)).flatten.length = (l.take i).flatten.length + Tk.length := by
  obtain ⟨hk, rfl⟩ := List.getElem?_eq_some_iff.1 h
  rw [List.take_succ_eq_append_getElem hk, List.flatten_append, List.length_append]; simp
theorem cut_in {W u : World} {n m B nn : Nat} {X Y : Int} (hX : X = ((B + (m + 1) : Nat) : Int)) (hY : Y = ((m + 1 : Nat) : Int)) (hlm : m < n) (hk : Kp W u) : (∃ m' : Nat, m' ≤ n ∧ Value.int .i64 X = .int .i64 ((B + m' : Nat) : Int) ∧ Value.int .i64 Y = .int .i64 (m' : Int) ∧ Kp W u) ∧ n - (intOf (.int .i64 Y)).toNat < n - (intOf (.int .i64 (m : Int))).toNat := by
  rw [hX, hY]
  exact ⟨⟨m + 1, hlm, rfl, rfl, hk⟩, by simp only [intOf, Int.toNat_natCast]; omega⟩
theorem cut_out {W u : World} {n m : Nat} {B : Nat → Nat} {X Y : Int} (hX : X = ((B (m + 1) : Nat) : Int)) (hY : Y = ((m + 1 : Nat) : Int)) (hlm : m < n) (hk : Kp W u) : (∃ m' : Nat, m' ≤ n ∧ Value.int .i64 X = .int .i64 ((B m' : Nat) : Int) ∧ Value.int .i64 Y = .int .i64 (m' : Int) ∧ Kp W u) ∧ n - (intOf (.int .i64 Y)).toNat < n - (intOf (.int .i64 (m : Int))).toNat := by
  rw [hX, hY]
  exact ⟨⟨m + 1, hlm, rfl, rfl, hk⟩, by simp only [intOf, Int.toNat_natCast]; omega⟩
set_option maxRecDepth 20000 in
set_option maxHeartbeats 8000000 in
theorem walk (v0 : Value) (a0 : List EventM) (w : World) (w0 : RdEventsB w v0 a0) :
    Calls Try.prog 9 #[v0] w fun e w' => e = .returned (.bool true) ∧ Kp w w' := by
  have HL := hid (show RdL CeEvent 6 w v0 a0 from w0.1)
  obtain ⟨A, c, rfl, hlc⟩ := w0.1.form
  clear w0
  go_enter Try.func9, Try.ntmps9
  go_wp2_with fail
  refine (events_any _ a0 _ HL.out).mono ?_
  rintro e w1 ⟨⟨v1, rfl, h1⟩, hk1⟩
  have HOK := hid (eventsM_ok a0)
  have HML := hid (eventsM_len a0)
  generalize eventsM a0 = M at h1 HOK HML
  have HID := hid (eventsM_id HOK.out HML.out)
  obtain ⟨A0, c0, rfl, hc0⟩ := h1.rd.form
  have H1 := hid h1.rd
  go_wp2_with fail
  refine (played_any _ M _ H1.out HOK.out HML.out).mono ?_
  rintro e w2 ⟨⟨vs, va, rfl, h2, h3⟩, hk2⟩
  have HM2 := hid (H1.out.kp CeEvent.kp hk2)
  have HSL := hid (show ∀ n1, (st0 :: statesM st0 M).length = n1 + 1 → (st0 :: statesM st0 M)[n1]? = some (lastM st0 M) from fun n1 h => by
    have h5 := lastM_at M st0
    rw [List.length_cons] at h
    have e2 : n1 = (statesM st0 M).length := by omega
    rw [e2]; exact h5)
  have HTC := hid (all_tlen M st0 0 st0_gr rfl)
  have HTL := hid (Nat.le_trans (all_le M st0) HML.out)
  have HLL := hid (states_le HML.out)
  have HN := hid (show 0 < (st0 :: statesM st0 M).length by simp)
  obtain ⟨F, hF0⟩ : ∃ F, (allM st0 M).flatten = F := ⟨_, rfl⟩
  have HF0 := hid hF0
  have HFE := hid hF0.symm
  clear hF0
  generalize st0 :: statesM st0 M = L at HSL HLL HN h2
  generalize allM st0 M = T at HTC HTL HFE h3
  obtain ⟨As, cs, rfl, hLc⟩ := h2.rd.form
  obtain ⟨At, ct, rfl, hTc⟩ := h3.rd.form
  go_wp2_with fail
  refine (events_any _ M _ HM2.out).mono ?_
  rintro e w3 ⟨⟨v3, rfl, h4⟩, hk3⟩
  rw [HID.out] at h4
  have H4 := hid h4.rd
  clear h4
  go_wp2_with fail
  have hc := play_any v3 M w3 H4.out HOK.out HML.out
  obtain ⟨S, F', hp, hG, hgr, ht, hF, hSe, hFe⟩ := play_st (.inl st0_runs) st0_gr rfl M HML.out
  rw [HF0.out] at hFe
  replace hFe := hFe.symm
  subst hFe
  rw [hp] at hc
  have e1 : (addT F S).told = F := by show F ++ S.told = F; rw [ht, List.append_nil]
  refine hc.mono ?_
  clear hc hp
  rintro e w4 ⟨⟨fv, pv, tv, rfl, hso, htd⟩, hk4⟩
  rw [e1] at htd
  obtain ⟨A7, c7, A8, c8, rfl, rfl⟩ := hso.form
  obtain ⟨A9, c9, rfl, _⟩ := htd.len
  have HS := hid ((h2.kp hk3).kp hk4)
  have HTS := hid ((h3.kp hk3).kp hk4)
  have HFL := hid hF
  obtain ⟨n1, hn1⟩ : ∃ n1, L.length = n1 + 1 := ⟨L.length - 1, by have := HN.out; omega⟩
  have HS1 := hid (show L[n1]? = some S by rw [hSe]; exact HSL.out n1 hn1)
  have i6 : (n1 : Int) < (L.length : Int) := by omega
  have i7 : (1 : Int) ≤ (L.length : Int) := by omega
  have i8 : IntKind.i64.wrap ((L.length : Int) - 1) = (n1 : Int) := by rw [IntKind.wrap_i64]; have := HLL.out; omega
  have HFD := hid htd; have HSO := hid hso
  have HKA := hid (hk1.trans (hk2.trans (hk3.trans (hk4.trans ((Kp.refl w4).alloc (Obj.cells #[.slice A7 S.fr.length c7, .slice A8 S.pn.length c8, .int .i64 S.next, .int .i64 S.ser, .int .i64 S.en, .int .i64 S.stat] 36))))))
  have HKS := hid (show Kp w4 (w4.alloc (Obj.cells #[.slice A7 S.fr.length c7, .slice A8 S.pn.length c8, .int .i64 S.next, .int .i64 S.ser, .int .i64 S.en, .int .i64 S.stat] 36)) from (Kp.refl w4).alloc _)
  have HB := hid (show StBox (w4.alloc (Obj.cells #[.slice A7 S.fr.length c7, .slice A8 S.pn.length c8, .int .i64 S.next, .int .i64 S.ser, .int .i64 S.en, .int .i64 S.stat] 36)) w4.heap.size (.slice A7 S.fr.length c7) (.slice A8 S.pn.length c8) (numS S) from blk_new _ _)
  clear h1 h2 h3 hk1 hk2 hk3 hk4 hG hgr ht hF hSe hso htd e1 hn1 hLc hTc hc0 hlc HL HOK HML HID H1 HM2 H4 HN HSL
  dsimp only [addT]
  go_wp2
  obtain ⟨bs, hbs⟩ : ∃ bs, w4.heap.size = bs := ⟨_, rfl⟩
  rw [hbs] at HB ⊢
  clear hbs
  generalize w4.alloc (Obj.cells #[.slice A7 S.fr.length c7, .slice A8 S.pn.length c8, .int .i64 S.next, .int .i64 S.ser, .int .i64 S.en, .int .i64 S.stat] 36) = W at HB HKA HKS ⊢
  go_loopw [9, 10] (fun p i wr => ∃ k : Nat, k ≤ T.length ∧ p = .int .i64 (((T.take k).flatten.length : Nat) : Int) ∧ i = .int .i64 (k : Int) ∧ Kp W wr) (fun _ i _ => T.length - (intOf i).toNat)
  case atStart => exact ⟨0, by omega, rfl, rfl, Kp.refl _⟩
  case round =>
    obtain ⟨k, hk, rfl, rfl, hkp⟩ := hrel
    have HKR := hid hkp
    by_cases hlt : k < T.length
    · have i1 : (k : Int) < (T.length : Int) := by omega
      have HWK := hid (wrap_up (n := k) (by have := HTL.out; omega))
      obtain ⟨Tk, hTk⟩ : ∃ Tk, T[k]? = some Tk := ⟨_, List.getElem?_eq_getElem hlt⟩
      have HTK := hid hTk
      have HTN := hid (flat_take hTk)
      have HTB0 := hid (HTC.out Tk (List.mem_of_getElem? hTk))
      have htd0 := at_tds (HTS.out.kp (HKS.out.trans hkp)) hTk
      obtain ⟨b2, off2, rfl, hb2, tv, c0', htd⟩ := htd0
      obtain ⟨A4, c4, rfl, _⟩ := htd.len
      have HTD := hid htd; have HB2' := hid hb2; have X0' := hid c0'
      have HB0 := hid (show (T.take k).flatten.length ≤ F.length by
        rw [HFE.out]
        have h := congrArg (fun l => l.flatten.length) (List.take_append_drop k T)
        try dsimp only at h
        rw [List.flatten_append, List.length_append] at h; omega)
      have HB1 := hid (show (T.take k).flatten.length + Tk.length = (T.take (k + 1)).flatten.length from HTN.out.symm)
      have hflt : ∀ j, (T.take j).flatten.length = (fun j => (T.take j).flatten.length) j := fun _ => rfl
      obtain ⟨B, hB⟩ : ∃ B, (T.take k).flatten.length = B := ⟨_, rfl⟩
      rw [hB] at HB0 HB1 ⊢
      have HBE := hid hB
      clear hB hflt htd hTk hk hkp
      go_wp2
      go_loopw [9, 11] (fun p j wq => ∃ m : Nat, m ≤ Tk.length ∧ p = .int .i64 ((B + m : Nat) : Int) ∧ j = .int .i64 (m : Int) ∧ Kp wr wq) (fun _ j _ => Tk.length - (intOf j).toNat)
      case atStart => exact ⟨0, by omega, rfl, rfl, Kp.refl _⟩
      case round =>
        obtain ⟨m, hm, rfl, rfl, hkq⟩ := hrel
        have HKQ := hid hkq
        have c0k := cell_kp hkq HB2'.out X0'.out
        have hb2k := Nat.lt_of_lt_of_le HB2'.out hkq.le
        have HB2 := hid hb2k; have X0 := hid c0k
        by_cases hlm : m < Tk.length
        · have i2 : (m : Int) < (Tk.length : Int) := by omega
          obtain ⟨t, ht⟩ : ∃ t, Tk[m]? = some t := ⟨_, List.getElem?_eq_getElem hlm⟩
          have hft : F[B + m]? = some t := by rw [HFE.out, ← HBE.out]; exact flat_at (T := T) HTK.out ht
          have hlf := (List.getElem?_eq_some_iff.1 hft).1
          obtain ⟨nn, hnn⟩ : ∃ nn, B + m = nn := ⟨_, rfl⟩
          rw [hnn] at hft hlf ⊢
          have i3 : (nn : Int) < (F.length : Int) := by omega
          have i5 : ¬ F.length ≤ nn := by omega
          have i5b : decide (F.length ≤ nn) = false := decide_eq_false (by omega)
          have i4 : decide ((F.length : Int) ≤ (nn : Int)) = false := decide_eq_false (by omega)
          obtain ⟨tb, tf, rfl, htb, _, _, y0, y1, y2, _⟩ := at_td (HFD.out.kp (HKS.out.trans (HKR.out.trans hkq))) hft
          obtain ⟨xb, xf, rfl, hxb, _, _, z0, z1, z2, _⟩ := at_td (HTD.out.kp hkq) ht
          have HNN := hid hnn
          have Y0 := hid y0; have Y1 := hid y1; have Y2 := hid y2; have Z0 := hid z0; have Z1 := hid z1; have Z2 := hid z2; have HTB := hid htb; have HXB := hid hxb
          have HWM := hid (wrap_up (n := m) (by have := HTB0.out; omega)); have HWN := hid (wrap_up (n := nn) (by have := HFL.out; omega))
          clear ht hft hlf hnn hkq hm y0 y1 y2 z0 z1 z2 htb hxb
          go_wp2
          clear c0k hb2k
          refine wp_region_kp [[], [], [1], [0, 2], [3], [4], [4], [4, 5, 6], [4, 7], [4, 8], [4], [4], [4, 10, 11], [4, 12], [4], [4, 13, 14], [4, 15], [4, 16], [4, 9, 17], [4, 18], [19], [20], [20], [20, 21, 22], [20, 23], [20, 24], [20], [20], [20, 26, 27], [20, 28], [20], [20, 29, 30], [20, 31], [20, 32], [20, 25, 33], [20, 34], [35], [36], [36], [36, 37, 38], [36, 39], [36, 40], [36], [36], [36, 42, 43], [36, 44], [36], [36, 45, 46], [36, 47], [36, 48], [36, 41, 49], [36, 50]] (fun u => Kp wr u)
            [fun (y : Value) (u : World) => y = (.int .i64 (nn : Int) : Value),
             fun (y : Value) (u : World) => y = (.slice (some ⟨tb, tf, none⟩) F.length c9 : Value),
             fun (y : Value) (u : World) => y = (.int .i64 (F.length : Int) : Value),
             fun (y : Value) (u : World) => y = (.bool false : Value),
             fun (y : Value) (u : World) => y = (.bool false : Value),
             fun (y : Value) (u : World) => y = (.slice (some ⟨tb, tf, none⟩) F.length c9 : Value),
             fun (y : Value) (u : World) => y = (.int .i64 (nn : Int) : Value),
             fun (y : Value) (u : World) => y = (.pointer (some ⟨tb, tf + nn * 7, none⟩) : Value),
             fun (y : Value) (u : World) => y = (.pointer (some ⟨tb, tf + nn * 7, none⟩) : Value),
             fun (y : Value) (u : World) => y = (.int .i64 t.kind : Value),
             fun (y : Value) (u : World) => y = (.slice (some ⟨b2, off2, none⟩) T.length ct : Value),
             fun (y : Value) (u : World) => y = (.int .i64 (k : Int) : Value),
             fun (y : Value) (u : World) => y = (.pointer (some ⟨b2, off2 + k, none⟩) : Value),
             fun (y : Value) (u : World) => y = (.slice (some ⟨xb, xf, none⟩) Tk.length c4 : Value),
             fun (y : Value) (u : World) => y = (.int .i64 (m : Int) : Value),
             fun (y : Value) (u : World) => y = (.pointer (some ⟨xb, xf + m * 7, none⟩) : Value),
             fun (y : Value) (u : World) => y = (.pointer (some ⟨xb, xf + m * 7, none⟩) : Value),
             fun (y : Value) (u : World) => y = (.int .i64 t.kind : Value),
             fun (y : Value) (u : World) => y = (.bool false : Value),
             fun (y : Value) (u : World) => y = (.bool false : Value),
             fun (y : Value) (u : World) => y = (.bool false : Value),
             fun (y : Value) (u : World) => y = (.slice (some ⟨tb, tf, none⟩) F.length c9 : Value),
             fun (y : Value) (u : World) => y = (.int .i64 (nn : Int) : Value),
             fun (y : Value) (u : World) => y = (.pointer (some ⟨tb, tf + nn * 7, none⟩) : Value),
             fun (y : Value) (u : World) => y = (.pointer (some ⟨tb, tf + nn * 7 + 1, none⟩) : Value),
             fun (y : Value) (u : World) => y = (.int .i64 t.n : Value),
             fun (y : Value) (u : World) => y = (.slice (some ⟨b2, off2, none⟩) T.length ct : Value),
             fun (y : Value) (u : World) => y = (.int .i64 (k : Int) : Value),
             fun (y : Value) (u : World) => y = (.pointer (some ⟨b2, off2 + k, none⟩) : Value),
             fun (y : Value) (u : World) => y = (.slice (some ⟨xb, xf, none⟩) Tk.length c4 : Value),
             fun (y : Value) (u : World) => y = (.int .i64 (m : Int) : Value),
             fun (y : Value) (u : World) => y = (.pointer (some ⟨xb, xf + m * 7, none⟩) : Value),
             fun (y : Value) (u : World) => y = (.pointer (some ⟨xb, xf + m * 7 + 1, none⟩) : Value),
             fun (y : Value) (u : World) => y = (.int .i64 t.n : Value),
             fun (y : Value) (u : World) => y = (.bool false : Value),
             fun (y : Value) (u : World) => y = (.bool false : Value),
             fun (y : Value) (u : World) => y = (.bool false : Value),
             fun (y : Value) (u : World) => y = (.slice (some ⟨tb, tf, none⟩) F.length c9 : Value),
             fun (y : Value) (u : World) => y = (.int .i64 (nn : Int) : Value),
             fun (y : Value) (u : World) => y = (.pointer (some ⟨tb, tf + nn * 7, none⟩) : Value),
             fun (y : Value) (u : World) => y = (.pointer (some ⟨tb, tf + nn * 7 + 2, none⟩) : Value),
             fun (y : Value) (u : World) => y = (.int .i64 t.to : Value),
             fun (y : Value) (u : World) => y = (.slice (some ⟨b2, off2, none⟩) T.length ct : Value),
             fun (y : Value) (u : World) => y = (.int .i64 (k : Int) : Value),
             fun (y : Value) (u : World) => y = (.pointer (some ⟨b2, off2 + k, none⟩) : Value),
             fun (y : Value) (u : World) => y = (.slice (some ⟨xb, xf, none⟩) Tk.length c4 : Value),
             fun (y : Value) (u : World) => y = (.int .i64 (m : Int) : Value),
             fun (y : Value) (u : World) => y = (.pointer (some ⟨xb, xf + m * 7, none⟩) : Value),
             fun (y : Value) (u : World) => y = (.pointer (some ⟨xb, xf + m * 7 + 2, none⟩) : Value),
             fun (y : Value) (u : World) => y = (.int .i64 t.to : Value),
             fun (y : Value) (u : World) => y = (.bool false : Value),
             fun (y : Value) (u : World) => y = (.bool false : Value)]
            (by kernel_rfl) (by kernel_rfl) (by kernel_rfl) (by kernel_rfl) ((Kp.refl _).drew) (fun _ _ hk h => h.trans hk) ⟨fun _ _ _ _ h => h, fun _ _ _ _ h => h, fun _ _ _ _ h => h, fun _ _ _ _ h => h, fun _ _ _ _ h => h, fun _ _ _ _ h => h, fun _ _ _ _ h => h, fun _ _ _ _ h => h, fun _ _ _ _ h => h, fun _ _ _ _ h => h, fun _ _ _ _ h => h, fun _ _ _ _ h => h, fun _ _ _ _ h => h, fun _ _ _ _ h => h, fun _ _ _ _ h => h, fun _ _ _ _ h => h, fun _ _ _ _ h => h, fun _ _ _ _ h => h, fun _ _ _ _ h => h, fun _ _ _ _ h => h, fun _ _ _ _ h => h, fun _ _ _ _ h => h, fun _ _ _ _ h => h, fun _ _ _ _ h => h, fun _ _ _ _ h => h, fun _ _ _ _ h => h, fun _ _ _ _ h => h, fun _ _ _ _ h => h, fun _ _ _ _ h => h, fun _ _ _ _ h => h, fun _ _ _ _ h => h, fun _ _ _ _ h => h, fun _ _ _ _ h => h, fun _ _ _ _ h => h, fun _ _ _ _ h => h, fun _ _ _ _ h => h, fun _ _ _ _ h => h, fun _ _ _ _ h => h, fun _ _ _ _ h => h, fun _ _ _ _ h => h, fun _ _ _ _ h => h, fun _ _ _ _ h => h, fun _ _ _ _ h => h, fun _ _ _ _ h => h, fun _ _ _ _ h => h, fun _ _ _ _ h => h, fun _ _ _ _ h => h, fun _ _ _ _ h => h, fun _ _ _ _ h => h, fun _ _ _ _ h => h, fun _ _ _ _ h => h, fun _ _ _ _ h => h, trivial⟩ ⟨?sb0, ?sb1, ?sb2, ?sb3, ?sb4, ?sb5, ?sb6, ?sb7, ?sb8, ?sb9, ?sb10, ?sb11, ?sb12, ?sb13, ?sb14, ?sb15, ?sb16, ?sb17, ?sb18, ?sb19, ?sb20, ?sb21, ?sb22, ?sb23, ?sb24, ?sb25, ?sb26, ?sb27, ?sb28, ?sb29, ?sb30, ?sb31, ?sb32, ?sb33, ?sb34, ?sb35, ?sb36, ?sb37, ?sb38, ?sb39, ?sb40, ?sb41, ?sb42, ?sb43, ?sb44, ?sb45, ?sb46, ?sb47, ?sb48, ?sb49, ?sb50, ?sb51, trivial⟩ ?hEb
          case sb0 =>
            intro x u hg hd K hK
            clear hd
            refine ⟨?_⟩
            simp only [putsFrom, Act.put, List.setIfInBounds_toArray, List.set_cons_zero, List.set_cons_succ, Nat.reduceAdd] at hK ⊢
            go_simp
            exact hK.out _ _ (Kp.refl _) rfl
          case sb1 =>
            intro x u hg hd K hK
            clear hd
            refine ⟨?_⟩
            simp only [putsFrom, Act.put, List.setIfInBounds_toArray, List.set_cons_zero, List.set_cons_succ, Nat.reduceAdd] at hK ⊢
            go_simp
            exact hK.out _ _ (Kp.refl _) rfl
          case sb2 =>
            intro x u hg hd K hK
            have d1 : (x 1) = .slice (some ⟨tb, tf, none⟩) F.length c9 := And.left hd
            clear hd
            refine ⟨?_⟩
            simp only [putsFrom, Act.put, List.setIfInBounds_toArray, List.set_cons_zero, List.set_cons_succ, Nat.reduceAdd, d1] at hK ⊢
            go_simp
            exact hK.out _ _ (Kp.refl _) rfl
          case sb3 =>
            intro x u hg hd K hK
            have d0 : (x 0) = .int .i64 (nn : Int) := And.left hd
            have d2 : (x 2) = .int .i64 (F.length : Int) := And.left (And.right hd)
            clear hd
            refine ⟨?_⟩
            simp only [putsFrom, Act.put, List.setIfInBounds_toArray, List.set_cons_zero, List.set_cons_succ, Nat.reduceAdd, d0, d2] at hK ⊢
            go_simp
            exact hK.out _ _ (Kp.refl _) rfl
          case sb4 =>
            intro x u hg hd K hK
            have d3 : (x 3) = .bool false := And.left hd
            clear hd
            refine ⟨?_⟩
            simp only [putsFrom, Act.put, List.setIfInBounds_toArray, List.set_cons_zero, List.set_cons_succ, Nat.reduceAdd, d3] at hK ⊢
            go_simp
            exact hK.out _ _ (Kp.refl _) rfl
          case sb5 =>
            intro x u hg hd K hK
            have d4 : (x 4) = .bool false := And.left hd
            clear hd
            refine ⟨?_⟩
            simp only [putsFrom, Act.put, List.setIfInBounds_toArray, List.set_cons_zero, List.set_cons_succ, Nat.reduceAdd, d4] at hK ⊢
            go_simp
            exact hK.out _ _ (Kp.refl _) rfl
          case sb6 =>
            intro x u hg hd K hK
            have d4 : (x 4) = .bool false := And.left hd
            clear hd
            refine ⟨?_⟩
            simp only [putsFrom, Act.put, List.setIfInBounds_toArray, List.set_cons_zero, List.set_cons_succ, Nat.reduceAdd, d4] at hK ⊢
            go_simp
            exact hK.out _ _ (Kp.refl _) rfl
          case sb7 =>
            intro x u hg hd K hK
            have d4 : (x 4) = .bool false := And.left hd
            have d5 : (x 5) = .slice (some ⟨tb, tf, none⟩) F.length c9 := And.left (And.right hd)
            have d6 : (x 6) = .int .i64 (nn : Int) := And.left (And.right (And.right hd))
            clear hd
            refine ⟨?_⟩
            simp only [putsFrom, Act.put, List.setIfInBounds_toArray, List.set_cons_zero, List.set_cons_succ, Nat.reduceAdd, d4, d5, d6] at hK ⊢
            go_simp
            exact hK.out _ _ (Kp.refl _) rfl
          case sb8 =>
            intro x u hg hd K hK
            have d4 : (x 4) = .bool false := And.left hd
            have d7 : (x 7) = .pointer (some ⟨tb, tf + nn * 7, none⟩) := And.left (And.right hd)
            clear hd
            refine ⟨?_⟩
            simp only [putsFrom, Act.put, List.setIfInBounds_toArray, List.set_cons_zero, List.set_cons_succ, Nat.reduceAdd, d4, d7] at hK ⊢
            go_simp
            exact hK.out _ _ (Kp.refl _) rfl
          case sb9 =>
            intro x u hg hd K hK
            have d4 : (x 4) = .bool false := And.left hd
            have d8 : (x 8) = .pointer (some ⟨tb, tf + nn * 7, none⟩) := And.left (And.right hd)
            clear hd
            have q0 := cell_kp hg HTB.out Y0.out
            refine ⟨?_⟩
            simp only [putsFrom, Act.put, List.setIfInBounds_toArray, List.set_cons_zero, List.set_cons_succ, Nat.reduceAdd, d4, d8] at hK ⊢
            go_simp
            exact hK.out _ _ (Kp.refl _) rfl
          case sb10 =>
            intro x u hg hd K hK
            have d4 : (x 4) = .bool false := And.left hd
            clear hd
            refine ⟨?_⟩
            simp only [putsFrom, Act.put, List.setIfInBounds_toArray, List.set_cons_zero, List.set_cons_succ, Nat.reduceAdd, d4] at hK ⊢
            go_simp
            exact hK.out _ _ (Kp.refl _) rfl
          case sb11 =>
            intro x u hg hd K hK
            have d4 : (x 4) = .bool false := And.left hd
            clear hd
            refine ⟨?_⟩
            simp only [putsFrom, Act.put, List.setIfInBounds_toArray, List.set_cons_zero, List.set_cons_succ, Nat.reduceAdd, d4] at hK ⊢
            go_simp
            exact hK.out _ _ (Kp.refl _) rfl
          case sb12 =>
            intro x u hg hd K hK
            have d4 : (x 4) = .bool false := And.left hd
            have d10 : (x 10) = .slice (some ⟨b2, off2, none⟩) T.length ct := And.left (And.right hd)
            have d11 : (x 11) = .int .i64 (k : Int) := And.left (And.right (And.right hd))
            clear hd
            refine ⟨?_⟩
            simp only [putsFrom, Act.put, List.setIfInBounds_toArray, List.set_cons_zero, List.set_cons_succ, Nat.reduceAdd, d4, d10, d11] at hK ⊢
            go_simp
            exact hK.out _ _ (Kp.refl _) rfl
          case sb13 =>
            intro x u hg hd K hK
            have d4 : (x 4) = .bool false := And.left hd
            have d12 : (x 12) = .pointer (some ⟨b2, off2 + k, none⟩) := And.left (And.right hd)
            clear hd
            have q0 := cell_kp hg HB2.out X0.out
            refine ⟨?_⟩
            simp only [putsFrom, Act.put, List.setIfInBounds_toArray, List.set_cons_zero, List.set_cons_succ, Nat.reduceAdd, d4, d12] at hK ⊢
            go_simp
            exact hK.out _ _ (Kp.refl _) rfl
          case sb14 =>
            intro x u hg hd K hK
            have d4 : (x 4) = .bool false := And.left hd
            clear hd
            refine ⟨?_⟩
            simp only [putsFrom, Act.put, List.setIfInBounds_toArray, List.set_cons_zero, List.set_cons_succ, Nat.reduceAdd, d4] at hK ⊢
            go_simp
            exact hK.out _ _ (Kp.refl _) rfl
          case sb15 =>
            intro x u hg hd K hK
            have d4 : (x 4) = .bool false := And.left hd
            have d13 : (x 13) = .slice (some ⟨xb, xf, none⟩) Tk.length c4 := And.left (And.right hd)
            have d14 : (x 14) = .int .i64 (m : Int) := And.left (And.right (And.right hd))
            clear hd
            refine ⟨?_⟩
            simp only [putsFrom, Act.put, List.setIfInBounds_toArray, List.set_cons_zero, List.set_cons_succ, Nat.reduceAdd, d4, d13, d14] at hK ⊢
            go_simp
            exact hK.out _ _ (Kp.refl _) rfl
          case sb16 =>
            intro x u hg hd K hK
            have d4 : (x 4) = .bool false := And.left hd
            have d15 : (x 15) = .pointer (some ⟨xb, xf + m * 7, none⟩) := And.left (And.right hd)
            clear hd
            refine ⟨?_⟩
            simp only [putsFrom, Act.put, List.setIfInBounds_toArray, List.set_cons_zero, List.set_cons_succ, Nat.reduceAdd, d4, d15] at hK ⊢
            go_simp
            exact hK.out _ _ (Kp.refl _) rfl
          case sb17 =>
            intro x u hg hd K hK
            have d4 : (x 4) = .bool false := And.left hd
            have d16 : (x 16) = .pointer (some ⟨xb, xf + m * 7, none⟩) := And.left (And.right hd)
            clear hd
            have q0 := cell_kp hg HXB.out Z0.out
            refine ⟨?_⟩
            simp only [putsFrom, Act.put, List.setIfInBounds_toArray, List.set_cons_zero, List.set_cons_succ, Nat.reduceAdd, d4, d16] at hK ⊢
            go_simp
            exact hK.out _ _ (Kp.refl _) rfl
          case sb18 =>
            intro x u hg hd K hK
            have d4 : (x 4) = .bool false := And.left hd
            have d9 : (x 9) = .int .i64 t.kind := And.left (And.right hd)
            have d17 : (x 17) = .int .i64 t.kind := And.left (And.right (And.right hd))
            clear hd
            refine ⟨?_⟩
            simp only [putsFrom, Act.put, List.setIfInBounds_toArray, List.set_cons_zero, List.set_cons_succ, Nat.reduceAdd, d4, d9, d17] at hK ⊢
            go_simp
            exact hK.out _ _ (Kp.refl _) rfl
          case sb19 =>
            intro x u hg hd K hK
            have d4 : (x 4) = .bool false := And.left hd
            have d18 : (x 18) = .bool false := And.left (And.right hd)
            clear hd
            refine ⟨?_⟩
            simp only [putsFrom, Act.put, List.setIfInBounds_toArray, List.set_cons_zero, List.set_cons_succ, Nat.reduceAdd, d4, d18] at hK ⊢
            go_simp
            exact hK.out _ _ (Kp.refl _) rfl
          case sb20 =>
            intro x u hg hd K hK
            have d19 : (x 19) = .bool false := And.left hd
            clear hd
            refine ⟨?_⟩
            simp only [putsFrom, Act.put, List.setIfInBounds_toArray, List.set_cons_zero, List.set_cons_succ, Nat.reduceAdd, d19] at hK ⊢
            go_simp
            exact hK.out _ _ (Kp.refl _) rfl
          case sb21 =>
            intro x u hg hd K hK
            have d20 : (x 20) = .bool false := And.left hd
            clear hd
            refine ⟨?_⟩
            simp only [putsFrom, Act.put, List.setIfInBounds_toArray, List.set_cons_zero, List.set_cons_succ, Nat.reduceAdd, d20] at hK ⊢
            go_simp
            exact hK.out _ _ (Kp.refl _) rfl
          case sb22 =>
            intro x u hg hd K hK
            have d20 : (x 20) = .bool false := And.left hd
            clear hd
            refine ⟨?_⟩
            simp only [putsFrom, Act.put, List.setIfInBounds_toArray, List.set_cons_zero, List.set_cons_succ, Nat.reduceAdd, d20] at hK ⊢
            go_simp
            exact hK.out _ _ (Kp.refl _) rfl
          case sb23 =>
            intro x u hg hd K hK
            have d20 : (x 20) = .bool false := And.left hd
            have d21 : (x 21) = .slice (some ⟨tb, tf, none⟩) F.length c9 := And.left (And.right hd)
            have d22 : (x 22) = .int .i64 (nn : Int) := And.left (And.right (And.right hd))
            clear hd
            refine ⟨?_⟩
            simp only [putsFrom, Act.put, List.setIfInBounds_toArray, List.set_cons_zero, List.set_cons_succ, Nat.reduceAdd, d20, d21, d22] at hK ⊢
            go_simp
            exact hK.out _ _ (Kp.refl _) rfl
          case sb24 =>
            intro x u hg hd K hK
            have d20 : (x 20) = .bool false := And.left hd
            have d23 : (x 23) = .pointer (some ⟨tb, tf + nn * 7, none⟩) := And.left (And.right hd)
            clear hd
            refine ⟨?_⟩
            simp only [putsFrom, Act.put, List.setIfInBounds_toArray, List.set_cons_zero, List.set_cons_succ, Nat.reduceAdd, d20, d23] at hK ⊢
            go_simp
            exact hK.out _ _ (Kp.refl _) rfl
          case sb25 =>
            intro x u hg hd K hK
            have d20 : (x 20) = .bool false := And.left hd
            have d24 : (x 24) = .pointer (some ⟨tb, tf + nn * 7 + 1, none⟩) := And.left (And.right hd)
            clear hd
            have q0 := cell_kp hg HTB.out Y1.out
            refine ⟨?_⟩
            simp only [putsFrom, Act.put, List.setIfInBounds_toArray, List.set_cons_zero, List.set_cons_succ, Nat.reduceAdd, d20, d24] at hK ⊢
            go_simp
            exact hK.out _ _ (Kp.refl _) rfl
          case sb26 =>
            intro x u hg hd K hK
            have d20 : (x 20) = .bool false := And.left hd
            clear hd
            refine ⟨?_⟩
            simp only [putsFrom, Act.put, List.setIfInBounds_toArray, List.set_cons_zero, List.set_cons_succ, Nat.reduceAdd, d20] at hK ⊢
            go_simp
            exact hK.out _ _ (Kp.refl _) rfl
          case sb27 =>
            intro x u hg hd K hK
            have d20 : (x 20) = .bool false := And.left hd
            clear hd
            refine ⟨?_⟩
            simp only [putsFrom, Act.put, List.setIfInBounds_toArray, List.set_cons_zero, List.set_cons_succ, Nat.reduceAdd, d20] at hK ⊢
            go_simp
            exact hK.out _ _ (Kp.refl _) rfl
          case sb28 =>
            intro x u hg hd K hK
            have d20 : (x 20) = .bool false := And.left hd
            have d26 : (x 26) = .slice (some ⟨b2, off2, none⟩) T.length ct := And.left (And.right hd)
            have d27 : (x 27) = .int .i64 (k : Int) := And.left (And.right (And.right hd))
            clear hd
            refine ⟨?_⟩
            simp only [putsFrom, Act.put, List.setIfInBounds_toArray, List.set_cons_zero, List.set_cons_succ, Nat.reduceAdd, d20, d26, d27] at hK ⊢
            go_simp
            exact hK.out _ _ (Kp.refl _) rfl
          case sb29 =>
            intro x u hg hd K hK
            have d20 : (x 20) = .bool false := And.left hd
            have d28 : (x 28) = .pointer (some ⟨b2, off2 + k, none⟩) := And.left (And.right hd)
            clear hd
            have q0 := cell_kp hg HB2.out X0.out
            refine ⟨?_⟩
            simp only [putsFrom, Act.put, List.setIfInBounds_toArray, List.set_cons_zero, List.set_cons_succ, Nat.reduceAdd, d20, d28] at hK ⊢
            go_simp
            exact hK.out _ _ (Kp.refl _) rfl
          case sb30 =>
            intro x u hg hd K hK
            have d20 : (x 20) = .bool false := And.left hd
            clear hd
            refine ⟨?_⟩
            simp only [putsFrom, Act.put, List.setIfInBounds_toArray, List.set_cons_zero, List.set_cons_succ, Nat.reduceAdd, d20] at hK ⊢
            go_simp
            exact hK.out _ _ (Kp.refl _) rfl
          case sb31 =>
            intro x u hg hd K hK
            have d20 : (x 20) = .bool false := And.left hd
            have d29 : (x 29) = .slice (some ⟨xb, xf, none⟩) Tk.length c4 := And.left (And.right hd)
            have d30 : (x 30) = .int .i64 (m : Int) := And.left (And.right (And.right hd))
            clear hd
            refine ⟨?_⟩
            simp only [putsFrom, Act.put, List.setIfInBounds_toArray, List.set_cons_zero, List.set_cons_succ, Nat.reduceAdd, d20, d29, d30] at hK ⊢
            go_simp
            exact hK.out _ _ (Kp.refl _) rfl
          case sb32 =>
            intro x u hg hd K hK
            have d20 : (x 20) = .bool false := And.left hd
            have d31 : (x 31) = .pointer (some ⟨xb, xf + m * 7, none⟩) := And.left (And.right hd)
            clear hd
            refine ⟨?_⟩
            simp only [putsFrom, Act.put, List.setIfInBounds_toArray, List.set_cons_zero, List.set_cons_succ, Nat.reduceAdd, d20, d31] at hK ⊢
            go_simp
            exact hK.out _ _ (Kp.refl _) rfl
          case sb33 =>
            intro x u hg hd K hK
            have d20 : (x 20) = .bool false := And.left hd
            have d32 : (x 32) = .pointer (some ⟨xb, xf + m * 7 + 1, none⟩) := And.left (And.right hd)
            clear hd
            have q0 := cell_kp hg HXB.out Z1.out
            refine ⟨?_⟩
            simp only [putsFrom, Act.put, List.setIfInBounds_toArray, List.set_cons_zero, List.set_cons_succ, Nat.reduceAdd, d20, d32] at hK ⊢
            go_simp
            exact hK.out _ _ (Kp.refl _) rfl
          case sb34 =>
            intro x u hg hd K hK
            have d20 : (x 20) = .bool false := And.left hd
            have d25 : (x 25) = .int .i64 t.n := And.left (And.right hd)
            have d33 : (x 33) = .int .i64 t.n := And.left (And.right (And.right hd))
            clear hd
            refine ⟨?_⟩
            simp only [putsFrom, Act.put, List.setIfInBounds_toArray, List.set_cons_zero, List.set_cons_succ, Nat.reduceAdd, d20, d25, d33] at hK ⊢
            go_simp
            exact hK.out _ _ (Kp.refl _) rfl
          case sb35 =>
            intro x u hg hd K hK
            have d20 : (x 20) = .bool false := And.left hd
            have d34 : (x 34) = .bool false := And.left (And.right hd)
            clear hd
            refine ⟨?_⟩
            simp only [putsFrom, Act.put, List.setIfInBounds_toArray, List.set_cons_zero, List.set_cons_succ, Nat.reduceAdd, d20, d34] at hK ⊢
            go_simp
            exact hK.out _ _ (Kp.refl _) rfl
          case sb36 =>
            intro x u hg hd K hK
            have d35 : (x 35) = .bool false := And.left hd
            clear hd
            refine ⟨?_⟩
            simp only [putsFrom, Act.put, List.setIfInBounds_toArray, List.set_cons_zero, List.set_cons_succ, Nat.reduceAdd, d35] at hK ⊢
            go_simp
            exact hK.out _ _ (Kp.refl _) rfl
          case sb37 =>
            intro x u hg hd K hK
            have d36 : (x 36) = .bool false := And.left hd
            clear hd
            refine ⟨?_⟩
            simp only [putsFrom, Act.put, List.setIfInBounds_toArray, List.set_cons_zero, List.set_cons_succ, Nat.reduceAdd, d36] at hK ⊢
            go_simp
            exact hK.out _ _ (Kp.refl _) rfl
          case sb38 =>
            intro x u hg hd K hK
            have d36 : (x 36) = .bool false := And.left hd
            clear hd
            refine ⟨?_⟩
            simp only [putsFrom, Act.put, List.setIfInBounds_toArray, List.set_cons_zero, List.set_cons_succ, Nat.reduceAdd, d36] at hK ⊢
            go_simp
            exact hK.out _ _ (Kp.refl _) rfl
          case sb39 =>
            intro x u hg hd K hK
            have d36 : (x 36) = .bool false := And.left hd
            have d37 : (x 37) = .slice (some ⟨tb, tf, none⟩) F.length c9 := And.left (And.right hd)
            have d38 : (x 38) = .int .i64 (nn : Int) := And.left (And.right (And.right hd))
            clear hd
            refine ⟨?_⟩
            simp only [putsFrom, Act.put, List.setIfInBounds_toArray, List.set_cons_zero, List.set_cons_succ, Nat.reduceAdd, d36, d37, d38] at hK ⊢
            go_simp
            exact hK.out _ _ (Kp.refl _) rfl
          case sb40 =>
            intro x u hg hd K hK
            have d36 : (x 36) = .bool false := And.left hd
            have d39 : (x 39) = .pointer (some ⟨tb, tf + nn * 7, none⟩) := And.left (And.right hd)
            clear hd
            refine ⟨?_⟩
            simp only [putsFrom, Act.put, List.setIfInBounds_toArray, List.set_cons_zero, List.set_cons_succ, Nat.reduceAdd, d36, d39] at hK ⊢
            go_simp
            exact hK.out _ _ (Kp.refl _) rfl
          case sb41 =>
            intro x u hg hd K hK
            have d36 : (x 36) = .bool false := And.left hd
            have d40 : (x 40) = .pointer (some ⟨tb, tf + nn * 7 + 2, none⟩) := And.left (And.right hd)
            clear hd
            have q0 := cell_kp hg HTB.out Y2.out
            refine ⟨?_⟩
            simp only [putsFrom, Act.put, List.setIfInBounds_toArray, List.set_cons_zero, List.set_cons_succ, Nat.reduceAdd, d36, d40] at hK ⊢
            go_simp
            exact hK.out _ _ (Kp.refl _) rfl
          case sb42 =>
            intro x u hg hd K hK
            have d36 : (x 36) = .bool false := And.left hd
            clear hd
            refine ⟨?_⟩
            simp only [putsFrom, Act.put, List.setIfInBounds_toArray, List.set_cons_zero, List.set_cons_succ, Nat.reduceAdd, d36] at hK ⊢
            go_simp
            exact hK.out _ _ (Kp.refl _) rfl
          case sb43 =>
            intro x u hg hd K hK
            have d36 : (x 36) = .bool false := And.left hd
            clear hd
            refine ⟨?_⟩
            simp only [putsFrom, Act.put, List.setIfInBounds_toArray, List.set_cons_zero, List.set_cons_succ, Nat.reduceAdd, d36] at hK ⊢
            go_simp
            exact hK.out _ _ (Kp.refl _) rfl
          case sb44 =>
            intro x u hg hd K hK
            have d36 : (x 36) = .bool false := And.left hd
            have d42 : (x 42) = .slice (some ⟨b2, off2, none⟩) T.length ct := And.left (And.right hd)
            have d43 : (x 43) = .int .i64 (k : Int) := And.left (And.right (And.right hd))
            clear hd
            refine ⟨?_⟩
            simp only [putsFrom, Act.put, List.setIfInBounds_toArray, List.set_cons_zero, List.set_cons_succ, Nat.reduceAdd, d36, d42, d43] at hK ⊢
            go_simp
            exact hK.out _ _ (Kp.refl _) rfl
          case sb45 =>
            intro x u hg hd K hK
            have d36 : (x 36) = .bool false := And.left hd
            have d44 : (x 44) = .pointer (some ⟨b2, off2 + k, none⟩) := And.left (And.right hd)
            clear hd
            have q0 := cell_kp hg HB2.out X0.out
            refine ⟨?_⟩
            simp only [putsFrom, Act.put, List.setIfInBounds_toArray, List.set_cons_zero, List.set_cons_succ, Nat.reduceAdd, d36, d44] at hK ⊢
            go_simp
            exact hK.out _ _ (Kp.refl _) rfl
          case sb46 =>
            intro x u hg hd K hK
            have d36 : (x 36) = .bool false := And.left hd
            clear hd
            refine ⟨?_⟩
            simp only [putsFrom, Act.put, List.setIfInBounds_toArray, List.set_cons_zero, List.set_cons_succ, Nat.reduceAdd, d36] at hK ⊢
            go_simp
            exact hK.out _ _ (Kp.refl _) rfl
          case sb47 =>
            intro x u hg hd K hK
            have d36 : (x 36) = .bool false := And.left hd
            have d45 : (x 45) = .slice (some ⟨xb, xf, none⟩) Tk.length c4 := And.left (And.right hd)
            have d46 : (x 46) = .int .i64 (m : Int) := And.left (And.right (And.right hd))
            clear hd
            refine ⟨?_⟩
            simp only [putsFrom, Act.put, List.setIfInBounds_toArray, List.set_cons_zero, List.set_cons_succ, Nat.reduceAdd, d36, d45, d46] at hK ⊢
            go_simp
            exact hK.out _ _ (Kp.refl _) rfl
          case sb48 =>
            intro x u hg hd K hK
            have d36 : (x 36) = .bool false := And.left hd
            have d47 : (x 47) = .pointer (some ⟨xb, xf + m * 7, none⟩) := And.left (And.right hd)
            clear hd
            refine ⟨?_⟩
            simp only [putsFrom, Act.put, List.setIfInBounds_toArray, List.set_cons_zero, List.set_cons_succ, Nat.reduceAdd, d36, d47] at hK ⊢
            go_simp
            exact hK.out _ _ (Kp.refl _) rfl
          case sb49 =>
            intro x u hg hd K hK
            have d36 : (x 36) = .bool false := And.left hd
            have d48 : (x 48) = .pointer (some ⟨xb, xf + m * 7 + 2, none⟩) := And.left (And.right hd)
            clear hd
            have q0 := cell_kp hg HXB.out Z2.out
            refine ⟨?_⟩
            simp only [putsFrom, Act.put, List.setIfInBounds_toArray, List.set_cons_zero, List.set_cons_succ, Nat.reduceAdd, d36, d48] at hK ⊢
            go_simp
            exact hK.out _ _ (Kp.refl _) rfl
          case sb50 =>
            intro x u hg hd K hK
            have d36 : (x 36) = .bool false := And.left hd
            have d41 : (x 41) = .int .i64 t.to := And.left (And.right hd)
            have d49 : (x 49) = .int .i64 t.to := And.left (And.right (And.right hd))
            clear hd
            refine ⟨?_⟩
            simp only [putsFrom, Act.put, List.setIfInBounds_toArray, List.set_cons_zero, List.set_cons_succ, Nat.reduceAdd, d36, d41, d49] at hK ⊢
            go_simp
            exact hK.out _ _ (Kp.refl _) rfl
          case sb51 =>
            intro x u hg hd K hK
            have d36 : (x 36) = .bool false := And.left hd
            have d50 : (x 50) = .bool false := And.left (And.right hd)
            clear hd
            refine ⟨?_⟩
            simp only [putsFrom, Act.put, List.setIfInBounds_toArray, List.set_cons_zero, List.set_cons_succ, Nat.reduceAdd, d36, d50] at hK ⊢
            go_simp
            exact hK.out _ _ (Kp.refl _) rfl
          intro x u hg he
          have d0 : (x 0) = .int .i64 (nn : Int) := And.left he
          have d1 : (x 1) = .slice (some ⟨tb, tf, none⟩) F.length c9 := And.left (And.right he)
          have d2 : (x 2) = .int .i64 (F.length : Int) := And.left (And.right (And.right he))
          have d3 : (x 3) = .bool false := And.left (And.right (And.right (And.right he)))
          have d4 : (x 4) = .bool false := And.left (And.right (And.right (And.right (And.right he))))
          have d5 : (x 5) = .slice (some ⟨tb, tf, none⟩) F.length c9 := And.left (And.right (And.right (And.right (And.right (And.right he)))))
          have d6 : (x 6) = .int .i64 (nn : Int) := And.left (And.right (And.right (And.right (And.right (And.right (And.right he))))))
          have d7 : (x 7) = .pointer (some ⟨tb, tf + nn * 7, none⟩) := And.left (And.right (And.right (And.right (And.right (And.right (And.right (And.right he)))))))
          have d8 : (x 8) = .pointer (some ⟨tb, tf + nn * 7, none⟩) := And.left (And.right (And.right (And.right (And.right (And.right (And.right (And.right (And.right he))))))))
          have d9 : (x 9) = .int .i64 t.kind := And.left (And.right (And.right (And.right (And.right (And.right (And.right (And.right (And.right (And.right he)))))))))
          have d10 : (x 10) = .slice (some ⟨b2, off2, none⟩) T.length ct := And.left (And.right (And.right (And.right (And.right (And.right (And.right (And.right (And.right (And.right (And.right he))))))))))
          have d11 : (x 11) = .int .i64 (k : Int) := And.left (And.right (And.right (And.right (And.right (And.right (And.right (And.right (And.right (And.right (And.right (And.right he)))))))))))
          have d12 : (x 12) = .pointer (some ⟨b2, off2 + k, none⟩) := And.left (And.right (And.right (And.right (And.right (And.right (And.right (And.right (And.right (And.right (And.right (And.right (And.right he))))))))))))
          have d13 : (x 13) = .slice (some ⟨xb, xf, none⟩) Tk.length c4 := And.left (And.right (And.right (And.right (And.right (And.right (And.right (And.right (And.right (And.right (And.right (And.right (And.right (And.right he)))))))))))))
          have d14 : (x 14) = .int .i64 (m : Int) := And.left (And.right (And.right (And.right (And.right (And.right (And.right (And.right (And.right (And.right (And.right (And.right (And.right (And.right (And.right he))))))))))))))
          have d15 : (x 15) = .pointer (some ⟨xb, xf + m * 7, none⟩) := And.left (And.right (And.right (And.right (And.right (And.right (And.right (And.right (And.right (And.right (And.right (And.right (And.right (And.right (And.right (And.right he)))))))))))))))
          have d16 : (x 16) = .pointer (some ⟨xb, xf + m * 7, none⟩) := And.left (And.right (And.right (And.right (And.right (And.right (And.right (And.right (And.right (And.right (And.right (And.right (And.right (And.right (And.right (And.right (And.right he))))))))))))))))
          have d17 : (x 17) = .int .i64 t.kind := And.left (And.right (And.right (And.right (And.right (And.right (And.right (And.right (And.right (And.right (And.right (And.right (And.right (And.right (And.right (And.right (And.right (And.right he)))))))))))))))))
          have d18 : (x 18) = .bool false := And.left (And.right (And.right (And.right (And.right (And.right (And.right (And.right (And.right (And.right (And.right (And.right (And.right (And.right (And.right (And.right (And.right (And.right (And.right he))))))))))))))))))
          have d19 : (x 19) = .bool false := And.left (And.right (And.right (And.right (And.right (And.right (And.right (And.right (And.right (And.right (And.right (And.right (And.right (And.right (And.right (And.right (And.right (And.right (And.right (And.right he)))))))))))))))))))
          have d20 : (x 20) = .bool false := And.left (And.right (And.right (And.right (And.right (And.right (And.right (And.right (And.right (And.right (And.right (And.right (And.right (And.right (And.right (And.right (And.right (And.right (And.right (And.right (And.right he))))))))))))))))))))
          have d21 : (x 21) = .slice (some ⟨tb, tf, none⟩) F.length c9 := And.left (And.right (And.right (And.right (And.right (And.right (And.right (And.right (And.right (And.right (And.right (And.right (And.right (And.right (And.right (And.right (And.right (And.right (And.right (And.right (And.right (And.right he)))))))))))))))))))))
          have d22 : (x 22) = .int .i64 (nn : Int) := And.left (And.right (And.right (And.right (And.right (And.right (And.right (And.right (And.right (And.right (And.right (And.right (And.right (And.right (And.right (And.right (And.right (And.right (And.right (And.right (And.right (And.right (And.right he))))))))))))))))))))))
          have d23 : (x 23) = .pointer (some ⟨tb, tf + nn * 7, none⟩) := And.left (And.right (And.right (And.right (And.right (And.right (And.right (And.right (And.right (And.right (And.right (And.right (And.right (And.right (And.right (And.right (And.right (And.right (And.right (And.right (And.right (And.right (And.right (And.right he)))))))))))))))))))))))
          have d24 : (x 24) = .pointer (some ⟨tb, tf + nn * 7 + 1, none⟩) := And.left (And.right (And.right (And.right (And.right (And.right (And.right (And.right (And.right (And.right (And.right (And.right (And.right (And.right (And.right (And.right (And.right (And.right (And.right (And.right (And.right (And.right (And.right (And.right (And.right he))))))))))))))))))))))))
          have d25 : (x 25) = .int .i64 t.n := And.left (And.right (And.right (And.right (And.right (And.right (And.right (And.right (And.right (And.right (And.right (And.right (And.right (And.right (And.right (And.right (And.right (And.right (And.right (And.right (And.right (And.right (And.right (And.right (And.right (And.right he)))))))))))))))))))))))))
          have d26 : (x 26) = .slice (some ⟨b2, off2, none⟩) T.length ct := And.left (And.right (And.right (And.right (And.right (And.right (And.right (And.right (And.right (And.right (And.right (And.right (And.right (And.right (And.right (And.right (And.right (And.right (And.right (And.right (And.right (And.right (And.right (And.right (And.right (And.right (And.right he))))))))))))))))))))))))))
          have d27 : (x 27) = .int .i64 (k : Int) := And.left (And.right (And.right (And.right (And.right (And.right (And.right (And.right (And.right (And.right (And.right (And.right (And.right (And.right (And.right (And.right (And.right (And.right (And.right (And.right (And.right (And.right (And.right (And.right (And.right (And.right (And.right (And.right he)))))))))))))))))))))))))))
          have d28 : (x 28) = .pointer (some ⟨b2, off2 + k, none⟩) := And.left (And.right (And.right (And.right (And.right (And.right (And.right (And.right (And.right (And.right (And.right (And.right (And.right (And.right (And.right (And.right (And.right (And.right (And.right (And.right (And.right (And.right (And.right (And.right (And.right (And.right (And.right (And.right (And.right he))))))))))))))))))))))))))))
          have d29 : (x 29) = .slice (some ⟨xb, xf, none⟩) Tk.length c4 := And.left (And.right (And.right (And.right (And.right (And.right (And.right (And.right (And.right (And.right (And.right (And.right (And.right (And.right (And.right (And.right (And.right (And.right (And.right (And.right (And.right (And.right (And.right (And.right (And.right (And.right (And.right (And.right (And.right (And.right he)))))))))))))))))))))))))))))
          have d30 : (x 30) = .int .i64 (m : Int) := And.left (And.right (And.right (And.right (And.right (And.right (And.right (And.right (And.right (And.right (And.right (And.right (And.right (And.right (And.right (And.right (And.right (And.right (And.right (And.right (And.right (And.right (And.right (And.right (And.right (And.right (And.right (And.right (And.right (And.right (And.right he))))))))))))))))))))))))))))))
          have d31 : (x 31) = .pointer (some ⟨xb, xf + m * 7, none⟩) := And.left (And.right (And.right (And.right (And.right (And.right (And.right (And.right (And.right (And.right (And.right (And.right (And.right (And.right (And.right (And.right (And.right (And.right (And.right (And.right (And.right (And.right (And.right (And.right (And.right (And.right (And.right (And.right (And.right (And.right (And.right (And.right he)))))))))))))))))))))))))))))))
          have d32 : (x 32) = .pointer (some ⟨xb, xf + m * 7 + 1, none⟩) := And.left (And.right (And.right (And.right (And.right (And.right (And.right (And.right (And.right (And.right (And.right (And.right (And.right (And.right (And.right (And.right (And.right (And.right (And.right (And.right (And.right (And.right (And.right (And.right (And.right (And.right (And.right (And.right (And.right (And.right (And.right (And.right (And.right he))))))))))))))))))))))))))))))))
          have d33 : (x 33) = .int .i64 t.n := And.left (And.right (And.right (And.right (And.right (And.right (And.right (And.right (And.right (And.right (And.right (And.right (And.right (And.right (And.right (And.right (And.right (And.right (And.right (And.right (And.right (And.right (And.right (And.right (And.right (And.right (And.right (And.right (And.right (And.right (And.right (And.right (And.right (And.right he)))))))))))))))))))))))))))))))))
          have d34 : (x 34) = .bool false := And.left (And.right (And.right (And.right (And.right (And.right (And.right (And.right (And.right (And.right (And.right (And.right (And.right (And.right (And.right (And.right (And.right (And.right (And.right (And.right (And.right (And.right (And.right (And.right (And.right (And.right (And.right (And.right (And.right (And.right (And.right (And.right (And.right (And.right (And.right he))))))))))))))))))))))))))))))))))
          have d35 : (x 35) = .bool false := And.left (And.right (And.right (And.right (And.right (And.right (And.right (And.right (And.right (And.right (And.right (And.right (And.right (And.right (And.right (And.right (And.right (And.right (And.right (And.right (And.right (And.right (And.right (And.right (And.right (And.right (And.right (And.right (And.right (And.right (And.right (And.right (And.right (And.right (And.right (And.right he)))))))))))))))))))))))))))))))))))
          have d36 : (x 36) = .bool false := And.left (And.right (And.right (And.right (And.right (And.right (And.right (And.right (And.right (And.right (And.right (And.right (And.right (And.right (And.right (And.right (And.right (And.right (And.right (And.right (And.right (And.right (And.right (And.right (And.right (And.right (And.right (And.right (And.right (And.right (And.right (And.right (And.right (And.right (And.right (And.right (And.right he))))))))))))))))))))))))))))))))))))
          have d37 : (x 37) = .slice (some ⟨tb, tf, none⟩) F.length c9 := And.left (And.right (And.right (And.right (And.right (And.right (And.right (And.right (And.right (And.right (And.right (And.right (And.right (And.right (And.right (And.right (And.right (And.right (And.right (And.right (And.right (And.right (And.right (And.right (And.right (And.right (And.right (And.right (And.right (And.right (And.right (And.right (And.right (And.right (And.right (And.right (And.right (And.right he)))))))))))))))))))))))))))))))))))))
          have d38 : (x 38) = .int .i64 (nn : Int) := And.left (And.right (And.right (And.right (And.right (And.right (And.right (And.right (And.right (And.right (And.right (And.right (And.right (And.right (And.right (And.right (And.right (And.right (And.right (And.right (And.right (And.right (And.right (And.right (And.right (And.right (And.right (And.right (And.right (And.right (And.right (And.right (And.right (And.right (And.right (And.right (And.right (And.right (And.right he))))))))))))))))))))))))))))))))))))))
          have d39 : (x 39) = .pointer (some ⟨tb, tf + nn * 7, none⟩) := And.left (And.right (And.right (And.right (And.right (And.right (And.right (And.right (And.right (And.right (And.right (And.right (And.right (And.right (And.right (And.right (And.right (And.right (And.right (And.right (And.right (And.right (And.right (And.right (And.right (And.right (And.right (And.right (And.right (And.right (And.right (And.right (And.right (And.right (And.right (And.right (And.right (And.right (And.right (And.right he)))))))))))))))))))))))))))))))))))))))
          have d40 : (x 40) = .pointer (some ⟨tb, tf + nn * 7 + 2, none⟩) := And.left (And.right (And.right (And.right (And.right (And.right (And.right (And.right (And.right (And.right (And.right (And.right (And.right (And.right (And.right (And.right (And.right (And.right (And.right (And.right (And.right (And.right (And.right (And.right (And.right (And.right (And.right (And.right (And.right (And.right (And.right (And.right (And.right (And.right (And.right (And.right (And.right (And.right (And.right (And.right (And.right he))))))))))))))))))))))))))))))))))))))))
          have d41 : (x 41) = .int .i64 t.to := And.left (And.right (And.right (And.right (And.right (And.right (And.right (And.right (And.right (And.right (And.right (And.right (And.right (And.right (And.right (And.right (And.right (And.right (And.right (And.right (And.right (And.right (And.right (And.right (And.right (And.right (And.right (And.right (And.right (And.right (And.right (And.right (And.right (And.right (And.right (And.right (And.right (And.right (And.right (And.right (And.right (And.right he)))))))))))))))))))))))))))))))))))))))))
          have d42 : (x 42) = .slice (some ⟨b2, off2, none⟩) T.length ct := And.left (And.right (And.right (And.right (And.right (And.right (And.right (And.right (And.right (And.right (And.right (And.right (And.right (And.right (And.right (And.right (And.right (And.right (And.right (And.right (And.right (And.right (And.right (And.right (And.right (And.right (And.right (And.right (And.right (And.right (And.right (And.right (And.right (And.right (And.right (And.right (And.right (And.right (And.right (And.right (And.right (And.right (And.right he))))))))))))))))))))))))))))))))))))))))))
          have d43 : (x 43) = .int .i64 (k : Int) := And.left (And.right (And.right (And.right (And.right (And.right (And.right (And.right (And.right (And.right (And.right (And.right (And.right (And.right (And.right (And.right (And.right (And.right (And.right (And.right (And.right (And.right (And.right (And.right (And.right (And.right (And.right (And.right (And.right (And.right (And.right (And.right (And.right (And.right (And.right (And.right (And.right (And.right (And.right (And.right (And.right (And.right (And.right (And.right he)))))))))))))))))))))))))))))))))))))))))))
          have d44 : (x 44) = .pointer (some ⟨b2, off2 + k, none⟩) := And.left (And.right (And.right (And.right (And.right (And.right (And.right (And.right (And.right (And.right (And.right (And.right (And.right (And.right (And.right (And.right (And.right (And.right (And.right (And.right (And.right (And.right (And.right (And.right (And.right (And.right (And.right (And.right (And.right (And.right (And.right (And.right (And.right (And.right (And.right (And.right (And.right (And.right (And.right (And.right (And.right (And.right (And.right (And.right (And.right he))))))))))))))))))))))))))))))))))))))))))))
          have d45 : (x 45) = .slice (some ⟨xb, xf, none⟩) Tk.length c4 := And.left (And.right (And.right (And.right (And.right (And.right (And.right (And.right (And.right (And.right (And.right (And.right (And.right (And.right (And.right (And.right (And.right (And.right (And.right (And.right (And.right (And.right (And.right (And.right (And.right (And.right (And.right (And.right (And.right (And.right (And.right (And.right (And.right (And.right (And.right (And.right (And.right (And.right (And.right (And.right (And.right (And.right (And.right (And.right (And.right (And.right he)))))))))))))))))))))))))))))))))))))))))))))
          have d46 : (x 46) = .int .i64 (m : Int) := And.left (And.right (And.right (And.right (And.right (And.right (And.right (And.right (And.right (And.right (And.right (And.right (And.right (And.right (And.right (And.right (And.right (And.right (And.right (And.right (And.right (And.right (And.right (And.right (And.right (And.right (And.right (And.right (And.right (And.right (And.right (And.right (And.right (And.right (And.right (And.right (And.right (And.right (And.right (And.right (And.right (And.right (And.right (And.right (And.right (And.right (And.right he))))))))))))))))))))))))))))))))))))))))))))))
          have d47 : (x 47) = .pointer (some ⟨xb, xf + m * 7, none⟩) := And.left (And.right (And.right (And.right (And.right (And.right (And.right (And.right (And.right (And.right (And.right (And.right (And.right (And.right (And.right (And.right (And.right (And.right (And.right (And.right (And.right (And.right (And.right (And.right (And.right (And.right (And.right (And.right (And.right (And.right (And.right (And.right (And.right (And.right (And.right (And.right (And.right (And.right (And.right (And.right (And.right (And.right (And.right (And.right (And.right (And.right (And.right (And.right he)))))))))))))))))))))))))))))))))))))))))))))))
          have d48 : (x 48) = .pointer (some ⟨xb, xf + m * 7 + 2, none⟩) := And.left (And.right (And.right (And.right (And.right (And.right (And.right (And.right (And.right (And.right (And.right (And.right (And.right (And.right (And.right (And.right (And.right (And.right (And.right (And.right (And.right (And.right (And.right (And.right (And.right (And.right (And.right (And.right (And.right (And.right (And.right (And.right (And.right (And.right (And.right (And.right (And.right (And.right (And.right (And.right (And.right (And.right (And.right (And.right (And.right (And.right (And.right (And.right (And.right he))))))))))))))))))))))))))))))))))))))))))))))))
          have d49 : (x 49) = .int .i64 t.to := And.left (And.right (And.right (And.right (And.right (And.right (And.right (And.right (And.right (And.right (And.right (And.right (And.right (And.right (And.right (And.right (And.right (And.right (And.right (And.right (And.right (And.right (And.right (And.right (And.right (And.right (And.right (And.right (And.right (And.right (And.right (And.right (And.right (And.right (And.right (And.right (And.right (And.right (And.right (And.right (And.right (And.right (And.right (And.right (And.right (And.right (And.right (And.right (And.right (And.right he)))))))))))))))))))))))))))))))))))))))))))))))))
          have d50 : (x 50) = .bool false := And.left (And.right (And.right (And.right (And.right (And.right (And.right (And.right (And.right (And.right (And.right (And.right (And.right (And.right (And.right (And.right (And.right (And.right (And.right (And.right (And.right (And.right (And.right (And.right (And.right (And.right (And.right (And.right (And.right (And.right (And.right (And.right (And.right (And.right (And.right (And.right (And.right (And.right (And.right (And.right (And.right (And.right (And.right (And.right (And.right (And.right (And.right (And.right (And.right (And.right (And.right he))))))))))))))))))))))))))))))))))))))))))))))))))
          have d51 : (x 51) = .bool false := And.left (And.right (And.right (And.right (And.right (And.right (And.right (And.right (And.right (And.right (And.right (And.right (And.right (And.right (And.right (And.right (And.right (And.right (And.right (And.right (And.right (And.right (And.right (And.right (And.right (And.right (And.right (And.right (And.right (And.right (And.right (And.right (And.right (And.right (And.right (And.right (And.right (And.right (And.right (And.right (And.right (And.right (And.right (And.right (And.right (And.right (And.right (And.right (And.right (And.right (And.right (And.right he)))))))))))))))))))))))))))))))))))))))))))))))))))
          clear he
          refine ⟨?_⟩
          simp only [putsFrom, Act.put, List.setIfInBounds_toArray, List.set_cons_zero, List.set_cons_succ, Nat.reduceAdd, d0, d1, d2, d3, d4, d5, d6, d7, d8, d9, d10, d11, d12, d13, d14, d15, d16, d17, d18, d19, d20, d21, d22, d23, d24, d25, d26, d27, d28, d29, d30, d31, d32, d33, d34, d35, d36, d37, d38, d39, d40, d41, d42, d43, d44, d45, d46, d47, d48, d49, d50, d51]
          clear d0 d1 d2 d3 d4 d5 d6 d7 d8 d9 d10 d11 d12 d13 d14 d15 d16 d17 d18 d19 d20 d21 d22 d23 d24 d25 d26 d27 d28 d29 d30 d31 d32 d33 d34 d35 d36 d37 d38 d39 d40 d41 d42 d43 d44 d45 d46 d47 d48 d49 d50 d51
          go_wp2
          exact cut_in (nn := nn) (by have := HNN.out; first | (rw [HWN.out]; omega) | omega) (by first | exact HWM.out | omega) hlm (HKQ.out.trans (by assumption))
        · have i2 : ¬ (m : Int) < (Tk.length : Int) := by omega
          have HME := hid (show m = Tk.length by omega)
          clear hkq hm
          go_wp2
          exact cut_out (B := fun j => (T.take j).flatten.length) (by show _ = (((T.take (k + 1)).flatten.length : Nat) : Int); rw [← HB1.out, HME.out]) (by first | exact HWK.out | omega) hlt (HKR.out.trans HKQ.out)
    · have i1 : ¬ (k : Int) < (T.length : Int) := by omega
      have he : (T.take k).flatten.length = F.length := by rw [List.take_of_length_le (by omega), HFE.out]
      rw [he]
      obtain ⟨b, off, rfl, hb, fv, pv, q0, q1, q2, q3, q4, q5, hso⟩ := at_sts (HS.out.kp (HKS.out.trans hkp)) HS1.out
      obtain ⟨A1, cF, B1, cP, rfl, rfl⟩ := hso.form
      obtain ⟨y0, y1, y2, y3, y4, y5, _⟩ := (HB.out.kp hkp).cells
      dsimp only [numS] at y0 y1 y2 y3 y4 y5
      have hbl := blk_lt (HB.out.kp hkp)
      clear hk hkp he hso
      go_wp2
      exact bodyPost_ret (v := .bool true) (by simp [results, Try.results9, go_sem]) rfl ⟨rfl, HKA.out.trans (HKR.out.trans ((Kp.refl _).alloc _))⟩
/-! ### The row's step (the guide's frame, written by program) -/
set_option maxRecDepth 100000 in
theorem lifted (os : Os) (started : os.Started) (H : Type) (enc : TypeId × Value → H) :
    ReturnsInHanded {} Try.checked os 9 .any (Rows.panicsCutSpec.pre6 enc Try.prog Try.f9 Rows.panicsCutRow.domain false) (Rows.panicsCutSpec.post enc Try.prog Try.f9 false true false false) := by
  refine returnsInHanded_of_change_sized (C := Try.checked) own started (by kernel_rfl) Try.func9
    (ChangeSpec.witness6 (enc := enc) (C := Try.checked) false ⟨#[], #[.slice none 0 0], []⟩ 8 (by kernel_rfl) (by kernel_rfl) (by kernel_rfl) (by kernel_rfl)) ?_
  intro W base args ds gs before hval0 hW _ hsz0 _
  have hsz : (DataW.weightsEach Try.prog (Try.f9.params.toList ++ Rows.panicsCutSpec.plain.varTypes Try.prog) (ds ++ gs)).all (· ≤ reachBytes) = true := hsz0
  clear hsz0
  have hval : ∀ (j : Nat) t v, Try.f9.params[j]? = some t → args[j]? = some v → Value.okWide Try.prog W .any base t v := hval0
  have hW' := hW
  obtain ⟨p, q, hA0, hV, rfl, hfz, hnd⟩ := hW
  have hA : DataW.TrodAll enc Try.prog W 0 (fun _ => true) true Try.f9.params.toList args.toList ds p := hA0
  rw [Try.params9] at hA hval hsz
  obtain ⟨v0, vs0, d0, ds0, p0, q0, hargs, rfl, rfl, h0, r0⟩ := trodAll_cons hA
  obtain ⟨rfl, rfl, rfl⟩ := trodAll_nil r0
  obtain rfl : args = #[v0] := by cases args; simp_all
  obtain ⟨rfl, rfl⟩ := trodVars_none hV
  have k0 := h0
  have lt0 : ∀ x ∈ p0, x.block < W.heap.size := by obtain ⟨m, hm⟩ := k0; exact DataW.trod_lt m _ _ _ hm
  have hz0 : ∀ n ∈ DataW.weights Try.prog 22 d0, n ≤ reachBytes := fun n hn => by
    have := List.all_eq_true.1 hsz _ (DataW.weights_mem_each (j := 0) rfl rfl n hn)
    simpa using this
  obtain ⟨a0, w0⟩ := open_events (hval 0 22 v0 rfl rfl) h0 hz0
  clear hA0 hval0
  simp only [List.append_nil] at hW'
  refine (walk v0 a0 W w0).mono fun e W' ⟨he, bel⟩ => ?_
  subst he
  exact ⟨_, rfl, _, _, _, [], _, [], hW', trodAll_mk1 (shut_bool Try.underlying4 _), (trodAll_cons_mk (Below.trod laidOut (by kernel_rfl) (of_decide_eq_true (by kernel_rfl)) k0 bel lt0) trodAll_mk0), rfl, Below.frame bel _, fun h => by cases h⟩

theorem over : Rows.panicsCutRow.holds Try.pinned (OpenSpec.ofChange Rows.panicsCutSpec) :=
  OpenClaim.holds_of_wide 9 Try.f9 rfl rfl rfl rfl rfl rfl rfl ⟨rfl, rfl, rfl, rfl, rfl⟩ rfl rfl rfl rfl rfl (by kernel_rfl) Try.func9 (by kernel_rfl)
    (of_decide_eq_true (by kernel_rfl)) (by unfold Func.isWrapper; rw [if_neg (of_decide_eq_false (by kernel_rfl))]; exact ⟨rfl, rfl⟩)
    (fun os started H enc _ => lifted os started H enc)

/-- THE STATEMENT. -/
theorem proved : Rows.PanicsCutSaid := over
#print axioms proved

end Go.Proofs.Ytfholconiofgoaa.panicsCut
