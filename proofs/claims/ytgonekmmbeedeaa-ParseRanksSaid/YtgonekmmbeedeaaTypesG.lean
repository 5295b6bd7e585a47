/-
  Package types: Func. Condition: the texts lie within the reach.
-/
import Derived.Test.YtgonekmmbeedeaaTypesU
namespace Go.Proofs.Ytgonekmmbeedeaa.Ty
open Go.RowKit
set_option linter.unusedVariables false

def partsOf (l : List ByteArray) : List Bs := l.map (·.data.toList)
def madeB (l : List ByteArray) (R : ByteArray) : Bs := bFunc ++ (glue true (partsOf l) ++ ([41] ++ R.data.toList))
/-- What Func answers. -/
def funcM (l : List ByteArray) (R : ByteArray) : Bs × Int :=
  if 4 < l.length then ([], 15) else if (partsOf l).all validB = false then ([], 9) else if (!(R.data.toList == [])) && !validB R.data.toList then ([], 9) else if 100 < (madeB l R).length then ([], 1) else (madeB l R, 0)
def headS (l : List ByteArray) (k : Nat) : Bs := bFunc ++ glue true (partsOf (l.take k))
theorem head_len (f : Bool) : ∀ l : List ByteArray, (∀ x ∈ l, x.size ≤ 100) → (glue f (partsOf l)).length ≤ l.length * 101
  | [], _ => by simp [partsOf, glue]
  | x :: l, h => by
    have h1 := head_len false l (fun y hy => h y (List.mem_cons_of_mem _ hy))
    have h2 := h x (List.mem_cons_self ..)
    have h3 : x.data.toList.length = x.size := size_len x
    simp only [partsOf, List.map_cons, glue, List.length_append, List.length_cons] at h1 ⊢
    cases f <;> simp <;> omega
theorem head_snoc {l : List ByteArray} {k : Nat} {x : ByteArray} (h : l[k]? = some x) : headS l (k + 1) = headS l k ++ (if k = 0 then [] else [44]) ++ x.data.toList := by
  have hk : k < l.length := (List.getElem?_eq_some_iff.1 h).1
  unfold headS partsOf
  rw [← take_snoc h, List.map_append, List.map_singleton, glue_snoc]
  by_cases h0 : k = 0
  · subst h0; simp
  · rw [if_neg h0, if_neg (by
      rintro ⟨_, h1⟩
      have h2 := congrArg List.length h1
      rw [List.length_map, List.length_take, List.length_nil] at h2
      omega)]
    simp
theorem valid_le {l : Bs} (h : validB l = true) : l.length ≤ 100 := by
  unfold validB at h; rw [Bool.and_eq_true, decide_eq_true_eq] at h; exact h.1
theorem tl_eq' (S : ByteArray) : S.toList = S.data.toList := ByteArray.toList_eq S
theorem bs_app (a : Bs) (x : ByteArray) : bsB a ++ x = bsB (a ++ x.data.toList) := by
  apply ByteArray.ext
  rw [ByteArray.data_append]
  apply Array.toList_inj.1
  simp [bsB]
theorem bs_size (a : Bs) : (bsB a).size = a.length := by unfold bsB; simp [ByteArray.size]
set_option maxRecDepth 20000 in
set_option maxHeartbeats 4000000 in
theorem func_any (w : World) (v : Value) (l : List ByteArray) (R : ByteArray) (h : RdS w v l) (hl : ∀ x ∈ l, x.size ≤ 140737488351232) (hR : R.size ≤ 140737488351232) (hn : l.length ≤ 140737488351232) :
    Calls Try.prog 95 #[v, .string R] w fun e w' => e = .returned (.tuple #[.string (bsB (funcM l R).1), .int .i64 (funcM l R).2]) ∧ Kp w w' := by
  have H := hid h
  obtain ⟨A, c, rfl, hc, _⟩ := h
  by_cases h4 : 4 < l.length
  · have HV : Hid (funcM l R = ([], 15)) := hid (by unfold funcM; rw [if_pos h4])
    have i1 : (4 : Int) < (l.length : Int) := by omega
    go_enter Try.func95, Try.ntmps95
    go_wp2
    go_ret2
    exact ⟨by rw [HV.out]; rfl, Kp.refl _⟩
  · obtain ⟨o, ho⟩ : ∃ o, funcM l R = o := ⟨_, rfl⟩
    have HO := hid ho
    rw [ho]
    unfold funcM at ho
    rw [if_neg h4] at ho
    have HO2 := hid ho
    have i1 : ¬ ((4 : Int) < (l.length : Int)) := by omega
    have HL := hid hl
    clear ho hl
    go_enter Try.func95, Try.ntmps95
    go_wp2
    go_loopw [6, 14] (fun s i wr => ∃ k : Nat, k ≤ l.length ∧ i = .int .i64 k ∧ s = .string (bsB (headS l k)) ∧ (∀ x ∈ l.take k, validB x.data.toList = true) ∧ Kp w wr) (fun _ i _ => l.length - (intOf i).toNat)
    case atStart => exact ⟨0, by omega, rfl, rfl, by simp, Kp.refl _⟩
    case round =>
      obtain ⟨k, hk, rfl, rfl, hva, hkp⟩ := hrel
      have HVA := hid hva
      have hsl : (bsB (headS l k)).size ≤ 1000 := by
        rw [bs_size]
        have := head_len true (l.take k) (fun x hx => by have := valid_le (hva x hx); rw [size_len] at this; exact this)
        unfold headS; rw [List.length_append, show bFunc.length = 5 from rfl]
        have h2 : (l.take k).length ≤ 4 := by rw [List.length_take]; omega
        have : (l.take k).length * 101 ≤ 4 * 101 := Nat.mul_le_mul_right _ h2
        omega
      have HK := hid hkp
      clear hva hkp
      by_cases hlt : k < l.length
      · obtain ⟨x, hx⟩ : ∃ x, l[k]? = some x := ⟨l[k], List.getElem?_eq_getElem hlt⟩
        have hxs := HL.out x (List.mem_of_getElem? hx)
        obtain ⟨_, _, e, _, hcell⟩ := H.out.kp HK.out
        cases e
        obtain ⟨b, off, rfl, hb, hcx⟩ := hcell k x hx
        have HX := hid hx
        have j1 : (k : Int) < (l.length : Int) := by omega
        clear hx hcell
        cases hv : validB x.data.toList with
        | false =>
          have HV := hid hv
          have HV2 : Hid (o = ([], 9)) := hid (by
            rw [← HO2.out, if_pos]
            rw [Bool.eq_false_iff]
            intro h
            rw [List.all_eq_true] at h
            have := h x.data.toList (by unfold partsOf; exact List.mem_map.2 ⟨x, List.mem_of_getElem? HX.out, rfl⟩)
            rw [hv] at this; cases this)
          clear hv
          go_wp2_with (go_at_call 100; go_must (refine (valid_any _ x hxs).mono ?_); rintro e w1 ⟨rfl, hk1⟩; rw [HV.out])
          go_ret2
          exact ⟨by rw [HV2.out]; rfl, HK.out.trans hk1⟩
        | true =>
          have HV := hid hv
          have hs := head_snoc HX.out
          have hxl := valid_le hv
          rw [size_len] at hxl
          have HVN : Hid (∀ y ∈ l.take (k + 1), validB y.data.toList = true) := hid (by
            intro y hy
            rw [← take_snoc HX.out] at hy
            rcases List.mem_append.1 hy with hy | hy
            · exact HVA.out y hy
            · rw [List.mem_singleton] at hy; subst hy; exact HV.out)
          by_cases h0 : k = 0
          · rw [if_pos h0] at hs
            have HS := hid hs
            have j2 : ¬ ((0 : Int) < (k : Int)) := by omega
            clear hv hs h0
            go_wp2_with (go_at_call 100; go_must (refine (valid_any _ x hxs).mono ?_); rintro e w1 ⟨rfl, hk1⟩; rw [HV.out])
            go_roundw
            case rel =>
              exact ⟨k + 1, by omega, by go_num, by rw [HS.out, bs_app, List.append_nil], HVN.out, HK.out.trans hk1⟩
            case measure => simp [intOf]; omega
          · rw [if_neg h0] at hs
            have HS := hid hs
            have j2 : (0 : Int) < (k : Int) := by omega
            clear hv hs h0
            go_wp2_with (go_at_call 100; go_must (refine (valid_any _ x hxs).mono ?_); rintro e w1 ⟨rfl, hk1⟩; rw [HV.out])
            go_roundw
            case rel =>
              exact ⟨k + 1, by omega, by go_num, by rw [HS.out, bs_app, bs_app], HVN.out, HK.out.trans hk1⟩
            case measure => simp [intOf]; omega
      · obtain rfl : k = l.length := by omega
        rw [List.take_length] at HVA
        have HAll : Hid ((partsOf l).all validB = true) := hid (by
          rw [List.all_eq_true]; intro y hy
          obtain ⟨z, hz, rfl⟩ := List.mem_map.1 hy
          exact HVA.out z hz)
        have HO3 : Hid ((if ((!(R.data.toList == [])) && !validB R.data.toList) = true then ([], 9) else if 100 < (madeB l R).length then ([], 1) else (madeB l R, 0)) = o) := hid (by
          rw [← HO2.out, HAll.out]; simp)
        obtain ⟨q, hq⟩ : ∃ q, (R.toList == []) = q := ⟨_, rfl⟩
        have hqe : R.toList.isEmpty = q := by rw [← hq]; cases R.toList <;> rfl
        have hqn : (!R.toList.isEmpty) = !q := by rw [hqe]
        obtain ⟨v, hv⟩ : ∃ v, validB R.data.toList = v := ⟨_, rfl⟩
        have HV := hid hv
        have HQ : Hid ((R.data.toList == []) = q) := hid (by rw [← tl_eq']; exact hq)
        have HL2 : Hid ((madeB l R) = headS l l.length ++ ([41] ++ R.data.toList)) := hid (by unfold madeB headS; rw [List.take_length, List.append_assoc])
        have hRb : q = false → v = true → R.size ≤ 100 := by
          intro _ h; rw [h] at hv; have := valid_le hv; rwa [size_len] at this
        have hRb2 : q = true → R.size = 0 := by
          intro h; rw [h] at hq; rw [← size_len, ← tl_eq', beq_iff_eq.1 hq]; rfl
        have HLn : Hid ((madeB l R).length = (bsB (headS l l.length)).size + (1 + R.size)) := hid (by rw [HL2.out, bs_size, List.length_append, List.length_append, size_len]; rfl)
        have HE : Hid (bsB (headS l l.length) ++ ((⟨#[41]⟩ : ByteArray) ++ R) = bsB (madeB l R)) := hid (by
          rw [bs_app, HL2.out]; congr 2)
        have hfin : ∀ (b : Bool), ((R.data.toList == []) = true ∨ validB R.data.toList = true) → (b = true ↔ 100 < (madeB l R).length) → o = if b then ([], 1) else (madeB l R, 0) := by
          intro b h1 h2
          rw [← HO3.out]
          have e : ((!(R.data.toList == [])) && !validB R.data.toList) = false := by rcases h1 with h | h <;> rw [h] <;> simp
          rw [e, if_neg (by decide)]
          cases b
          · rw [if_neg (fun h => by cases h2.2 h)]; rfl
          · rw [if_pos (h2.1 rfl)]; rfl
        have HFN := hid hfin
        clear hv hfin
        cases q with
        | false =>
          cases v with
          | false =>
            have HV2 : Hid (o = ([], 9)) := hid (by rw [← HO3.out, HQ.out, HV.out]; rfl)
            go_wp2_with (go_at_call 100; go_must (refine (valid_any _ R hR).mono ?_); rintro e w1 ⟨rfl, hk1⟩; rw [HV.out])
            go_ret2
            exact ⟨by rw [HV2.out]; rfl, HK.out.trans hk1⟩
          | true =>
            have hR1 := hRb rfl rfl
            by_cases hb : 100 < (bsB (headS l l.length)).size + (1 + R.size)
            · have HO4 : Hid (o = ([], 1)) := hid (HFN.out true (.inr HV.out) (by rw [HLn.out]; simp [hb]))
              have j3 : (100 : Int) < ((bsB (headS l l.length)).size : Int) + (1 + (R.size : Int)) := by omega
              go_wp2_with (go_at_call 100; go_must (refine (valid_any _ R hR).mono ?_); rintro e w1 ⟨rfl, hk1⟩; rw [HV.out])
              go_ret2
              exact ⟨by rw [HO4.out]; rfl, HK.out.trans hk1⟩
            · have HO4 : Hid (o = (madeB l R, 0)) := hid (HFN.out false (.inr HV.out) (by rw [HLn.out]; simp; omega))
              have j3 : ((bsB (headS l l.length)).size : Int) + (1 + (R.size : Int)) ≤ (100 : Int) := by omega
              go_wp2_with (go_at_call 100; go_must (refine (valid_any _ R hR).mono ?_); rintro e w1 ⟨rfl, hk1⟩; rw [HV.out])
              go_ret2
              exact ⟨by rw [HO4.out, ← HE.out]; rfl, HK.out.trans hk1⟩
        | true =>
          have hR1 := hRb2 rfl
          have HQ2 := hid (show (R.data.toList == []) = true from HQ.out)
          by_cases hb : 100 < (bsB (headS l l.length)).size + (1 + R.size)
          · have HO4 : Hid (o = ([], 1)) := hid (HFN.out true (.inl HQ2.out) (by rw [HLn.out]; simp [hb]))
            have j3 : (100 : Int) < ((bsB (headS l l.length)).size : Int) + (1 + (R.size : Int)) := by omega
            have HR1 := hid hR1
            clear hRb hRb2
            go_wp2
            go_ret2
            exact ⟨by rw [HO4.out]; rfl, HK.out⟩
          · have HO4 : Hid (o = (madeB l R, 0)) := hid (HFN.out false (.inl HQ2.out) (by rw [HLn.out]; simp; omega))
            have j3 : ((bsB (headS l l.length)).size : Int) + (1 + (R.size : Int)) ≤ (100 : Int) := by omega
            clear hRb hRb2
            go_wp2
            go_ret2
            exact ⟨by rw [HO4.out, ← HE.out]; rfl, HK.out⟩
end Go.Proofs.Ytgonekmmbeedeaa.Ty
