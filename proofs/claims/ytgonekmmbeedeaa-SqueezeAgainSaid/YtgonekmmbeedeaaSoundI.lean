/-
  Package code: judge.ins. Condition: the function's numbers lie within their bounds.
-/
import Derived.Test.YtgonekmmbeedeaaSoundW
namespace Go.Proofs.Ytgonekmmbeedeaa
open Go.RowKit
set_option linter.unusedVariables false
set_option linter.unusedSimpArgs false

theorem tab_len (l : List UInt8) (h : l ∈ fieldTab) : l = [] ∨ l.length = 5 := by
  have : ∀ l ∈ fieldTab, l = [] ∨ l.length = 5 := by decide
  exact this l h
theorem ctab_len (l : List UInt8) (h : l ∈ checkTab) : l = [] ∨ l.length = 3 := by
  have : ∀ l ∈ checkTab, l = [] ∨ l.length = 3 := by decide
  exact this l h
theorem fieldsM_len (op : Int) : fieldsM op = [] ∨ (fieldsM op).length = 5 := by
  unfold fieldsM
  split
  · cases h : fieldTab[op.toNat]? with
    | none => exact .inl rfl
    | some l => exact tab_len l (List.mem_of_getElem? h)
  · exact .inl rfl
theorem checksM_len (op : Int) : checksM op = [] ∨ (checksM op).length = 3 := by
  unfold checksM
  split
  · cases h : checkTab[op.toNat]? with
    | none => exact .inl rfl
    | some l => exact ctab_len l (List.mem_of_getElem? h)
  · exact .inl rfl
theorem formM_len (i : InsM) : formM i = [] ∨ (formM i).length = 5 := by
  unfold formM
  split
  · split
    · exact .inl rfl
    · rename_i h
      rcases checksM_len i.d with h2 | h2
      · exact absurd h2 h
      · right; rw [List.length_append, h2]; rfl
  · exact fieldsM_len _
def insV (i : InsM) : Value := .agg #[.int .i64 i.op, .int .i64 i.a, .int .i64 i.b, .int .i64 i.c, .int .i64 i.d, .int .i64 i.e]
theorem mkb_at (l : List UInt8) (k : Nat) (h : k < (⟨l.toArray⟩ : ByteArray).size) : (⟨l.toArray⟩ : ByteArray)[k] = l.getD k 0 := by
  have h' : k < l.length := by simpa [ByteArray.size] using h
  show (l.toArray)[k] = _
  simp [List.getD, List.getElem?_eq_getElem h']
theorem ins_bad {c : CodeM} {f : FnM} {i : InsM} {k : Nat} (hf : ¬ formM i = []) (hk : k < 5) (h : okAt c f (formM i) i k = false) : insM c f i = 14 := by
  unfold insM
  rw [if_neg hf, if_neg (fun hh => by have := hh k hk; rw [h] at this; cases this)]
theorem row_at (i : InsM) (k : Nat) (h : k < 6) : (#[Value.int IntKind.i64 i.a, Value.int IntKind.i64 i.b, Value.int IntKind.i64 i.c, Value.int IntKind.i64 i.d, Value.int IntKind.i64 i.e, Value.int IntKind.i64 0] : Array Value)[k]? = some (.int .i64 (i.row.getD k 0)) := by
  match k, h with
  | 0, _ => rfl
  | 1, _ => rfl
  | 2, _ => rfl
  | 3, _ => rfl
  | 4, _ => rfl
  | 5, _ => rfl
theorem all_succ {P : Nat → Prop} {k : Nat} (h : ∀ j, j < k → P j) (h1 : P k) : ∀ j, j < k + 1 → P j := by
  intro j hj
  rcases Nat.lt_or_ge j k with hlt | hge
  · exact h j hlt
  · obtain rfl : j = k := by omega
    exact h1
theorem ins_round {c : CodeM} {f : FnM} {i : InsM} {k : Nat} {W u : World} (hk : k < 5) (h : ∀ j, j < k + 1 → okAt c f (formM i) i j = true) (hkp : Kp W u) :
    (∃ k1 : Nat, k1 ≤ 5 ∧ Value.int .i64 ((k : Int) + 1) = .int .i64 (k1 : Int) ∧ (∀ j, j < k1 → okAt c f (formM i) i j = true) ∧ Kp W u) ∧ 5 - (intOf (.int .i64 ((k : Int) + 1))).toNat < 5 - (intOf (.int .i64 (k : Int))).toNat :=
  ⟨⟨k + 1, hk, by congr 1, h, hkp⟩, by simp only [intOf, Int.toNat_natCast]; omega⟩
theorem field_is {b : Bool} (w : World) (v : Value) (c : CodeM) (f : FnM) (J : JOk c f) (hv : JudgeAt w v c f) (kind : UInt8) (k : Int) (hk : (kind.toNat : Int) = k) (n next : Int) (h : fieldM c f kind n next = b) :
    Calls Try.prog 57 #[v, .int .u8 k, .int .i64 n, .int .i64 next] w fun e w' => e = .returned (.bool b) ∧ Kp w w' := by
  subst h; exact field_any w v c f J hv kind k hk n next
set_option maxRecDepth 20000 in
set_option maxHeartbeats 8000000 in
theorem ins_any (w : World) (v : Value) (c : CodeM) (f : FnM) (i : InsM) (J : JOk c f) (hv : JudgeAt w v c f) :
    Calls Try.prog 36 #[v, insV i] w fun e w' => e = .returned (.int .i64 (insM c f i)) ∧ Kp w w' := by
  have HV := hid hv
  have HJ := hid J
  obtain ⟨vf, vt, A, cc, rfl, hf, ht⟩ := hv
  obtain ⟨Af, cf, rfl, _⟩ := hf.form
  obtain ⟨At, ct, rfl, _⟩ := ht.form
  have HF := hid hf
  clear hf ht J
  unfold insV
  have HKP := fun (o1 o2 : Obj) => hid (show Kp w ((w.alloc o1).alloc o2) from ((Kp.refl _).alloc _).alloc _)
  by_cases h24 : i.op = 24
  · have t24 : (i.op == 24) = true := by simp [h24]
    have H24 := hid h24
    have hform : formM i = if checksM i.d = [] then [] else checksM i.d ++ [42, 45] := by unfold formM; rw [if_pos h24]
    have hF24 : fieldsM i.op = [] := by rw [h24]; rfl
    have HF24 := hid hF24
    clear h24 hF24
    by_cases hn : checksM i.d = []
    · rw [if_pos hn] at hform
      have HN := hid hn
      have HR := hid (show insM c f i = 13 by unfold insM; rw [if_pos hform])
      clear hn hform
      go_enter Try.func36, Try.ntmps36
      go_wp2_with first | (go_at_call 55; go_must (refine (fields_any _ _).mono ?_); rintro e w9 ⟨rfl, rfl⟩; rw [HF24.out]) | (go_at_call 56; go_must (refine (checks_any _ _).mono ?_); rintro e w9 ⟨rfl, rfl⟩; rw [HN.out])
      go_ret
      exact ⟨ret_int HR.out.symm, (HKP _ _).out⟩
    rw [if_neg hn] at hform
    have HN := hid hn
    have hlen : (formM i).length = 5 := by
      rw [hform, List.length_append]
      rcases checksM_len i.d with h | h
      · exact absurd h hn
      · rw [h]; rfl
    have hn5 : ¬ formM i = [] := by intro h; rw [h] at hlen; cases hlen
    have hl : ((⟨(formM i).toArray⟩ : ByteArray).toList == []) = false := by
      rw [beq_eq_false_iff_ne, ByteArray.toList_eq]; simpa using hn5
    have hlc : ((⟨(checksM i.d).toArray⟩ : ByteArray).toList == []) = false := by
      rw [beq_eq_false_iff_ne, ByteArray.toList_eq]; simpa using hn
    have hlc2 : ((⟨(checksM i.d).toArray⟩ : ByteArray).toList != []) = true := by rw [bne, hlc]; rfl
    have hat := mkb_at (formM i)
    have hsz : (⟨(formM i).toArray⟩ : ByteArray).size = 5 := by rw [← hlen]; simp [ByteArray.size]
    have HN5 := hid hn5
    have hadd : (⟨(checksM i.d).toArray⟩ : ByteArray) ++ ⟨#[42, 45]⟩ = ⟨(formM i).toArray⟩ := by
      rw [hform]
      apply ByteArray.ext
      simp [ByteArray.data_append]
    have HFO : Hid (True) := hid trivial
    have HS := fun w => checks_any i.d w
    clear hn hlen hn5 hform
    obtain ⟨S, hS⟩ : ∃ S, (⟨(formM i).toArray⟩ : ByteArray) = S := ⟨_, rfl⟩
    rw [hS] at hat hsz hl hadd
    obtain ⟨C, hC⟩ : ∃ C, (⟨(checksM i.d).toArray⟩ : ByteArray) = C := ⟨_, rfl⟩
    rw [hC] at hadd HS hlc hlc2
    have hcz : C.size ≤ 5 := by have := congrArg ByteArray.size hadd; rw [ByteArray.size_append] at this; omega
    have ad1 : ∀ w, Sem.run Try.prog (Op.stringOp .add C ⟨#[42, 45]⟩) w = .ok (.string S) w := fun w => by
      rw [run_string_add_sum w _ _ (by have : (⟨#[42, 45]⟩ : ByteArray).size = 2 := rfl; omega), hadd]
    clear hS hC hcz hadd
    have HSZ := hid hsz
    go_enter Try.func36, Try.ntmps36
    go_wp2_with first | (go_at_call 55; go_must (refine (fields_any _ _).mono ?_); rintro e w9 ⟨rfl, rfl⟩; rw [HF24.out]) | (go_at_call 56; go_must (refine (HS _).mono ?_); rintro e w9 ⟨rfl, rfl⟩)
    have HK3 := hid (show Kp w (((w.alloc (Obj.cells #[Value.slice Af c.funcs.length cf, Value.slice At c.texts.length ct, Value.string f.name, Value.int IntKind.i64 f.params, Value.int IntKind.i64 f.slots, Value.int IntKind.i64 f.caps, Value.slice A f.ins.length cc] 80)).alloc (Obj.cells #[Value.int IntKind.i64 i.op, Value.int IntKind.i64 i.a, Value.int IntKind.i64 i.b, Value.int IntKind.i64 i.c, Value.int IntKind.i64 i.d, Value.int IntKind.i64 i.e] 64)).alloc (Obj.cells #[Value.int IntKind.i64 i.a, Value.int IntKind.i64 i.b, Value.int IntKind.i64 i.c, Value.int IntKind.i64 i.d, Value.int IntKind.i64 i.e, Value.int IntKind.i64 0] 105)) from (((Kp.refl _).alloc _).alloc _).alloc _)
    have HB0 := hid (blk_old (blk_old (blk_new w (Obj.cells #[Value.slice Af c.funcs.length cf, Value.slice At c.texts.length ct, Value.string f.name, Value.int IntKind.i64 f.params, Value.int IntKind.i64 f.slots, Value.int IntKind.i64 f.caps, Value.slice A f.ins.length cc] 80)) (Obj.cells #[Value.int IntKind.i64 i.op, Value.int IntKind.i64 i.a, Value.int IntKind.i64 i.b, Value.int IntKind.i64 i.c, Value.int IntKind.i64 i.d, Value.int IntKind.i64 i.e] 64)) (Obj.cells #[Value.int IntKind.i64 i.a, Value.int IntKind.i64 i.b, Value.int IntKind.i64 i.c, Value.int IntKind.i64 i.d, Value.int IntKind.i64 i.e, Value.int IntKind.i64 0] 105))
    have HB1 := hid (blk_old (blk_new (w.alloc (Obj.cells #[Value.slice Af c.funcs.length cf, Value.slice At c.texts.length ct, Value.string f.name, Value.int IntKind.i64 f.params, Value.int IntKind.i64 f.slots, Value.int IntKind.i64 f.caps, Value.slice A f.ins.length cc] 80)) (Obj.cells #[Value.int IntKind.i64 i.op, Value.int IntKind.i64 i.a, Value.int IntKind.i64 i.b, Value.int IntKind.i64 i.c, Value.int IntKind.i64 i.d, Value.int IntKind.i64 i.e] 64)) (Obj.cells #[Value.int IntKind.i64 i.a, Value.int IntKind.i64 i.b, Value.int IntKind.i64 i.c, Value.int IntKind.i64 i.d, Value.int IntKind.i64 i.e, Value.int IntKind.i64 0] 105))
    have HB2 := hid (blk_new ((w.alloc (Obj.cells #[Value.slice Af c.funcs.length cf, Value.slice At c.texts.length ct, Value.string f.name, Value.int IntKind.i64 f.params, Value.int IntKind.i64 f.slots, Value.int IntKind.i64 f.caps, Value.slice A f.ins.length cc] 80)).alloc (Obj.cells #[Value.int IntKind.i64 i.op, Value.int IntKind.i64 i.a, Value.int IntKind.i64 i.b, Value.int IntKind.i64 i.c, Value.int IntKind.i64 i.d, Value.int IntKind.i64 i.e] 64)) (Obj.cells #[Value.int IntKind.i64 i.a, Value.int IntKind.i64 i.b, Value.int IntKind.i64 i.c, Value.int IntKind.i64 i.d, Value.int IntKind.i64 i.e, Value.int IntKind.i64 0] 105))
    rw [show ((w.alloc (Obj.cells #[Value.slice Af c.funcs.length cf, Value.slice At c.texts.length ct, Value.string f.name, Value.int IntKind.i64 f.params, Value.int IntKind.i64 f.slots, Value.int IntKind.i64 f.caps, Value.slice A f.ins.length cc] 80)).alloc (Obj.cells #[Value.int IntKind.i64 i.op, Value.int IntKind.i64 i.a, Value.int IntKind.i64 i.b, Value.int IntKind.i64 i.c, Value.int IntKind.i64 i.d, Value.int IntKind.i64 i.e] 64)).heap.size = w.heap.size + 1 + 1 by simp] at HB2
    rw [show (w.alloc (Obj.cells #[Value.slice Af c.funcs.length cf, Value.slice At c.texts.length ct, Value.string f.name, Value.int IntKind.i64 f.params, Value.int IntKind.i64 f.slots, Value.int IntKind.i64 f.caps, Value.slice A f.ins.length cc] 80)).heap.size = w.heap.size + 1 by simp] at HB1
    generalize (((w.alloc (Obj.cells #[Value.slice Af c.funcs.length cf, Value.slice At c.texts.length ct, Value.string f.name, Value.int IntKind.i64 f.params, Value.int IntKind.i64 f.slots, Value.int IntKind.i64 f.caps, Value.slice A f.ins.length cc] 80)).alloc (Obj.cells #[Value.int IntKind.i64 i.op, Value.int IntKind.i64 i.a, Value.int IntKind.i64 i.b, Value.int IntKind.i64 i.c, Value.int IntKind.i64 i.d, Value.int IntKind.i64 i.e] 64)).alloc (Obj.cells #[Value.int IntKind.i64 i.a, Value.int IntKind.i64 i.b, Value.int IntKind.i64 i.c, Value.int IntKind.i64 i.d, Value.int IntKind.i64 i.e, Value.int IntKind.i64 0] 105)) = W at HK3 HB0 HB1 HB2 ⊢
    generalize w.heap.size = n0 at HB0 HB1 HB2 ⊢
    generalize n0 + 1 + 1 = n2 at HB2 ⊢
    generalize n0 + 1 = n1 at HB1 ⊢
    have HAT := hid hat
    clear hat
    go_loopw [34] (fun x wr => ∃ k : Nat, k ≤ 5 ∧ x = .int .i64 (k : Int) ∧ (∀ j, j < k → okAt c f (formM i) i j = true) ∧ Kp W wr) (fun x _ => 5 - (intOf x).toNat)
    case atStart => exact ⟨0, by omega, rfl, fun j hj => absurd hj (Nat.not_lt_zero _), Kp.refl _⟩
    case round =>
      obtain ⟨k, hk, rfl, hall, hkr⟩ := hrel
      have HALL := hid hall
      have HKR := hid hkr
      have hn0 := blk_lt HB0.out
      have hn1 := blk_lt HB1.out
      have hn2 := blk_lt HB2.out
      have hle := hkr.le
      have b0 := (hkr.block _ hn0).trans HB0.out
      have b1 := (hkr.block _ hn1).trans HB1.out
      have b2 := (hkr.block _ hn2).trans HB2.out
      have m0 : n0 < wr.heap.size := by omega
      have m1 : n1 < wr.heap.size := by omega
      have m2 : n2 < wr.heap.size := by omega
      clear hall hn0 hn1 hn2 hle hkr
      have j0 := blk_cell (o := 0) (v := Value.slice Af c.funcs.length cf) b0 rfl
      have j1 := blk_cell (o := 1) (v := Value.slice At c.texts.length ct) b0 rfl
      have j2 := blk_cell (o := 2) (v := Value.string f.name) b0 rfl
      have j3 := blk_cell (o := 3) (v := Value.int IntKind.i64 f.params) b0 rfl
      have j4 := blk_cell (o := 4) (v := Value.int IntKind.i64 f.slots) b0 rfl
      have j5 := blk_cell (o := 5) (v := Value.int IntKind.i64 f.caps) b0 rfl
      have j6 := blk_cell (o := 6) (v := Value.slice A f.ins.length cc) b0 rfl
      have i0 := blk_cell (o := 0) (v := Value.int IntKind.i64 i.op) b1 rfl
      have i2 := blk_cell (o := 2) (v := Value.int IntKind.i64 i.b) b1 rfl
      have i4 := blk_cell (o := 4) (v := Value.int IntKind.i64 i.d) b1 rfl
      clear b0 b1
      by_cases hlt : k < 5
      · have hl5 : (k : Int) < 5 := by omega
        have hks : k < S.size := by omega
        obtain ⟨kd, hkd⟩ : ∃ kd, (formM i).getD k 0 = kd := ⟨_, rfl⟩
        have hSk : S[k] = kd := (HAT.out k hks).trans hkd
        obtain ⟨x0, hx0⟩ : ∃ x, i.row.getD k 0 = x := ⟨_, rfl⟩
        obtain ⟨x1, hx1⟩ : ∃ x, i.row.getD (k + 1) 0 = x := ⟨_, rfl⟩
        have r0 := blk_cell (o := k) (v := .int .i64 x0) b2 ((row_at i k (by omega)).trans (by rw [hx0]))
        have r1 := blk_cell (o := k + 1) (v := .int .i64 x1) b2 ((row_at i (k + 1) (by omega)).trans (by rw [hx1]))
        clear b2
        obtain ⟨kv, hkv⟩ : ∃ kv : Int, (kd.toNat : Int) = kv := ⟨_, rfl⟩
        by_cases h42 : kd = 42
        · have t42 : (kv == 42) = true := by rw [← hkv, h42]; rfl
          have HN := hid (show okAt c f (formM i) i k = true by unfold okAt; rw [hkd, h42]; rfl)
          clear hkd h42
          clear hx0 hx1 hlt
          go_wp2
          exact ins_round (by omega) (all_succ HALL.out HN.out) HKR.out
        · have t42 : (kv == 42) = false := by rw [← hkv, beq_eq_false_iff_ne]; intro h; exact h42 (UInt8.toNat_inj.1 (by show kd.toNat = 42; omega))
          have HO := hid (show okAt c f (formM i) i k = fieldM c f kd x0 x1 by unfold okAt; rw [hkd, hx0, hx1, show (kd == 42) = false by simpa using h42]; rfl)
          have HKV := hid hkv
          clear hkd h42 hx0 hx1
          have k1 := wrap_in ((k : Int) + 1) (by omega)
          have hl6 : (k : Int) < 6 := by omega
          have hl7 : (k : Int) + 1 < 6 := by omega
          have hl8 : k + 1 < 6 := by omega
          have hl9 : k < 6 := by omega
          cases hb : fieldM c f kd x0 x1 with
          | true =>
            have HB := hid hb
            clear hb
            go_upto_region 13 with fail
            refine wp_region_kp [[], [], [], [1, 2], [], [4], [5], [], [7], [8], [9], [0, 3, 6, 10], [11]] (fun u => Kp wr u)
              [fun (y : Value) (u : World) => y = (.agg #[.slice Af c.funcs.length cf, .slice At c.texts.length ct, .string f.name, .int .i64 f.params, .int .i64 f.slots, .int .i64 f.caps, .slice A f.ins.length cc] : Value),
               fun (y : Value) (u : World) => y = (.string S : Value),
               fun (y : Value) (u : World) => y = (.int .i64 (k : Int) : Value),
               fun (y : Value) (u : World) => y = (.int .u8 kv : Value),
               fun (y : Value) (u : World) => y = (.int .i64 (k : Int) : Value),
               fun (y : Value) (u : World) => y = (.pointer (some ⟨n2, k, none⟩) : Value),
               fun (y : Value) (u : World) => y = (.int .i64 x0 : Value),
               fun (y : Value) (u : World) => y = (.int .i64 (k : Int) : Value),
               fun (y : Value) (u : World) => y = (.int .i64 ((k : Int) + 1) : Value),
               fun (y : Value) (u : World) => y = (.pointer (some ⟨n2, k + 1, none⟩) : Value),
               fun (y : Value) (u : World) => y = (.int .i64 x1 : Value),
               fun (y : Value) (u : World) => y = (.bool true : Value),
               fun (y : Value) (u : World) => y = (.bool false : Value)]
              (by kernel_rfl) (by kernel_rfl) (by kernel_rfl) (by kernel_rfl) ((Kp.refl _).drew) (fun _ _ hk h => h.trans hk) ⟨fun _ _ _ _ h => h, fun _ _ _ _ h => h, fun _ _ _ _ h => h, fun _ _ _ _ h => h, fun _ _ _ _ h => h, fun _ _ _ _ h => h, fun _ _ _ _ h => h, fun _ _ _ _ h => h, fun _ _ _ _ h => h, fun _ _ _ _ h => h, fun _ _ _ _ h => h, fun _ _ _ _ h => h, fun _ _ _ _ h => h, trivial⟩ ⟨?sb0, ?sb1, ?sb2, ?sb3, ?sb4, ?sb5, ?sb6, ?sb7, ?sb8, ?sb9, ?sb10, ?sb11, ?sb12, trivial⟩ ?hEb
            case sb0 =>
              intro x u hg hd K hK
              clear hd
              have q0 := cell_kp hg m0 j0
              have q1 := cell_kp hg m0 j1
              have q2 := cell_kp hg m0 j2
              have q3 := cell_kp hg m0 j3
              have q4 := cell_kp hg m0 j4
              have q5 := cell_kp hg m0 j5
              have q6 := cell_kp hg m0 j6
              refine ⟨?_⟩
              simp only [putsFrom, Act.put, List.setIfInBounds_toArray, List.set_cons_zero, List.set_cons_succ, Nat.reduceAdd] at hK ⊢
              go_simp
              exact hK.out _ _ (Kp.refl _) rfl
            case sb1 =>
              intro x u hg hd K hK
              clear hd
              refine ⟨?_⟩
              simp only [putsFrom, Act.put, List.setIfInBounds_toArray, List.set_cons_zero, List.set_cons_succ, Nat.reduceAdd] at hK ⊢
              go_simp
              exact hK.out _ _ (Kp.refl _) rfl
            case sb2 =>
              intro x u hg hd K hK
              clear hd
              refine ⟨?_⟩
              simp only [putsFrom, Act.put, List.setIfInBounds_toArray, List.set_cons_zero, List.set_cons_succ, Nat.reduceAdd] at hK ⊢
              go_simp
              exact hK.out _ _ (Kp.refl _) rfl
            case sb3 =>
              intro x u hg hd K hK
              have d1 : (x 1) = .string S := And.left hd
              have d2 : (x 2) = .int .i64 (k : Int) := And.left (And.right hd)
              clear hd
              refine ⟨?_⟩
              simp only [putsFrom, Act.put, List.setIfInBounds_toArray, List.set_cons_zero, List.set_cons_succ, Nat.reduceAdd, d1, d2] at hK ⊢
              go_simp
              exact hK.out _ _ (Kp.refl _) rfl
            case sb4 =>
              intro x u hg hd K hK
              clear hd
              refine ⟨?_⟩
              simp only [putsFrom, Act.put, List.setIfInBounds_toArray, List.set_cons_zero, List.set_cons_succ, Nat.reduceAdd] at hK ⊢
              go_simp
              exact hK.out _ _ (Kp.refl _) rfl
            case sb5 =>
              intro x u hg hd K hK
              have d4 : (x 4) = .int .i64 (k : Int) := And.left hd
              clear hd
              refine ⟨?_⟩
              simp only [putsFrom, Act.put, List.setIfInBounds_toArray, List.set_cons_zero, List.set_cons_succ, Nat.reduceAdd, d4] at hK ⊢
              go_simp
              exact hK.out _ _ (Kp.refl _) rfl
            case sb6 =>
              intro x u hg hd K hK
              have d5 : (x 5) = .pointer (some ⟨n2, k, none⟩) := And.left hd
              clear hd
              have q0 := cell_kp hg m2 r0
              refine ⟨?_⟩
              simp only [putsFrom, Act.put, List.setIfInBounds_toArray, List.set_cons_zero, List.set_cons_succ, Nat.reduceAdd, d5] at hK ⊢
              go_simp
              exact hK.out _ _ (Kp.refl _) rfl
            case sb7 =>
              intro x u hg hd K hK
              clear hd
              refine ⟨?_⟩
              simp only [putsFrom, Act.put, List.setIfInBounds_toArray, List.set_cons_zero, List.set_cons_succ, Nat.reduceAdd] at hK ⊢
              go_simp
              exact hK.out _ _ (Kp.refl _) rfl
            case sb8 =>
              intro x u hg hd K hK
              have d7 : (x 7) = .int .i64 (k : Int) := And.left hd
              clear hd
              refine ⟨?_⟩
              simp only [putsFrom, Act.put, List.setIfInBounds_toArray, List.set_cons_zero, List.set_cons_succ, Nat.reduceAdd, d7] at hK ⊢
              go_simp
              exact hK.out _ _ (Kp.refl _) rfl
            case sb9 =>
              intro x u hg hd K hK
              have d8 : (x 8) = .int .i64 ((k : Int) + 1) := And.left hd
              clear hd
              refine ⟨?_⟩
              simp only [putsFrom, Act.put, List.setIfInBounds_toArray, List.set_cons_zero, List.set_cons_succ, Nat.reduceAdd, d8] at hK ⊢
              go_simp
              exact hK.out _ _ (Kp.refl _) rfl
            case sb10 =>
              intro x u hg hd K hK
              have d9 : (x 9) = .pointer (some ⟨n2, k + 1, none⟩) := And.left hd
              clear hd
              have q0 := cell_kp hg m2 r1
              refine ⟨?_⟩
              simp only [putsFrom, Act.put, List.setIfInBounds_toArray, List.set_cons_zero, List.set_cons_succ, Nat.reduceAdd, d9] at hK ⊢
              go_simp
              exact hK.out _ _ (Kp.refl _) rfl
            case sb11 =>
              intro x u hg hd K hK
              have d0 : (x 0) = .agg #[.slice Af c.funcs.length cf, .slice At c.texts.length ct, .string f.name, .int .i64 f.params, .int .i64 f.slots, .int .i64 f.caps, .slice A f.ins.length cc] := And.left hd
              have d3 : (x 3) = .int .u8 kv := And.left (And.right hd)
              have d6 : (x 6) = .int .i64 x0 := And.left (And.right (And.right hd))
              have d10 : (x 10) = .int .i64 x1 := And.left (And.right (And.right (And.right hd)))
              clear hd
              refine ⟨?_⟩
              simp only [putsFrom, Act.put, List.setIfInBounds_toArray, List.set_cons_zero, List.set_cons_succ, Nat.reduceAdd, d0, d3, d6, d10] at hK ⊢
              go_simp
              go_at_call 57
              have hc := (field_is _ _ c f HJ.out (HV.out.kp (HK3.out.trans (HKR.out.trans hg))) kd kv HKV.out x0 x1 HB.out)
              refine hc.mono ?_
              clear hc
              rintro e u' ⟨rfl, hk⟩
              dsimp only
              exact hK.out _ _ hk rfl
            case sb12 =>
              intro x u hg hd K hK
              have d11 : (x 11) = .bool true := And.left hd
              clear hd
              refine ⟨?_⟩
              simp only [putsFrom, Act.put, List.setIfInBounds_toArray, List.set_cons_zero, List.set_cons_succ, Nat.reduceAdd, d11] at hK ⊢
              go_simp
              exact hK.out _ _ (Kp.refl _) rfl
            intro x u hg he
            have d0 : (x 0) = .agg #[.slice Af c.funcs.length cf, .slice At c.texts.length ct, .string f.name, .int .i64 f.params, .int .i64 f.slots, .int .i64 f.caps, .slice A f.ins.length cc] := And.left he
            have d1 : (x 1) = .string S := And.left (And.right he)
            have d2 : (x 2) = .int .i64 (k : Int) := And.left (And.right (And.right he))
            have d3 : (x 3) = .int .u8 kv := And.left (And.right (And.right (And.right he)))
            have d4 : (x 4) = .int .i64 (k : Int) := And.left (And.right (And.right (And.right (And.right he))))
            have d5 : (x 5) = .pointer (some ⟨n2, k, none⟩) := And.left (And.right (And.right (And.right (And.right (And.right he)))))
            have d6 : (x 6) = .int .i64 x0 := And.left (And.right (And.right (And.right (And.right (And.right (And.right he))))))
            have d7 : (x 7) = .int .i64 (k : Int) := And.left (And.right (And.right (And.right (And.right (And.right (And.right (And.right he)))))))
            have d8 : (x 8) = .int .i64 ((k : Int) + 1) := And.left (And.right (And.right (And.right (And.right (And.right (And.right (And.right (And.right he))))))))
            have d9 : (x 9) = .pointer (some ⟨n2, k + 1, none⟩) := And.left (And.right (And.right (And.right (And.right (And.right (And.right (And.right (And.right (And.right he)))))))))
            have d10 : (x 10) = .int .i64 x1 := And.left (And.right (And.right (And.right (And.right (And.right (And.right (And.right (And.right (And.right (And.right he))))))))))
            have d11 : (x 11) = .bool true := And.left (And.right (And.right (And.right (And.right (And.right (And.right (And.right (And.right (And.right (And.right (And.right he)))))))))))
            have d12 : (x 12) = .bool false := And.left (And.right (And.right (And.right (And.right (And.right (And.right (And.right (And.right (And.right (And.right (And.right (And.right he))))))))))))
            clear he
            refine ⟨?_⟩
            simp only [putsFrom, Act.put, List.setIfInBounds_toArray, List.set_cons_zero, List.set_cons_succ, Nat.reduceAdd, d0, d1, d2, d3, d4, d5, d6, d7, d8, d9, d10, d11, d12]
            clear d0 d1 d2 d3 d4 d5 d6 d7 d8 d9 d10 d11 d12
            have HKG := hid hg
            clear hg hlt
            go_wp2
            exact ins_round (by omega) (all_succ HALL.out (HO.out.trans HB.out)) (HKR.out.trans HKG.out)
          | false =>
            have HB := hid hb
            clear hb
            go_upto_region 13 with fail
            refine wp_region_kp [[], [], [], [1, 2], [], [4], [5], [], [7], [8], [9], [0, 3, 6, 10], [11]] (fun u => Kp wr u)
              [fun (y : Value) (u : World) => y = (.agg #[.slice Af c.funcs.length cf, .slice At c.texts.length ct, .string f.name, .int .i64 f.params, .int .i64 f.slots, .int .i64 f.caps, .slice A f.ins.length cc] : Value),
               fun (y : Value) (u : World) => y = (.string S : Value),
               fun (y : Value) (u : World) => y = (.int .i64 (k : Int) : Value),
               fun (y : Value) (u : World) => y = (.int .u8 kv : Value),
               fun (y : Value) (u : World) => y = (.int .i64 (k : Int) : Value),
               fun (y : Value) (u : World) => y = (.pointer (some ⟨n2, k, none⟩) : Value),
               fun (y : Value) (u : World) => y = (.int .i64 x0 : Value),
               fun (y : Value) (u : World) => y = (.int .i64 (k : Int) : Value),
               fun (y : Value) (u : World) => y = (.int .i64 ((k : Int) + 1) : Value),
               fun (y : Value) (u : World) => y = (.pointer (some ⟨n2, k + 1, none⟩) : Value),
               fun (y : Value) (u : World) => y = (.int .i64 x1 : Value),
               fun (y : Value) (u : World) => y = (.bool false : Value),
               fun (y : Value) (u : World) => y = (.bool true : Value)]
              (by kernel_rfl) (by kernel_rfl) (by kernel_rfl) (by kernel_rfl) ((Kp.refl _).drew) (fun _ _ hk h => h.trans hk) ⟨fun _ _ _ _ h => h, fun _ _ _ _ h => h, fun _ _ _ _ h => h, fun _ _ _ _ h => h, fun _ _ _ _ h => h, fun _ _ _ _ h => h, fun _ _ _ _ h => h, fun _ _ _ _ h => h, fun _ _ _ _ h => h, fun _ _ _ _ h => h, fun _ _ _ _ h => h, fun _ _ _ _ h => h, fun _ _ _ _ h => h, trivial⟩ ⟨?sc0, ?sc1, ?sc2, ?sc3, ?sc4, ?sc5, ?sc6, ?sc7, ?sc8, ?sc9, ?sc10, ?sc11, ?sc12, trivial⟩ ?hEc
            case sc0 =>
              intro x u hg hd K hK
              clear hd
              have q0 := cell_kp hg m0 j0
              have q1 := cell_kp hg m0 j1
              have q2 := cell_kp hg m0 j2
              have q3 := cell_kp hg m0 j3
              have q4 := cell_kp hg m0 j4
              have q5 := cell_kp hg m0 j5
              have q6 := cell_kp hg m0 j6
              refine ⟨?_⟩
              simp only [putsFrom, Act.put, List.setIfInBounds_toArray, List.set_cons_zero, List.set_cons_succ, Nat.reduceAdd] at hK ⊢
              go_simp
              exact hK.out _ _ (Kp.refl _) rfl
            case sc1 =>
              intro x u hg hd K hK
              clear hd
              refine ⟨?_⟩
              simp only [putsFrom, Act.put, List.setIfInBounds_toArray, List.set_cons_zero, List.set_cons_succ, Nat.reduceAdd] at hK ⊢
              go_simp
              exact hK.out _ _ (Kp.refl _) rfl
            case sc2 =>
              intro x u hg hd K hK
              clear hd
              refine ⟨?_⟩
              simp only [putsFrom, Act.put, List.setIfInBounds_toArray, List.set_cons_zero, List.set_cons_succ, Nat.reduceAdd] at hK ⊢
              go_simp
              exact hK.out _ _ (Kp.refl _) rfl
            case sc3 =>
              intro x u hg hd K hK
              have d1 : (x 1) = .string S := And.left hd
              have d2 : (x 2) = .int .i64 (k : Int) := And.left (And.right hd)
              clear hd
              refine ⟨?_⟩
              simp only [putsFrom, Act.put, List.setIfInBounds_toArray, List.set_cons_zero, List.set_cons_succ, Nat.reduceAdd, d1, d2] at hK ⊢
              go_simp
              exact hK.out _ _ (Kp.refl _) rfl
            case sc4 =>
              intro x u hg hd K hK
              clear hd
              refine ⟨?_⟩
              simp only [putsFrom, Act.put, List.setIfInBounds_toArray, List.set_cons_zero, List.set_cons_succ, Nat.reduceAdd] at hK ⊢
              go_simp
              exact hK.out _ _ (Kp.refl _) rfl
            case sc5 =>
              intro x u hg hd K hK
              have d4 : (x 4) = .int .i64 (k : Int) := And.left hd
              clear hd
              refine ⟨?_⟩
              simp only [putsFrom, Act.put, List.setIfInBounds_toArray, List.set_cons_zero, List.set_cons_succ, Nat.reduceAdd, d4] at hK ⊢
              go_simp
              exact hK.out _ _ (Kp.refl _) rfl
            case sc6 =>
              intro x u hg hd K hK
              have d5 : (x 5) = .pointer (some ⟨n2, k, none⟩) := And.left hd
              clear hd
              have q0 := cell_kp hg m2 r0
              refine ⟨?_⟩
              simp only [putsFrom, Act.put, List.setIfInBounds_toArray, List.set_cons_zero, List.set_cons_succ, Nat.reduceAdd, d5] at hK ⊢
              go_simp
              exact hK.out _ _ (Kp.refl _) rfl
            case sc7 =>
              intro x u hg hd K hK
              clear hd
              refine ⟨?_⟩
              simp only [putsFrom, Act.put, List.setIfInBounds_toArray, List.set_cons_zero, List.set_cons_succ, Nat.reduceAdd] at hK ⊢
              go_simp
              exact hK.out _ _ (Kp.refl _) rfl
            case sc8 =>
              intro x u hg hd K hK
              have d7 : (x 7) = .int .i64 (k : Int) := And.left hd
              clear hd
              refine ⟨?_⟩
              simp only [putsFrom, Act.put, List.setIfInBounds_toArray, List.set_cons_zero, List.set_cons_succ, Nat.reduceAdd, d7] at hK ⊢
              go_simp
              exact hK.out _ _ (Kp.refl _) rfl
            case sc9 =>
              intro x u hg hd K hK
              have d8 : (x 8) = .int .i64 ((k : Int) + 1) := And.left hd
              clear hd
              refine ⟨?_⟩
              simp only [putsFrom, Act.put, List.setIfInBounds_toArray, List.set_cons_zero, List.set_cons_succ, Nat.reduceAdd, d8] at hK ⊢
              go_simp
              exact hK.out _ _ (Kp.refl _) rfl
            case sc10 =>
              intro x u hg hd K hK
              have d9 : (x 9) = .pointer (some ⟨n2, k + 1, none⟩) := And.left hd
              clear hd
              have q0 := cell_kp hg m2 r1
              refine ⟨?_⟩
              simp only [putsFrom, Act.put, List.setIfInBounds_toArray, List.set_cons_zero, List.set_cons_succ, Nat.reduceAdd, d9] at hK ⊢
              go_simp
              exact hK.out _ _ (Kp.refl _) rfl
            case sc11 =>
              intro x u hg hd K hK
              have d0 : (x 0) = .agg #[.slice Af c.funcs.length cf, .slice At c.texts.length ct, .string f.name, .int .i64 f.params, .int .i64 f.slots, .int .i64 f.caps, .slice A f.ins.length cc] := And.left hd
              have d3 : (x 3) = .int .u8 kv := And.left (And.right hd)
              have d6 : (x 6) = .int .i64 x0 := And.left (And.right (And.right hd))
              have d10 : (x 10) = .int .i64 x1 := And.left (And.right (And.right (And.right hd)))
              clear hd
              refine ⟨?_⟩
              simp only [putsFrom, Act.put, List.setIfInBounds_toArray, List.set_cons_zero, List.set_cons_succ, Nat.reduceAdd, d0, d3, d6, d10] at hK ⊢
              go_simp
              go_at_call 57
              have hc := (field_is _ _ c f HJ.out (HV.out.kp (HK3.out.trans (HKR.out.trans hg))) kd kv HKV.out x0 x1 HB.out)
              refine hc.mono ?_
              clear hc
              rintro e u' ⟨rfl, hk⟩
              dsimp only
              exact hK.out _ _ hk rfl
            case sc12 =>
              intro x u hg hd K hK
              have d11 : (x 11) = .bool false := And.left hd
              clear hd
              refine ⟨?_⟩
              simp only [putsFrom, Act.put, List.setIfInBounds_toArray, List.set_cons_zero, List.set_cons_succ, Nat.reduceAdd, d11] at hK ⊢
              go_simp
              exact hK.out _ _ (Kp.refl _) rfl
            intro x u hg he
            have d0 : (x 0) = .agg #[.slice Af c.funcs.length cf, .slice At c.texts.length ct, .string f.name, .int .i64 f.params, .int .i64 f.slots, .int .i64 f.caps, .slice A f.ins.length cc] := And.left he
            have d1 : (x 1) = .string S := And.left (And.right he)
            have d2 : (x 2) = .int .i64 (k : Int) := And.left (And.right (And.right he))
            have d3 : (x 3) = .int .u8 kv := And.left (And.right (And.right (And.right he)))
            have d4 : (x 4) = .int .i64 (k : Int) := And.left (And.right (And.right (And.right (And.right he))))
            have d5 : (x 5) = .pointer (some ⟨n2, k, none⟩) := And.left (And.right (And.right (And.right (And.right (And.right he)))))
            have d6 : (x 6) = .int .i64 x0 := And.left (And.right (And.right (And.right (And.right (And.right (And.right he))))))
            have d7 : (x 7) = .int .i64 (k : Int) := And.left (And.right (And.right (And.right (And.right (And.right (And.right (And.right he)))))))
            have d8 : (x 8) = .int .i64 ((k : Int) + 1) := And.left (And.right (And.right (And.right (And.right (And.right (And.right (And.right (And.right he))))))))
            have d9 : (x 9) = .pointer (some ⟨n2, k + 1, none⟩) := And.left (And.right (And.right (And.right (And.right (And.right (And.right (And.right (And.right (And.right he)))))))))
            have d10 : (x 10) = .int .i64 x1 := And.left (And.right (And.right (And.right (And.right (And.right (And.right (And.right (And.right (And.right (And.right he))))))))))
            have d11 : (x 11) = .bool false := And.left (And.right (And.right (And.right (And.right (And.right (And.right (And.right (And.right (And.right (And.right (And.right he)))))))))))
            have d12 : (x 12) = .bool true := And.left (And.right (And.right (And.right (And.right (And.right (And.right (And.right (And.right (And.right (And.right (And.right (And.right he))))))))))))
            clear he
            refine ⟨?_⟩
            simp only [putsFrom, Act.put, List.setIfInBounds_toArray, List.set_cons_zero, List.set_cons_succ, Nat.reduceAdd, d0, d1, d2, d3, d4, d5, d6, d7, d8, d9, d10, d11, d12]
            clear d0 d1 d2 d3 d4 d5 d6 d7 d8 d9 d10 d11 d12
            have HKG := hid hg
            have HRET := hid (ins_bad HN5.out hlt (HO.out.trans HB.out))
            clear hg hlt
            go_wp2
            go_ret
            exact ⟨ret_int HRET.out.symm, HK3.out.trans (HKR.out.trans HKG.out)⟩
      · obtain rfl : k = 5 := by omega
        clear b2 hlt hk j1 j2 j3 j4 j5 j6
        have HALL5 := hid (show ∀ k, k < 5 → okAt c f (formM i) i k = true from HALL.out)
        have hR : insM c f i = if i.op = 21 ∧ i.d ≠ capsAt c i.b then 14 else 0 := by
          unfold insM; rw [if_neg HN5.out, if_pos HALL5.out]
        have hl5 : ¬ ((5 : Nat) : Int) < 5 := by omega
        by_cases h21 : i.op = 21
        · exact absurd (H24.out.symm.trans h21) (by decide)
        · have t21 : (i.op == 21) = false := by rw [beq_eq_false_iff_ne]; exact h21
          have HRET := hid (show insM c f i = 0 by rw [hR, if_neg (fun h => h21 h.1)])
          clear hR h21
          go_upto_region 16 with fail
          refine wp_region_kp [[], [0], [1], [2], [3], [3, 4], [3], [3, 6], [3, 7], [3], [3, 9], [3, 8, 10], [3, 11], [3, 12], [3, 5, 13], [3, 14]] (fun u => Kp wr u)
            [fun (y : Value) (u : World) => y = (.pointer (some ⟨n1, 0, none⟩) : Value),
             fun (y : Value) (u : World) => y = (.int .i64 i.op : Value),
             fun (y : Value) (u : World) => y = (.bool false : Value),
             fun (y : Value) (u : World) => y = (.bool false : Value),
             fun (y : Value) (u : World) => y = (undef : Value),
             fun (y : Value) (u : World) => y = (undef : Value),
             fun (y : Value) (u : World) => y = (undef : Value),
             fun (y : Value) (u : World) => y = (undef : Value),
             fun (y : Value) (u : World) => y = (undef : Value),
             fun (y : Value) (u : World) => y = (undef : Value),
             fun (y : Value) (u : World) => y = (undef : Value),
             fun (y : Value) (u : World) => y = (undef : Value),
             fun (y : Value) (u : World) => y = (undef : Value),
             fun (y : Value) (u : World) => y = (undef : Value),
             fun (y : Value) (u : World) => y = (undef : Value),
             fun (y : Value) (u : World) => y = (.bool false : Value)]
            (by kernel_rfl) (by kernel_rfl) (by kernel_rfl) (by kernel_rfl) ((Kp.refl _).drew) (fun _ _ hk h => h.trans hk) ⟨fun _ _ _ _ h => h, fun _ _ _ _ h => h, fun _ _ _ _ h => h, fun _ _ _ _ h => h, fun _ _ _ _ h => h, fun _ _ _ _ h => h, fun _ _ _ _ h => h, fun _ _ _ _ h => h, fun _ _ _ _ h => h, fun _ _ _ _ h => h, fun _ _ _ _ h => h, fun _ _ _ _ h => h, fun _ _ _ _ h => h, fun _ _ _ _ h => h, fun _ _ _ _ h => h, fun _ _ _ _ h => h, trivial⟩ ⟨?sd0, ?sd1, ?sd2, ?sd3, ?sd4, ?sd5, ?sd6, ?sd7, ?sd8, ?sd9, ?sd10, ?sd11, ?sd12, ?sd13, ?sd14, ?sd15, trivial⟩ ?hEd
          case sd0 =>
            intro x u hg hd K hK
            clear hd
            refine ⟨?_⟩
            simp only [putsFrom, Act.put, List.setIfInBounds_toArray, List.set_cons_zero, List.set_cons_succ, Nat.reduceAdd] at hK ⊢
            go_simp
            exact hK.out _ _ (Kp.refl _) rfl
          case sd1 =>
            intro x u hg hd K hK
            have d0 : (x 0) = .pointer (some ⟨n1, 0, none⟩) := And.left hd
            clear hd
            have q0 := cell_kp hg m1 i0
            refine ⟨?_⟩
            simp only [putsFrom, Act.put, List.setIfInBounds_toArray, List.set_cons_zero, List.set_cons_succ, Nat.reduceAdd, d0] at hK ⊢
            go_simp
            exact hK.out _ _ (Kp.refl _) rfl
          case sd2 =>
            intro x u hg hd K hK
            have d1 : (x 1) = .int .i64 i.op := And.left hd
            clear hd
            refine ⟨?_⟩
            simp only [putsFrom, Act.put, List.setIfInBounds_toArray, List.set_cons_zero, List.set_cons_succ, Nat.reduceAdd, d1] at hK ⊢
            go_simp
            exact hK.out _ _ (Kp.refl _) rfl
          case sd3 =>
            intro x u hg hd K hK
            have d2 : (x 2) = .bool false := And.left hd
            clear hd
            refine ⟨?_⟩
            simp only [putsFrom, Act.put, List.setIfInBounds_toArray, List.set_cons_zero, List.set_cons_succ, Nat.reduceAdd, d2] at hK ⊢
            go_simp
            exact hK.out _ _ (Kp.refl _) rfl
          case sd4 =>
            intro x u hg hd K hK
            have d3 : (x 3) = .bool false := And.left hd
            clear hd
            refine ⟨?_⟩
            simp only [putsFrom, Act.put, List.setIfInBounds_toArray, List.set_cons_zero, List.set_cons_succ, Nat.reduceAdd, d3] at hK ⊢
            go_simp
            exact hK.out _ _ (Kp.refl _) rfl
          case sd5 =>
            intro x u hg hd K hK
            have d3 : (x 3) = .bool false := And.left hd
            have d4 : (x 4) = undef := And.left (And.right hd)
            clear hd
            refine ⟨?_⟩
            simp only [putsFrom, Act.put, List.setIfInBounds_toArray, List.set_cons_zero, List.set_cons_succ, Nat.reduceAdd, d3, d4] at hK ⊢
            go_simp
            exact hK.out _ _ (Kp.refl _) rfl
          case sd6 =>
            intro x u hg hd K hK
            have d3 : (x 3) = .bool false := And.left hd
            clear hd
            refine ⟨?_⟩
            simp only [putsFrom, Act.put, List.setIfInBounds_toArray, List.set_cons_zero, List.set_cons_succ, Nat.reduceAdd, d3] at hK ⊢
            go_simp
            exact hK.out _ _ (Kp.refl _) rfl
          case sd7 =>
            intro x u hg hd K hK
            have d3 : (x 3) = .bool false := And.left hd
            have d6 : (x 6) = undef := And.left (And.right hd)
            clear hd
            refine ⟨?_⟩
            simp only [putsFrom, Act.put, List.setIfInBounds_toArray, List.set_cons_zero, List.set_cons_succ, Nat.reduceAdd, d3, d6] at hK ⊢
            go_simp
            exact hK.out _ _ (Kp.refl _) rfl
          case sd8 =>
            intro x u hg hd K hK
            have d3 : (x 3) = .bool false := And.left hd
            have d7 : (x 7) = undef := And.left (And.right hd)
            clear hd
            refine ⟨?_⟩
            simp only [putsFrom, Act.put, List.setIfInBounds_toArray, List.set_cons_zero, List.set_cons_succ, Nat.reduceAdd, d3, d7] at hK ⊢
            go_simp
            exact hK.out _ _ (Kp.refl _) rfl
          case sd9 =>
            intro x u hg hd K hK
            have d3 : (x 3) = .bool false := And.left hd
            clear hd
            refine ⟨?_⟩
            simp only [putsFrom, Act.put, List.setIfInBounds_toArray, List.set_cons_zero, List.set_cons_succ, Nat.reduceAdd, d3] at hK ⊢
            go_simp
            exact hK.out _ _ (Kp.refl _) rfl
          case sd10 =>
            intro x u hg hd K hK
            have d3 : (x 3) = .bool false := And.left hd
            have d9 : (x 9) = undef := And.left (And.right hd)
            clear hd
            refine ⟨?_⟩
            simp only [putsFrom, Act.put, List.setIfInBounds_toArray, List.set_cons_zero, List.set_cons_succ, Nat.reduceAdd, d3, d9] at hK ⊢
            go_simp
            exact hK.out _ _ (Kp.refl _) rfl
          case sd11 =>
            intro x u hg hd K hK
            have d3 : (x 3) = .bool false := And.left hd
            have d8 : (x 8) = undef := And.left (And.right hd)
            have d10 : (x 10) = undef := And.left (And.right (And.right hd))
            clear hd
            refine ⟨?_⟩
            simp only [putsFrom, Act.put, List.setIfInBounds_toArray, List.set_cons_zero, List.set_cons_succ, Nat.reduceAdd, d3, d8, d10] at hK ⊢
            go_simp
            exact hK.out _ _ (Kp.refl _) rfl
          case sd12 =>
            intro x u hg hd K hK
            have d3 : (x 3) = .bool false := And.left hd
            have d11 : (x 11) = undef := And.left (And.right hd)
            clear hd
            refine ⟨?_⟩
            simp only [putsFrom, Act.put, List.setIfInBounds_toArray, List.set_cons_zero, List.set_cons_succ, Nat.reduceAdd, d3, d11] at hK ⊢
            go_simp
            exact hK.out _ _ (Kp.refl _) rfl
          case sd13 =>
            intro x u hg hd K hK
            have d3 : (x 3) = .bool false := And.left hd
            have d12 : (x 12) = undef := And.left (And.right hd)
            clear hd
            refine ⟨?_⟩
            simp only [putsFrom, Act.put, List.setIfInBounds_toArray, List.set_cons_zero, List.set_cons_succ, Nat.reduceAdd, d3, d12] at hK ⊢
            go_simp
            exact hK.out _ _ (Kp.refl _) rfl
          case sd14 =>
            intro x u hg hd K hK
            have d3 : (x 3) = .bool false := And.left hd
            have d5 : (x 5) = undef := And.left (And.right hd)
            have d13 : (x 13) = undef := And.left (And.right (And.right hd))
            clear hd
            refine ⟨?_⟩
            simp only [putsFrom, Act.put, List.setIfInBounds_toArray, List.set_cons_zero, List.set_cons_succ, Nat.reduceAdd, d3, d5, d13] at hK ⊢
            go_simp
            exact hK.out _ _ (Kp.refl _) rfl
          case sd15 =>
            intro x u hg hd K hK
            have d3 : (x 3) = .bool false := And.left hd
            have d14 : (x 14) = undef := And.left (And.right hd)
            clear hd
            refine ⟨?_⟩
            simp only [putsFrom, Act.put, List.setIfInBounds_toArray, List.set_cons_zero, List.set_cons_succ, Nat.reduceAdd, d3, d14] at hK ⊢
            go_simp
            exact hK.out _ _ (Kp.refl _) rfl
          intro x u hg he
          have d0 : (x 0) = .pointer (some ⟨n1, 0, none⟩) := And.left he
          have d1 : (x 1) = .int .i64 i.op := And.left (And.right he)
          have d2 : (x 2) = .bool false := And.left (And.right (And.right he))
          have d3 : (x 3) = .bool false := And.left (And.right (And.right (And.right he)))
          have d4 : (x 4) = undef := And.left (And.right (And.right (And.right (And.right he))))
          have d5 : (x 5) = undef := And.left (And.right (And.right (And.right (And.right (And.right he)))))
          have d6 : (x 6) = undef := And.left (And.right (And.right (And.right (And.right (And.right (And.right he))))))
          have d7 : (x 7) = undef := And.left (And.right (And.right (And.right (And.right (And.right (And.right (And.right he)))))))
          have d8 : (x 8) = undef := And.left (And.right (And.right (And.right (And.right (And.right (And.right (And.right (And.right he))))))))
          have d9 : (x 9) = undef := And.left (And.right (And.right (And.right (And.right (And.right (And.right (And.right (And.right (And.right he)))))))))
          have d10 : (x 10) = undef := And.left (And.right (And.right (And.right (And.right (And.right (And.right (And.right (And.right (And.right (And.right he))))))))))
          have d11 : (x 11) = undef := And.left (And.right (And.right (And.right (And.right (And.right (And.right (And.right (And.right (And.right (And.right (And.right he)))))))))))
          have d12 : (x 12) = undef := And.left (And.right (And.right (And.right (And.right (And.right (And.right (And.right (And.right (And.right (And.right (And.right (And.right he))))))))))))
          have d13 : (x 13) = undef := And.left (And.right (And.right (And.right (And.right (And.right (And.right (And.right (And.right (And.right (And.right (And.right (And.right (And.right he)))))))))))))
          have d14 : (x 14) = undef := And.left (And.right (And.right (And.right (And.right (And.right (And.right (And.right (And.right (And.right (And.right (And.right (And.right (And.right (And.right he))))))))))))))
          have d15 : (x 15) = .bool false := And.left (And.right (And.right (And.right (And.right (And.right (And.right (And.right (And.right (And.right (And.right (And.right (And.right (And.right (And.right (And.right he)))))))))))))))
          clear he
          refine ⟨?_⟩
          simp only [putsFrom, Act.put, List.setIfInBounds_toArray, List.set_cons_zero, List.set_cons_succ, Nat.reduceAdd, d0, d1, d2, d3, d4, d5, d6, d7, d8, d9, d10, d11, d12, d13, d14, d15]
          clear d0 d1 d2 d3 d4 d5 d6 d7 d8 d9 d10 d11 d12 d13 d14 d15
          have HKG := hid hg
          clear hg
          go_wp2
          go_ret
          exact ⟨ret_int HRET.out.symm, HK3.out.trans (HKR.out.trans HKG.out)⟩
  have t24 : (i.op == 24) = false := by rw [beq_eq_false_iff_ne]; exact h24
  have HFO := hid (show formM i = fieldsM i.op by unfold formM; rw [if_neg h24])
  clear h24
  by_cases hn : fieldsM i.op = []
  · have HN := hid hn
    have HR := hid (show insM c f i = 13 by unfold insM; rw [if_pos (by rw [HFO.out, hn])])
    clear hn
    go_enter Try.func36, Try.ntmps36
    go_wp2_with (go_at_call 55; go_must (refine (fields_any _ _).mono ?_); rintro e w9 ⟨rfl, rfl⟩; rw [HN.out])
    go_ret
    exact ⟨ret_int HR.out.symm, (HKP _ _).out⟩
  have HN := hid hn
  have hlen : (fieldsM i.op).length = 5 := by
    rcases fieldsM_len i.op with h | h
    · exact absurd h hn
    · exact h
  have hl : ((⟨(fieldsM i.op).toArray⟩ : ByteArray).toList == []) = false := by
    rw [beq_eq_false_iff_ne, ByteArray.toList_eq]; simpa using hn
  have hat := mkb_at (fieldsM i.op)
  have hsz : (⟨(fieldsM i.op).toArray⟩ : ByteArray).size = 5 := by rw [← hlen]; simp [ByteArray.size]
  rw [← HFO.out] at hat hsz hl
  have HS := fields_any i.op
  rw [← HFO.out] at HS
  have HN5 := hid (show ¬ formM i = [] by rw [HFO.out]; exact hn)
  clear hn hlen
  obtain ⟨S, hS⟩ : ∃ S, (⟨(formM i).toArray⟩ : ByteArray) = S := ⟨_, rfl⟩
  rw [hS] at hat hsz hl HS
  clear hS
  have HSZ := hid hsz
  go_enter Try.func36, Try.ntmps36
  go_wp2_with (go_at_call 55; go_must (refine (HS _).mono ?_); rintro e w9 ⟨rfl, rfl⟩)
  have HK3 := hid (show Kp w (((w.alloc (Obj.cells #[Value.slice Af c.funcs.length cf, Value.slice At c.texts.length ct, Value.string f.name, Value.int IntKind.i64 f.params, Value.int IntKind.i64 f.slots, Value.int IntKind.i64 f.caps, Value.slice A f.ins.length cc] 80)).alloc (Obj.cells #[Value.int IntKind.i64 i.op, Value.int IntKind.i64 i.a, Value.int IntKind.i64 i.b, Value.int IntKind.i64 i.c, Value.int IntKind.i64 i.d, Value.int IntKind.i64 i.e] 64)).alloc (Obj.cells #[Value.int IntKind.i64 i.a, Value.int IntKind.i64 i.b, Value.int IntKind.i64 i.c, Value.int IntKind.i64 i.d, Value.int IntKind.i64 i.e, Value.int IntKind.i64 0] 105)) from (((Kp.refl _).alloc _).alloc _).alloc _)
  have HB0 := hid (blk_old (blk_old (blk_new w (Obj.cells #[Value.slice Af c.funcs.length cf, Value.slice At c.texts.length ct, Value.string f.name, Value.int IntKind.i64 f.params, Value.int IntKind.i64 f.slots, Value.int IntKind.i64 f.caps, Value.slice A f.ins.length cc] 80)) (Obj.cells #[Value.int IntKind.i64 i.op, Value.int IntKind.i64 i.a, Value.int IntKind.i64 i.b, Value.int IntKind.i64 i.c, Value.int IntKind.i64 i.d, Value.int IntKind.i64 i.e] 64)) (Obj.cells #[Value.int IntKind.i64 i.a, Value.int IntKind.i64 i.b, Value.int IntKind.i64 i.c, Value.int IntKind.i64 i.d, Value.int IntKind.i64 i.e, Value.int IntKind.i64 0] 105))
  have HB1 := hid (blk_old (blk_new (w.alloc (Obj.cells #[Value.slice Af c.funcs.length cf, Value.slice At c.texts.length ct, Value.string f.name, Value.int IntKind.i64 f.params, Value.int IntKind.i64 f.slots, Value.int IntKind.i64 f.caps, Value.slice A f.ins.length cc] 80)) (Obj.cells #[Value.int IntKind.i64 i.op, Value.int IntKind.i64 i.a, Value.int IntKind.i64 i.b, Value.int IntKind.i64 i.c, Value.int IntKind.i64 i.d, Value.int IntKind.i64 i.e] 64)) (Obj.cells #[Value.int IntKind.i64 i.a, Value.int IntKind.i64 i.b, Value.int IntKind.i64 i.c, Value.int IntKind.i64 i.d, Value.int IntKind.i64 i.e, Value.int IntKind.i64 0] 105))
  have HB2 := hid (blk_new ((w.alloc (Obj.cells #[Value.slice Af c.funcs.length cf, Value.slice At c.texts.length ct, Value.string f.name, Value.int IntKind.i64 f.params, Value.int IntKind.i64 f.slots, Value.int IntKind.i64 f.caps, Value.slice A f.ins.length cc] 80)).alloc (Obj.cells #[Value.int IntKind.i64 i.op, Value.int IntKind.i64 i.a, Value.int IntKind.i64 i.b, Value.int IntKind.i64 i.c, Value.int IntKind.i64 i.d, Value.int IntKind.i64 i.e] 64)) (Obj.cells #[Value.int IntKind.i64 i.a, Value.int IntKind.i64 i.b, Value.int IntKind.i64 i.c, Value.int IntKind.i64 i.d, Value.int IntKind.i64 i.e, Value.int IntKind.i64 0] 105))
  rw [show ((w.alloc (Obj.cells #[Value.slice Af c.funcs.length cf, Value.slice At c.texts.length ct, Value.string f.name, Value.int IntKind.i64 f.params, Value.int IntKind.i64 f.slots, Value.int IntKind.i64 f.caps, Value.slice A f.ins.length cc] 80)).alloc (Obj.cells #[Value.int IntKind.i64 i.op, Value.int IntKind.i64 i.a, Value.int IntKind.i64 i.b, Value.int IntKind.i64 i.c, Value.int IntKind.i64 i.d, Value.int IntKind.i64 i.e] 64)).heap.size = w.heap.size + 1 + 1 by simp] at HB2
  rw [show (w.alloc (Obj.cells #[Value.slice Af c.funcs.length cf, Value.slice At c.texts.length ct, Value.string f.name, Value.int IntKind.i64 f.params, Value.int IntKind.i64 f.slots, Value.int IntKind.i64 f.caps, Value.slice A f.ins.length cc] 80)).heap.size = w.heap.size + 1 by simp] at HB1
  generalize (((w.alloc (Obj.cells #[Value.slice Af c.funcs.length cf, Value.slice At c.texts.length ct, Value.string f.name, Value.int IntKind.i64 f.params, Value.int IntKind.i64 f.slots, Value.int IntKind.i64 f.caps, Value.slice A f.ins.length cc] 80)).alloc (Obj.cells #[Value.int IntKind.i64 i.op, Value.int IntKind.i64 i.a, Value.int IntKind.i64 i.b, Value.int IntKind.i64 i.c, Value.int IntKind.i64 i.d, Value.int IntKind.i64 i.e] 64)).alloc (Obj.cells #[Value.int IntKind.i64 i.a, Value.int IntKind.i64 i.b, Value.int IntKind.i64 i.c, Value.int IntKind.i64 i.d, Value.int IntKind.i64 i.e, Value.int IntKind.i64 0] 105)) = W at HK3 HB0 HB1 HB2 ⊢
  generalize w.heap.size = n0 at HB0 HB1 HB2 ⊢
  generalize n0 + 1 + 1 = n2 at HB2 ⊢
  generalize n0 + 1 = n1 at HB1 ⊢
  have HAT := hid hat
  clear hat
  go_loopw [34] (fun x wr => ∃ k : Nat, k ≤ 5 ∧ x = .int .i64 (k : Int) ∧ (∀ j, j < k → okAt c f (formM i) i j = true) ∧ Kp W wr) (fun x _ => 5 - (intOf x).toNat)
  case atStart => exact ⟨0, by omega, rfl, fun j hj => absurd hj (Nat.not_lt_zero _), Kp.refl _⟩
  case round =>
    obtain ⟨k, hk, rfl, hall, hkr⟩ := hrel
    have HALL := hid hall
    have HKR := hid hkr
    have hn0 := blk_lt HB0.out
    have hn1 := blk_lt HB1.out
    have hn2 := blk_lt HB2.out
    have hle := hkr.le
    have b0 := (hkr.block _ hn0).trans HB0.out
    have b1 := (hkr.block _ hn1).trans HB1.out
    have b2 := (hkr.block _ hn2).trans HB2.out
    have m0 : n0 < wr.heap.size := by omega
    have m1 : n1 < wr.heap.size := by omega
    have m2 : n2 < wr.heap.size := by omega
    clear hall hn0 hn1 hn2 hle hkr
    have j0 := blk_cell (o := 0) (v := Value.slice Af c.funcs.length cf) b0 rfl
    have j1 := blk_cell (o := 1) (v := Value.slice At c.texts.length ct) b0 rfl
    have j2 := blk_cell (o := 2) (v := Value.string f.name) b0 rfl
    have j3 := blk_cell (o := 3) (v := Value.int IntKind.i64 f.params) b0 rfl
    have j4 := blk_cell (o := 4) (v := Value.int IntKind.i64 f.slots) b0 rfl
    have j5 := blk_cell (o := 5) (v := Value.int IntKind.i64 f.caps) b0 rfl
    have j6 := blk_cell (o := 6) (v := Value.slice A f.ins.length cc) b0 rfl
    have i0 := blk_cell (o := 0) (v := Value.int IntKind.i64 i.op) b1 rfl
    have i2 := blk_cell (o := 2) (v := Value.int IntKind.i64 i.b) b1 rfl
    have i4 := blk_cell (o := 4) (v := Value.int IntKind.i64 i.d) b1 rfl
    clear b0 b1
    by_cases hlt : k < 5
    · have hl5 : (k : Int) < 5 := by omega
      have hks : k < S.size := by omega
      obtain ⟨kd, hkd⟩ : ∃ kd, (formM i).getD k 0 = kd := ⟨_, rfl⟩
      have hSk : S[k] = kd := (HAT.out k hks).trans hkd
      obtain ⟨x0, hx0⟩ : ∃ x, i.row.getD k 0 = x := ⟨_, rfl⟩
      obtain ⟨x1, hx1⟩ : ∃ x, i.row.getD (k + 1) 0 = x := ⟨_, rfl⟩
      have r0 := blk_cell (o := k) (v := .int .i64 x0) b2 ((row_at i k (by omega)).trans (by rw [hx0]))
      have r1 := blk_cell (o := k + 1) (v := .int .i64 x1) b2 ((row_at i (k + 1) (by omega)).trans (by rw [hx1]))
      clear b2
      obtain ⟨kv, hkv⟩ : ∃ kv : Int, (kd.toNat : Int) = kv := ⟨_, rfl⟩
      by_cases h42 : kd = 42
      · have t42 : (kv == 42) = true := by rw [← hkv, h42]; rfl
        have HN := hid (show okAt c f (formM i) i k = true by unfold okAt; rw [hkd, h42]; rfl)
        clear hkd h42
        clear hx0 hx1 hlt
        go_wp2
        exact ins_round (by omega) (all_succ HALL.out HN.out) HKR.out
      · have t42 : (kv == 42) = false := by rw [← hkv, beq_eq_false_iff_ne]; intro h; exact h42 (UInt8.toNat_inj.1 (by show kd.toNat = 42; omega))
        have HO := hid (show okAt c f (formM i) i k = fieldM c f kd x0 x1 by unfold okAt; rw [hkd, hx0, hx1, show (kd == 42) = false by simpa using h42]; rfl)
        have HKV := hid hkv
        clear hkd h42 hx0 hx1
        have k1 := wrap_in ((k : Int) + 1) (by omega)
        have hl6 : (k : Int) < 6 := by omega
        have hl7 : (k : Int) + 1 < 6 := by omega
        have hl8 : k + 1 < 6 := by omega
        have hl9 : k < 6 := by omega
        cases hb : fieldM c f kd x0 x1 with
        | true =>
          have HB := hid hb
          clear hb
          go_upto_region 13 with fail
          refine wp_region_kp [[], [], [], [1, 2], [], [4], [5], [], [7], [8], [9], [0, 3, 6, 10], [11]] (fun u => Kp wr u)
            [fun (y : Value) (u : World) => y = (.agg #[.slice Af c.funcs.length cf, .slice At c.texts.length ct, .string f.name, .int .i64 f.params, .int .i64 f.slots, .int .i64 f.caps, .slice A f.ins.length cc] : Value),
             fun (y : Value) (u : World) => y = (.string S : Value),
             fun (y : Value) (u : World) => y = (.int .i64 (k : Int) : Value),
             fun (y : Value) (u : World) => y = (.int .u8 kv : Value),
             fun (y : Value) (u : World) => y = (.int .i64 (k : Int) : Value),
             fun (y : Value) (u : World) => y = (.pointer (some ⟨n2, k, none⟩) : Value),
             fun (y : Value) (u : World) => y = (.int .i64 x0 : Value),
             fun (y : Value) (u : World) => y = (.int .i64 (k : Int) : Value),
             fun (y : Value) (u : World) => y = (.int .i64 ((k : Int) + 1) : Value),
             fun (y : Value) (u : World) => y = (.pointer (some ⟨n2, k + 1, none⟩) : Value),
             fun (y : Value) (u : World) => y = (.int .i64 x1 : Value),
             fun (y : Value) (u : World) => y = (.bool true : Value),
             fun (y : Value) (u : World) => y = (.bool false : Value)]
            (by kernel_rfl) (by kernel_rfl) (by kernel_rfl) (by kernel_rfl) ((Kp.refl _).drew) (fun _ _ hk h => h.trans hk) ⟨fun _ _ _ _ h => h, fun _ _ _ _ h => h, fun _ _ _ _ h => h, fun _ _ _ _ h => h, fun _ _ _ _ h => h, fun _ _ _ _ h => h, fun _ _ _ _ h => h, fun _ _ _ _ h => h, fun _ _ _ _ h => h, fun _ _ _ _ h => h, fun _ _ _ _ h => h, fun _ _ _ _ h => h, fun _ _ _ _ h => h, trivial⟩ ⟨?se0, ?se1, ?se2, ?se3, ?se4, ?se5, ?se6, ?se7, ?se8, ?se9, ?se10, ?se11, ?se12, trivial⟩ ?hEe
          case se0 =>
            intro x u hg hd K hK
            clear hd
            have q0 := cell_kp hg m0 j0
            have q1 := cell_kp hg m0 j1
            have q2 := cell_kp hg m0 j2
            have q3 := cell_kp hg m0 j3
            have q4 := cell_kp hg m0 j4
            have q5 := cell_kp hg m0 j5
            have q6 := cell_kp hg m0 j6
            refine ⟨?_⟩
            simp only [putsFrom, Act.put, List.setIfInBounds_toArray, List.set_cons_zero, List.set_cons_succ, Nat.reduceAdd] at hK ⊢
            go_simp
            exact hK.out _ _ (Kp.refl _) rfl
          case se1 =>
            intro x u hg hd K hK
            clear hd
            refine ⟨?_⟩
            simp only [putsFrom, Act.put, List.setIfInBounds_toArray, List.set_cons_zero, List.set_cons_succ, Nat.reduceAdd] at hK ⊢
            go_simp
            exact hK.out _ _ (Kp.refl _) rfl
          case se2 =>
            intro x u hg hd K hK
            clear hd
            refine ⟨?_⟩
            simp only [putsFrom, Act.put, List.setIfInBounds_toArray, List.set_cons_zero, List.set_cons_succ, Nat.reduceAdd] at hK ⊢
            go_simp
            exact hK.out _ _ (Kp.refl _) rfl
          case se3 =>
            intro x u hg hd K hK
            have d1 : (x 1) = .string S := And.left hd
            have d2 : (x 2) = .int .i64 (k : Int) := And.left (And.right hd)
            clear hd
            refine ⟨?_⟩
            simp only [putsFrom, Act.put, List.setIfInBounds_toArray, List.set_cons_zero, List.set_cons_succ, Nat.reduceAdd, d1, d2] at hK ⊢
            go_simp
            exact hK.out _ _ (Kp.refl _) rfl
          case se4 =>
            intro x u hg hd K hK
            clear hd
            refine ⟨?_⟩
            simp only [putsFrom, Act.put, List.setIfInBounds_toArray, List.set_cons_zero, List.set_cons_succ, Nat.reduceAdd] at hK ⊢
            go_simp
            exact hK.out _ _ (Kp.refl _) rfl
          case se5 =>
            intro x u hg hd K hK
            have d4 : (x 4) = .int .i64 (k : Int) := And.left hd
            clear hd
            refine ⟨?_⟩
            simp only [putsFrom, Act.put, List.setIfInBounds_toArray, List.set_cons_zero, List.set_cons_succ, Nat.reduceAdd, d4] at hK ⊢
            go_simp
            exact hK.out _ _ (Kp.refl _) rfl
          case se6 =>
            intro x u hg hd K hK
            have d5 : (x 5) = .pointer (some ⟨n2, k, none⟩) := And.left hd
            clear hd
            have q0 := cell_kp hg m2 r0
            refine ⟨?_⟩
            simp only [putsFrom, Act.put, List.setIfInBounds_toArray, List.set_cons_zero, List.set_cons_succ, Nat.reduceAdd, d5] at hK ⊢
            go_simp
            exact hK.out _ _ (Kp.refl _) rfl
          case se7 =>
            intro x u hg hd K hK
            clear hd
            refine ⟨?_⟩
            simp only [putsFrom, Act.put, List.setIfInBounds_toArray, List.set_cons_zero, List.set_cons_succ, Nat.reduceAdd] at hK ⊢
            go_simp
            exact hK.out _ _ (Kp.refl _) rfl
          case se8 =>
            intro x u hg hd K hK
            have d7 : (x 7) = .int .i64 (k : Int) := And.left hd
            clear hd
            refine ⟨?_⟩
            simp only [putsFrom, Act.put, List.setIfInBounds_toArray, List.set_cons_zero, List.set_cons_succ, Nat.reduceAdd, d7] at hK ⊢
            go_simp
            exact hK.out _ _ (Kp.refl _) rfl
          case se9 =>
            intro x u hg hd K hK
            have d8 : (x 8) = .int .i64 ((k : Int) + 1) := And.left hd
            clear hd
            refine ⟨?_⟩
            simp only [putsFrom, Act.put, List.setIfInBounds_toArray, List.set_cons_zero, List.set_cons_succ, Nat.reduceAdd, d8] at hK ⊢
            go_simp
            exact hK.out _ _ (Kp.refl _) rfl
          case se10 =>
            intro x u hg hd K hK
            have d9 : (x 9) = .pointer (some ⟨n2, k + 1, none⟩) := And.left hd
            clear hd
            have q0 := cell_kp hg m2 r1
            refine ⟨?_⟩
            simp only [putsFrom, Act.put, List.setIfInBounds_toArray, List.set_cons_zero, List.set_cons_succ, Nat.reduceAdd, d9] at hK ⊢
            go_simp
            exact hK.out _ _ (Kp.refl _) rfl
          case se11 =>
            intro x u hg hd K hK
            have d0 : (x 0) = .agg #[.slice Af c.funcs.length cf, .slice At c.texts.length ct, .string f.name, .int .i64 f.params, .int .i64 f.slots, .int .i64 f.caps, .slice A f.ins.length cc] := And.left hd
            have d3 : (x 3) = .int .u8 kv := And.left (And.right hd)
            have d6 : (x 6) = .int .i64 x0 := And.left (And.right (And.right hd))
            have d10 : (x 10) = .int .i64 x1 := And.left (And.right (And.right (And.right hd)))
            clear hd
            refine ⟨?_⟩
            simp only [putsFrom, Act.put, List.setIfInBounds_toArray, List.set_cons_zero, List.set_cons_succ, Nat.reduceAdd, d0, d3, d6, d10] at hK ⊢
            go_simp
            go_at_call 57
            have hc := (field_is _ _ c f HJ.out (HV.out.kp (HK3.out.trans (HKR.out.trans hg))) kd kv HKV.out x0 x1 HB.out)
            refine hc.mono ?_
            clear hc
            rintro e u' ⟨rfl, hk⟩
            dsimp only
            exact hK.out _ _ hk rfl
          case se12 =>
            intro x u hg hd K hK
            have d11 : (x 11) = .bool true := And.left hd
            clear hd
            refine ⟨?_⟩
            simp only [putsFrom, Act.put, List.setIfInBounds_toArray, List.set_cons_zero, List.set_cons_succ, Nat.reduceAdd, d11] at hK ⊢
            go_simp
            exact hK.out _ _ (Kp.refl _) rfl
          intro x u hg he
          have d0 : (x 0) = .agg #[.slice Af c.funcs.length cf, .slice At c.texts.length ct, .string f.name, .int .i64 f.params, .int .i64 f.slots, .int .i64 f.caps, .slice A f.ins.length cc] := And.left he
          have d1 : (x 1) = .string S := And.left (And.right he)
          have d2 : (x 2) = .int .i64 (k : Int) := And.left (And.right (And.right he))
          have d3 : (x 3) = .int .u8 kv := And.left (And.right (And.right (And.right he)))
          have d4 : (x 4) = .int .i64 (k : Int) := And.left (And.right (And.right (And.right (And.right he))))
          have d5 : (x 5) = .pointer (some ⟨n2, k, none⟩) := And.left (And.right (And.right (And.right (And.right (And.right he)))))
          have d6 : (x 6) = .int .i64 x0 := And.left (And.right (And.right (And.right (And.right (And.right (And.right he))))))
          have d7 : (x 7) = .int .i64 (k : Int) := And.left (And.right (And.right (And.right (And.right (And.right (And.right (And.right he)))))))
          have d8 : (x 8) = .int .i64 ((k : Int) + 1) := And.left (And.right (And.right (And.right (And.right (And.right (And.right (And.right (And.right he))))))))
          have d9 : (x 9) = .pointer (some ⟨n2, k + 1, none⟩) := And.left (And.right (And.right (And.right (And.right (And.right (And.right (And.right (And.right (And.right he)))))))))
          have d10 : (x 10) = .int .i64 x1 := And.left (And.right (And.right (And.right (And.right (And.right (And.right (And.right (And.right (And.right (And.right he))))))))))
          have d11 : (x 11) = .bool true := And.left (And.right (And.right (And.right (And.right (And.right (And.right (And.right (And.right (And.right (And.right (And.right he)))))))))))
          have d12 : (x 12) = .bool false := And.left (And.right (And.right (And.right (And.right (And.right (And.right (And.right (And.right (And.right (And.right (And.right (And.right he))))))))))))
          clear he
          refine ⟨?_⟩
          simp only [putsFrom, Act.put, List.setIfInBounds_toArray, List.set_cons_zero, List.set_cons_succ, Nat.reduceAdd, d0, d1, d2, d3, d4, d5, d6, d7, d8, d9, d10, d11, d12]
          clear d0 d1 d2 d3 d4 d5 d6 d7 d8 d9 d10 d11 d12
          have HKG := hid hg
          clear hg hlt
          go_wp2
          exact ins_round (by omega) (all_succ HALL.out (HO.out.trans HB.out)) (HKR.out.trans HKG.out)
        | false =>
          have HB := hid hb
          clear hb
          go_upto_region 13 with fail
          refine wp_region_kp [[], [], [], [1, 2], [], [4], [5], [], [7], [8], [9], [0, 3, 6, 10], [11]] (fun u => Kp wr u)
            [fun (y : Value) (u : World) => y = (.agg #[.slice Af c.funcs.length cf, .slice At c.texts.length ct, .string f.name, .int .i64 f.params, .int .i64 f.slots, .int .i64 f.caps, .slice A f.ins.length cc] : Value),
             fun (y : Value) (u : World) => y = (.string S : Value),
             fun (y : Value) (u : World) => y = (.int .i64 (k : Int) : Value),
             fun (y : Value) (u : World) => y = (.int .u8 kv : Value),
             fun (y : Value) (u : World) => y = (.int .i64 (k : Int) : Value),
             fun (y : Value) (u : World) => y = (.pointer (some ⟨n2, k, none⟩) : Value),
             fun (y : Value) (u : World) => y = (.int .i64 x0 : Value),
             fun (y : Value) (u : World) => y = (.int .i64 (k : Int) : Value),
             fun (y : Value) (u : World) => y = (.int .i64 ((k : Int) + 1) : Value),
             fun (y : Value) (u : World) => y = (.pointer (some ⟨n2, k + 1, none⟩) : Value),
             fun (y : Value) (u : World) => y = (.int .i64 x1 : Value),
             fun (y : Value) (u : World) => y = (.bool false : Value),
             fun (y : Value) (u : World) => y = (.bool true : Value)]
            (by kernel_rfl) (by kernel_rfl) (by kernel_rfl) (by kernel_rfl) ((Kp.refl _).drew) (fun _ _ hk h => h.trans hk) ⟨fun _ _ _ _ h => h, fun _ _ _ _ h => h, fun _ _ _ _ h => h, fun _ _ _ _ h => h, fun _ _ _ _ h => h, fun _ _ _ _ h => h, fun _ _ _ _ h => h, fun _ _ _ _ h => h, fun _ _ _ _ h => h, fun _ _ _ _ h => h, fun _ _ _ _ h => h, fun _ _ _ _ h => h, fun _ _ _ _ h => h, trivial⟩ ⟨?sf0, ?sf1, ?sf2, ?sf3, ?sf4, ?sf5, ?sf6, ?sf7, ?sf8, ?sf9, ?sf10, ?sf11, ?sf12, trivial⟩ ?hEf
          case sf0 =>
            intro x u hg hd K hK
            clear hd
            have q0 := cell_kp hg m0 j0
            have q1 := cell_kp hg m0 j1
            have q2 := cell_kp hg m0 j2
            have q3 := cell_kp hg m0 j3
            have q4 := cell_kp hg m0 j4
            have q5 := cell_kp hg m0 j5
            have q6 := cell_kp hg m0 j6
            refine ⟨?_⟩
            simp only [putsFrom, Act.put, List.setIfInBounds_toArray, List.set_cons_zero, List.set_cons_succ, Nat.reduceAdd] at hK ⊢
            go_simp
            exact hK.out _ _ (Kp.refl _) rfl
          case sf1 =>
            intro x u hg hd K hK
            clear hd
            refine ⟨?_⟩
            simp only [putsFrom, Act.put, List.setIfInBounds_toArray, List.set_cons_zero, List.set_cons_succ, Nat.reduceAdd] at hK ⊢
            go_simp
            exact hK.out _ _ (Kp.refl _) rfl
          case sf2 =>
            intro x u hg hd K hK
            clear hd
            refine ⟨?_⟩
            simp only [putsFrom, Act.put, List.setIfInBounds_toArray, List.set_cons_zero, List.set_cons_succ, Nat.reduceAdd] at hK ⊢
            go_simp
            exact hK.out _ _ (Kp.refl _) rfl
          case sf3 =>
            intro x u hg hd K hK
            have d1 : (x 1) = .string S := And.left hd
            have d2 : (x 2) = .int .i64 (k : Int) := And.left (And.right hd)
            clear hd
            refine ⟨?_⟩
            simp only [putsFrom, Act.put, List.setIfInBounds_toArray, List.set_cons_zero, List.set_cons_succ, Nat.reduceAdd, d1, d2] at hK ⊢
            go_simp
            exact hK.out _ _ (Kp.refl _) rfl
          case sf4 =>
            intro x u hg hd K hK
            clear hd
            refine ⟨?_⟩
            simp only [putsFrom, Act.put, List.setIfInBounds_toArray, List.set_cons_zero, List.set_cons_succ, Nat.reduceAdd] at hK ⊢
            go_simp
            exact hK.out _ _ (Kp.refl _) rfl
          case sf5 =>
            intro x u hg hd K hK
            have d4 : (x 4) = .int .i64 (k : Int) := And.left hd
            clear hd
            refine ⟨?_⟩
            simp only [putsFrom, Act.put, List.setIfInBounds_toArray, List.set_cons_zero, List.set_cons_succ, Nat.reduceAdd, d4] at hK ⊢
            go_simp
            exact hK.out _ _ (Kp.refl _) rfl
          case sf6 =>
            intro x u hg hd K hK
            have d5 : (x 5) = .pointer (some ⟨n2, k, none⟩) := And.left hd
            clear hd
            have q0 := cell_kp hg m2 r0
            refine ⟨?_⟩
            simp only [putsFrom, Act.put, List.setIfInBounds_toArray, List.set_cons_zero, List.set_cons_succ, Nat.reduceAdd, d5] at hK ⊢
            go_simp
            exact hK.out _ _ (Kp.refl _) rfl
          case sf7 =>
            intro x u hg hd K hK
            clear hd
            refine ⟨?_⟩
            simp only [putsFrom, Act.put, List.setIfInBounds_toArray, List.set_cons_zero, List.set_cons_succ, Nat.reduceAdd] at hK ⊢
            go_simp
            exact hK.out _ _ (Kp.refl _) rfl
          case sf8 =>
            intro x u hg hd K hK
            have d7 : (x 7) = .int .i64 (k : Int) := And.left hd
            clear hd
            refine ⟨?_⟩
            simp only [putsFrom, Act.put, List.setIfInBounds_toArray, List.set_cons_zero, List.set_cons_succ, Nat.reduceAdd, d7] at hK ⊢
            go_simp
            exact hK.out _ _ (Kp.refl _) rfl
          case sf9 =>
            intro x u hg hd K hK
            have d8 : (x 8) = .int .i64 ((k : Int) + 1) := And.left hd
            clear hd
            refine ⟨?_⟩
            simp only [putsFrom, Act.put, List.setIfInBounds_toArray, List.set_cons_zero, List.set_cons_succ, Nat.reduceAdd, d8] at hK ⊢
            go_simp
            exact hK.out _ _ (Kp.refl _) rfl
          case sf10 =>
            intro x u hg hd K hK
            have d9 : (x 9) = .pointer (some ⟨n2, k + 1, none⟩) := And.left hd
            clear hd
            have q0 := cell_kp hg m2 r1
            refine ⟨?_⟩
            simp only [putsFrom, Act.put, List.setIfInBounds_toArray, List.set_cons_zero, List.set_cons_succ, Nat.reduceAdd, d9] at hK ⊢
            go_simp
            exact hK.out _ _ (Kp.refl _) rfl
          case sf11 =>
            intro x u hg hd K hK
            have d0 : (x 0) = .agg #[.slice Af c.funcs.length cf, .slice At c.texts.length ct, .string f.name, .int .i64 f.params, .int .i64 f.slots, .int .i64 f.caps, .slice A f.ins.length cc] := And.left hd
            have d3 : (x 3) = .int .u8 kv := And.left (And.right hd)
            have d6 : (x 6) = .int .i64 x0 := And.left (And.right (And.right hd))
            have d10 : (x 10) = .int .i64 x1 := And.left (And.right (And.right (And.right hd)))
            clear hd
            refine ⟨?_⟩
            simp only [putsFrom, Act.put, List.setIfInBounds_toArray, List.set_cons_zero, List.set_cons_succ, Nat.reduceAdd, d0, d3, d6, d10] at hK ⊢
            go_simp
            go_at_call 57
            have hc := (field_is _ _ c f HJ.out (HV.out.kp (HK3.out.trans (HKR.out.trans hg))) kd kv HKV.out x0 x1 HB.out)
            refine hc.mono ?_
            clear hc
            rintro e u' ⟨rfl, hk⟩
            dsimp only
            exact hK.out _ _ hk rfl
          case sf12 =>
            intro x u hg hd K hK
            have d11 : (x 11) = .bool false := And.left hd
            clear hd
            refine ⟨?_⟩
            simp only [putsFrom, Act.put, List.setIfInBounds_toArray, List.set_cons_zero, List.set_cons_succ, Nat.reduceAdd, d11] at hK ⊢
            go_simp
            exact hK.out _ _ (Kp.refl _) rfl
          intro x u hg he
          have d0 : (x 0) = .agg #[.slice Af c.funcs.length cf, .slice At c.texts.length ct, .string f.name, .int .i64 f.params, .int .i64 f.slots, .int .i64 f.caps, .slice A f.ins.length cc] := And.left he
          have d1 : (x 1) = .string S := And.left (And.right he)
          have d2 : (x 2) = .int .i64 (k : Int) := And.left (And.right (And.right he))
          have d3 : (x 3) = .int .u8 kv := And.left (And.right (And.right (And.right he)))
          have d4 : (x 4) = .int .i64 (k : Int) := And.left (And.right (And.right (And.right (And.right he))))
          have d5 : (x 5) = .pointer (some ⟨n2, k, none⟩) := And.left (And.right (And.right (And.right (And.right (And.right he)))))
          have d6 : (x 6) = .int .i64 x0 := And.left (And.right (And.right (And.right (And.right (And.right (And.right he))))))
          have d7 : (x 7) = .int .i64 (k : Int) := And.left (And.right (And.right (And.right (And.right (And.right (And.right (And.right he)))))))
          have d8 : (x 8) = .int .i64 ((k : Int) + 1) := And.left (And.right (And.right (And.right (And.right (And.right (And.right (And.right (And.right he))))))))
          have d9 : (x 9) = .pointer (some ⟨n2, k + 1, none⟩) := And.left (And.right (And.right (And.right (And.right (And.right (And.right (And.right (And.right (And.right he)))))))))
          have d10 : (x 10) = .int .i64 x1 := And.left (And.right (And.right (And.right (And.right (And.right (And.right (And.right (And.right (And.right (And.right he))))))))))
          have d11 : (x 11) = .bool false := And.left (And.right (And.right (And.right (And.right (And.right (And.right (And.right (And.right (And.right (And.right (And.right he)))))))))))
          have d12 : (x 12) = .bool true := And.left (And.right (And.right (And.right (And.right (And.right (And.right (And.right (And.right (And.right (And.right (And.right (And.right he))))))))))))
          clear he
          refine ⟨?_⟩
          simp only [putsFrom, Act.put, List.setIfInBounds_toArray, List.set_cons_zero, List.set_cons_succ, Nat.reduceAdd, d0, d1, d2, d3, d4, d5, d6, d7, d8, d9, d10, d11, d12]
          clear d0 d1 d2 d3 d4 d5 d6 d7 d8 d9 d10 d11 d12
          have HKG := hid hg
          have HRET := hid (ins_bad HN5.out hlt (HO.out.trans HB.out))
          clear hg hlt
          go_wp2
          go_ret
          exact ⟨ret_int HRET.out.symm, HK3.out.trans (HKR.out.trans HKG.out)⟩
    · obtain rfl : k = 5 := by omega
      clear b2 hlt hk j1 j2 j3 j4 j5 j6
      have HALL5 := hid (show ∀ k, k < 5 → okAt c f (formM i) i k = true from HALL.out)
      have hR : insM c f i = if i.op = 21 ∧ i.d ≠ capsAt c i.b then 14 else 0 := by
        unfold insM; rw [if_neg HN5.out, if_pos HALL5.out]
      have hl5 : ¬ ((5 : Nat) : Int) < 5 := by omega
      by_cases h21 : i.op = 21
      · have t21 : (i.op == 21) = true := by simp [h21]
        have HG := HALL5.out 1 (by omega)
        have hg21 : formM i = [115, 103, 40, 41, 45] := by rw [HFO.out, h21]; rfl
        rw [hg21] at HG
        have hwb : withinB i.b 0 ((c.funcs.length : Int) - 1) = true := HG
        have hwi := withinB_iff.1 hwb
        obtain ⟨jb, hjb⟩ : ∃ j : Nat, i.b = j := ⟨i.b.toNat, by omega⟩
        have hjl : jb < c.funcs.length := by omega
        obtain ⟨g, hg⟩ : ∃ g, c.funcs[jb]? = some g := ⟨_, List.getElem?_eq_getElem hjl⟩
        have hcap : capsAt c i.b = g.caps := by unfold capsAt; rw [hjb]; simp [hg]
        obtain ⟨fb, fo, hAf, hfl, lins, q0, q1, q2, q3, q4, _⟩ := at_fn (HF.out.kp CeFn.kp (HK3.out.trans HKR.out)) hg
        subst hAf
        have jl2 : (jb : Int) < (c.funcs.length : Int) := by omega
        rw [hcap] at hR
        rw [hjb] at i2
        clear HG hg21 hwb hwi hg hcap q0 q1 q2 q4 hjb
        by_cases hd : i.d = g.caps
        · have tn : (i.d != g.caps) = false := by rw [hd]; simp
          have HRET := hid (show insM c f i = 0 by rw [hR, if_neg (fun h => h.2 hd)])
          clear hR h21 hd
          go_upto_region 16 with fail
          refine wp_region_kp [[], [0], [1], [2], [3], [3, 4], [3], [3, 6], [3, 7], [3], [3, 9], [3, 8, 10], [3, 11], [3, 12], [3, 5, 13], [3, 14]] (fun u => Kp wr u)
            [fun (y : Value) (u : World) => y = (.pointer (some ⟨n1, 0, none⟩) : Value),
             fun (y : Value) (u : World) => y = (.int .i64 i.op : Value),
             fun (y : Value) (u : World) => y = (.bool true : Value),
             fun (y : Value) (u : World) => y = (.bool true : Value),
             fun (y : Value) (u : World) => y = (.pointer (some ⟨n1, 4, none⟩) : Value),
             fun (y : Value) (u : World) => y = (.int .i64 i.d : Value),
             fun (y : Value) (u : World) => y = (.pointer (some ⟨n0, 0, none⟩) : Value),
             fun (y : Value) (u : World) => y = (.pointer (some ⟨n0, 0, none⟩) : Value),
             fun (y : Value) (u : World) => y = (.slice (some ⟨fb, fo, none⟩) c.funcs.length cf : Value),
             fun (y : Value) (u : World) => y = (.pointer (some ⟨n1, 2, none⟩) : Value),
             fun (y : Value) (u : World) => y = (.int .i64 jb : Value),
             fun (y : Value) (u : World) => y = (.pointer (some ⟨fb, fo + jb * 5, none⟩) : Value),
             fun (y : Value) (u : World) => y = (.pointer (some ⟨fb, fo + jb * 5 + 3, none⟩) : Value),
             fun (y : Value) (u : World) => y = (.int .i64 g.caps : Value),
             fun (y : Value) (u : World) => y = (.bool false : Value),
             fun (y : Value) (u : World) => y = (.bool false : Value)]
            (by kernel_rfl) (by kernel_rfl) (by kernel_rfl) (by kernel_rfl) ((Kp.refl _).drew) (fun _ _ hk h => h.trans hk) ⟨fun _ _ _ _ h => h, fun _ _ _ _ h => h, fun _ _ _ _ h => h, fun _ _ _ _ h => h, fun _ _ _ _ h => h, fun _ _ _ _ h => h, fun _ _ _ _ h => h, fun _ _ _ _ h => h, fun _ _ _ _ h => h, fun _ _ _ _ h => h, fun _ _ _ _ h => h, fun _ _ _ _ h => h, fun _ _ _ _ h => h, fun _ _ _ _ h => h, fun _ _ _ _ h => h, fun _ _ _ _ h => h, trivial⟩ ⟨?sg0, ?sg1, ?sg2, ?sg3, ?sg4, ?sg5, ?sg6, ?sg7, ?sg8, ?sg9, ?sg10, ?sg11, ?sg12, ?sg13, ?sg14, ?sg15, trivial⟩ ?hEg
          case sg0 =>
            intro x u hg hd K hK
            clear hd
            refine ⟨?_⟩
            simp only [putsFrom, Act.put, List.setIfInBounds_toArray, List.set_cons_zero, List.set_cons_succ, Nat.reduceAdd] at hK ⊢
            go_simp
            exact hK.out _ _ (Kp.refl _) rfl
          case sg1 =>
            intro x u hg hd K hK
            have d0 : (x 0) = .pointer (some ⟨n1, 0, none⟩) := And.left hd
            clear hd
            have q0 := cell_kp hg m1 i0
            refine ⟨?_⟩
            simp only [putsFrom, Act.put, List.setIfInBounds_toArray, List.set_cons_zero, List.set_cons_succ, Nat.reduceAdd, d0] at hK ⊢
            go_simp
            exact hK.out _ _ (Kp.refl _) rfl
          case sg2 =>
            intro x u hg hd K hK
            have d1 : (x 1) = .int .i64 i.op := And.left hd
            clear hd
            refine ⟨?_⟩
            simp only [putsFrom, Act.put, List.setIfInBounds_toArray, List.set_cons_zero, List.set_cons_succ, Nat.reduceAdd, d1] at hK ⊢
            go_simp
            exact hK.out _ _ (Kp.refl _) rfl
          case sg3 =>
            intro x u hg hd K hK
            have d2 : (x 2) = .bool true := And.left hd
            clear hd
            refine ⟨?_⟩
            simp only [putsFrom, Act.put, List.setIfInBounds_toArray, List.set_cons_zero, List.set_cons_succ, Nat.reduceAdd, d2] at hK ⊢
            go_simp
            exact hK.out _ _ (Kp.refl _) rfl
          case sg4 =>
            intro x u hg hd K hK
            have d3 : (x 3) = .bool true := And.left hd
            clear hd
            refine ⟨?_⟩
            simp only [putsFrom, Act.put, List.setIfInBounds_toArray, List.set_cons_zero, List.set_cons_succ, Nat.reduceAdd, d3] at hK ⊢
            go_simp
            exact hK.out _ _ (Kp.refl _) rfl
          case sg5 =>
            intro x u hg hd K hK
            have d3 : (x 3) = .bool true := And.left hd
            have d4 : (x 4) = .pointer (some ⟨n1, 4, none⟩) := And.left (And.right hd)
            clear hd
            have q0 := cell_kp hg m1 i4
            refine ⟨?_⟩
            simp only [putsFrom, Act.put, List.setIfInBounds_toArray, List.set_cons_zero, List.set_cons_succ, Nat.reduceAdd, d3, d4] at hK ⊢
            go_simp
            exact hK.out _ _ (Kp.refl _) rfl
          case sg6 =>
            intro x u hg hd K hK
            have d3 : (x 3) = .bool true := And.left hd
            clear hd
            refine ⟨?_⟩
            simp only [putsFrom, Act.put, List.setIfInBounds_toArray, List.set_cons_zero, List.set_cons_succ, Nat.reduceAdd, d3] at hK ⊢
            go_simp
            exact hK.out _ _ (Kp.refl _) rfl
          case sg7 =>
            intro x u hg hd K hK
            have d3 : (x 3) = .bool true := And.left hd
            have d6 : (x 6) = .pointer (some ⟨n0, 0, none⟩) := And.left (And.right hd)
            clear hd
            refine ⟨?_⟩
            simp only [putsFrom, Act.put, List.setIfInBounds_toArray, List.set_cons_zero, List.set_cons_succ, Nat.reduceAdd, d3, d6] at hK ⊢
            go_simp
            exact hK.out _ _ (Kp.refl _) rfl
          case sg8 =>
            intro x u hg hd K hK
            have d3 : (x 3) = .bool true := And.left hd
            have d7 : (x 7) = .pointer (some ⟨n0, 0, none⟩) := And.left (And.right hd)
            clear hd
            have q0 := cell_kp hg m0 j0
            refine ⟨?_⟩
            simp only [putsFrom, Act.put, List.setIfInBounds_toArray, List.set_cons_zero, List.set_cons_succ, Nat.reduceAdd, d3, d7] at hK ⊢
            go_simp
            exact hK.out _ _ (Kp.refl _) rfl
          case sg9 =>
            intro x u hg hd K hK
            have d3 : (x 3) = .bool true := And.left hd
            clear hd
            refine ⟨?_⟩
            simp only [putsFrom, Act.put, List.setIfInBounds_toArray, List.set_cons_zero, List.set_cons_succ, Nat.reduceAdd, d3] at hK ⊢
            go_simp
            exact hK.out _ _ (Kp.refl _) rfl
          case sg10 =>
            intro x u hg hd K hK
            have d3 : (x 3) = .bool true := And.left hd
            have d9 : (x 9) = .pointer (some ⟨n1, 2, none⟩) := And.left (And.right hd)
            clear hd
            have q0 := cell_kp hg m1 i2
            refine ⟨?_⟩
            simp only [putsFrom, Act.put, List.setIfInBounds_toArray, List.set_cons_zero, List.set_cons_succ, Nat.reduceAdd, d3, d9] at hK ⊢
            go_simp
            exact hK.out _ _ (Kp.refl _) rfl
          case sg11 =>
            intro x u hg hd K hK
            have d3 : (x 3) = .bool true := And.left hd
            have d8 : (x 8) = .slice (some ⟨fb, fo, none⟩) c.funcs.length cf := And.left (And.right hd)
            have d10 : (x 10) = .int .i64 jb := And.left (And.right (And.right hd))
            clear hd
            refine ⟨?_⟩
            simp only [putsFrom, Act.put, List.setIfInBounds_toArray, List.set_cons_zero, List.set_cons_succ, Nat.reduceAdd, d3, d8, d10] at hK ⊢
            go_simp
            exact hK.out _ _ (Kp.refl _) rfl
          case sg12 =>
            intro x u hg hd K hK
            have d3 : (x 3) = .bool true := And.left hd
            have d11 : (x 11) = .pointer (some ⟨fb, fo + jb * 5, none⟩) := And.left (And.right hd)
            clear hd
            refine ⟨?_⟩
            simp only [putsFrom, Act.put, List.setIfInBounds_toArray, List.set_cons_zero, List.set_cons_succ, Nat.reduceAdd, d3, d11] at hK ⊢
            go_simp
            exact hK.out _ _ (Kp.refl _) rfl
          case sg13 =>
            intro x u hg hd K hK
            have d3 : (x 3) = .bool true := And.left hd
            have d12 : (x 12) = .pointer (some ⟨fb, fo + jb * 5 + 3, none⟩) := And.left (And.right hd)
            clear hd
            have q0 := cell_kp hg hfl q3
            refine ⟨?_⟩
            simp only [putsFrom, Act.put, List.setIfInBounds_toArray, List.set_cons_zero, List.set_cons_succ, Nat.reduceAdd, d3, d12] at hK ⊢
            go_simp
            exact hK.out _ _ (Kp.refl _) rfl
          case sg14 =>
            intro x u hg hd K hK
            have d3 : (x 3) = .bool true := And.left hd
            have d5 : (x 5) = .int .i64 i.d := And.left (And.right hd)
            have d13 : (x 13) = .int .i64 g.caps := And.left (And.right (And.right hd))
            clear hd
            refine ⟨?_⟩
            simp only [putsFrom, Act.put, List.setIfInBounds_toArray, List.set_cons_zero, List.set_cons_succ, Nat.reduceAdd, d3, d5, d13] at hK ⊢
            go_simp
            exact hK.out _ _ (Kp.refl _) rfl
          case sg15 =>
            intro x u hg hd K hK
            have d3 : (x 3) = .bool true := And.left hd
            have d14 : (x 14) = .bool false := And.left (And.right hd)
            clear hd
            refine ⟨?_⟩
            simp only [putsFrom, Act.put, List.setIfInBounds_toArray, List.set_cons_zero, List.set_cons_succ, Nat.reduceAdd, d3, d14] at hK ⊢
            go_simp
            exact hK.out _ _ (Kp.refl _) rfl
          intro x u hg he
          have d0 : (x 0) = .pointer (some ⟨n1, 0, none⟩) := And.left he
          have d1 : (x 1) = .int .i64 i.op := And.left (And.right he)
          have d2 : (x 2) = .bool true := And.left (And.right (And.right he))
          have d3 : (x 3) = .bool true := And.left (And.right (And.right (And.right he)))
          have d4 : (x 4) = .pointer (some ⟨n1, 4, none⟩) := And.left (And.right (And.right (And.right (And.right he))))
          have d5 : (x 5) = .int .i64 i.d := And.left (And.right (And.right (And.right (And.right (And.right he)))))
          have d6 : (x 6) = .pointer (some ⟨n0, 0, none⟩) := And.left (And.right (And.right (And.right (And.right (And.right (And.right he))))))
          have d7 : (x 7) = .pointer (some ⟨n0, 0, none⟩) := And.left (And.right (And.right (And.right (And.right (And.right (And.right (And.right he)))))))
          have d8 : (x 8) = .slice (some ⟨fb, fo, none⟩) c.funcs.length cf := And.left (And.right (And.right (And.right (And.right (And.right (And.right (And.right (And.right he))))))))
          have d9 : (x 9) = .pointer (some ⟨n1, 2, none⟩) := And.left (And.right (And.right (And.right (And.right (And.right (And.right (And.right (And.right (And.right he)))))))))
          have d10 : (x 10) = .int .i64 jb := And.left (And.right (And.right (And.right (And.right (And.right (And.right (And.right (And.right (And.right (And.right he))))))))))
          have d11 : (x 11) = .pointer (some ⟨fb, fo + jb * 5, none⟩) := And.left (And.right (And.right (And.right (And.right (And.right (And.right (And.right (And.right (And.right (And.right (And.right he)))))))))))
          have d12 : (x 12) = .pointer (some ⟨fb, fo + jb * 5 + 3, none⟩) := And.left (And.right (And.right (And.right (And.right (And.right (And.right (And.right (And.right (And.right (And.right (And.right (And.right he))))))))))))
          have d13 : (x 13) = .int .i64 g.caps := And.left (And.right (And.right (And.right (And.right (And.right (And.right (And.right (And.right (And.right (And.right (And.right (And.right (And.right he)))))))))))))
          have d14 : (x 14) = .bool false := And.left (And.right (And.right (And.right (And.right (And.right (And.right (And.right (And.right (And.right (And.right (And.right (And.right (And.right (And.right he))))))))))))))
          have d15 : (x 15) = .bool false := And.left (And.right (And.right (And.right (And.right (And.right (And.right (And.right (And.right (And.right (And.right (And.right (And.right (And.right (And.right (And.right he)))))))))))))))
          clear he
          refine ⟨?_⟩
          simp only [putsFrom, Act.put, List.setIfInBounds_toArray, List.set_cons_zero, List.set_cons_succ, Nat.reduceAdd, d0, d1, d2, d3, d4, d5, d6, d7, d8, d9, d10, d11, d12, d13, d14, d15]
          clear d0 d1 d2 d3 d4 d5 d6 d7 d8 d9 d10 d11 d12 d13 d14 d15
          have HKG := hid hg
          clear hg
          go_wp2
          go_ret
          exact ⟨ret_int HRET.out.symm, HK3.out.trans (HKR.out.trans HKG.out)⟩
        · have tn : (i.d != g.caps) = true := by simpa using hd
          have HRET := hid (show insM c f i = 14 by rw [hR, if_pos ⟨h21, hd⟩])
          clear hR h21 hd
          go_upto_region 16 with fail
          refine wp_region_kp [[], [0], [1], [2], [3], [3, 4], [3], [3, 6], [3, 7], [3], [3, 9], [3, 8, 10], [3, 11], [3, 12], [3, 5, 13], [3, 14]] (fun u => Kp wr u)
            [fun (y : Value) (u : World) => y = (.pointer (some ⟨n1, 0, none⟩) : Value),
             fun (y : Value) (u : World) => y = (.int .i64 i.op : Value),
             fun (y : Value) (u : World) => y = (.bool true : Value),
             fun (y : Value) (u : World) => y = (.bool true : Value),
             fun (y : Value) (u : World) => y = (.pointer (some ⟨n1, 4, none⟩) : Value),
             fun (y : Value) (u : World) => y = (.int .i64 i.d : Value),
             fun (y : Value) (u : World) => y = (.pointer (some ⟨n0, 0, none⟩) : Value),
             fun (y : Value) (u : World) => y = (.pointer (some ⟨n0, 0, none⟩) : Value),
             fun (y : Value) (u : World) => y = (.slice (some ⟨fb, fo, none⟩) c.funcs.length cf : Value),
             fun (y : Value) (u : World) => y = (.pointer (some ⟨n1, 2, none⟩) : Value),
             fun (y : Value) (u : World) => y = (.int .i64 jb : Value),
             fun (y : Value) (u : World) => y = (.pointer (some ⟨fb, fo + jb * 5, none⟩) : Value),
             fun (y : Value) (u : World) => y = (.pointer (some ⟨fb, fo + jb * 5 + 3, none⟩) : Value),
             fun (y : Value) (u : World) => y = (.int .i64 g.caps : Value),
             fun (y : Value) (u : World) => y = (.bool true : Value),
             fun (y : Value) (u : World) => y = (.bool true : Value)]
            (by kernel_rfl) (by kernel_rfl) (by kernel_rfl) (by kernel_rfl) ((Kp.refl _).drew) (fun _ _ hk h => h.trans hk) ⟨fun _ _ _ _ h => h, fun _ _ _ _ h => h, fun _ _ _ _ h => h, fun _ _ _ _ h => h, fun _ _ _ _ h => h, fun _ _ _ _ h => h, fun _ _ _ _ h => h, fun _ _ _ _ h => h, fun _ _ _ _ h => h, fun _ _ _ _ h => h, fun _ _ _ _ h => h, fun _ _ _ _ h => h, fun _ _ _ _ h => h, fun _ _ _ _ h => h, fun _ _ _ _ h => h, fun _ _ _ _ h => h, trivial⟩ ⟨?sh0, ?sh1, ?sh2, ?sh3, ?sh4, ?sh5, ?sh6, ?sh7, ?sh8, ?sh9, ?sh10, ?sh11, ?sh12, ?sh13, ?sh14, ?sh15, trivial⟩ ?hEh
          case sh0 =>
            intro x u hg hd K hK
            clear hd
            refine ⟨?_⟩
            simp only [putsFrom, Act.put, List.setIfInBounds_toArray, List.set_cons_zero, List.set_cons_succ, Nat.reduceAdd] at hK ⊢
            go_simp
            exact hK.out _ _ (Kp.refl _) rfl
          case sh1 =>
            intro x u hg hd K hK
            have d0 : (x 0) = .pointer (some ⟨n1, 0, none⟩) := And.left hd
            clear hd
            have q0 := cell_kp hg m1 i0
            refine ⟨?_⟩
            simp only [putsFrom, Act.put, List.setIfInBounds_toArray, List.set_cons_zero, List.set_cons_succ, Nat.reduceAdd, d0] at hK ⊢
            go_simp
            exact hK.out _ _ (Kp.refl _) rfl
          case sh2 =>
            intro x u hg hd K hK
            have d1 : (x 1) = .int .i64 i.op := And.left hd
            clear hd
            refine ⟨?_⟩
            simp only [putsFrom, Act.put, List.setIfInBounds_toArray, List.set_cons_zero, List.set_cons_succ, Nat.reduceAdd, d1] at hK ⊢
            go_simp
            exact hK.out _ _ (Kp.refl _) rfl
          case sh3 =>
            intro x u hg hd K hK
            have d2 : (x 2) = .bool true := And.left hd
            clear hd
            refine ⟨?_⟩
            simp only [putsFrom, Act.put, List.setIfInBounds_toArray, List.set_cons_zero, List.set_cons_succ, Nat.reduceAdd, d2] at hK ⊢
            go_simp
            exact hK.out _ _ (Kp.refl _) rfl
          case sh4 =>
            intro x u hg hd K hK
            have d3 : (x 3) = .bool true := And.left hd
            clear hd
            refine ⟨?_⟩
            simp only [putsFrom, Act.put, List.setIfInBounds_toArray, List.set_cons_zero, List.set_cons_succ, Nat.reduceAdd, d3] at hK ⊢
            go_simp
            exact hK.out _ _ (Kp.refl _) rfl
          case sh5 =>
            intro x u hg hd K hK
            have d3 : (x 3) = .bool true := And.left hd
            have d4 : (x 4) = .pointer (some ⟨n1, 4, none⟩) := And.left (And.right hd)
            clear hd
            have q0 := cell_kp hg m1 i4
            refine ⟨?_⟩
            simp only [putsFrom, Act.put, List.setIfInBounds_toArray, List.set_cons_zero, List.set_cons_succ, Nat.reduceAdd, d3, d4] at hK ⊢
            go_simp
            exact hK.out _ _ (Kp.refl _) rfl
          case sh6 =>
            intro x u hg hd K hK
            have d3 : (x 3) = .bool true := And.left hd
            clear hd
            refine ⟨?_⟩
            simp only [putsFrom, Act.put, List.setIfInBounds_toArray, List.set_cons_zero, List.set_cons_succ, Nat.reduceAdd, d3] at hK ⊢
            go_simp
            exact hK.out _ _ (Kp.refl _) rfl
          case sh7 =>
            intro x u hg hd K hK
            have d3 : (x 3) = .bool true := And.left hd
            have d6 : (x 6) = .pointer (some ⟨n0, 0, none⟩) := And.left (And.right hd)
            clear hd
            refine ⟨?_⟩
            simp only [putsFrom, Act.put, List.setIfInBounds_toArray, List.set_cons_zero, List.set_cons_succ, Nat.reduceAdd, d3, d6] at hK ⊢
            go_simp
            exact hK.out _ _ (Kp.refl _) rfl
          case sh8 =>
            intro x u hg hd K hK
            have d3 : (x 3) = .bool true := And.left hd
            have d7 : (x 7) = .pointer (some ⟨n0, 0, none⟩) := And.left (And.right hd)
            clear hd
            have q0 := cell_kp hg m0 j0
            refine ⟨?_⟩
            simp only [putsFrom, Act.put, List.setIfInBounds_toArray, List.set_cons_zero, List.set_cons_succ, Nat.reduceAdd, d3, d7] at hK ⊢
            go_simp
            exact hK.out _ _ (Kp.refl _) rfl
          case sh9 =>
            intro x u hg hd K hK
            have d3 : (x 3) = .bool true := And.left hd
            clear hd
            refine ⟨?_⟩
            simp only [putsFrom, Act.put, List.setIfInBounds_toArray, List.set_cons_zero, List.set_cons_succ, Nat.reduceAdd, d3] at hK ⊢
            go_simp
            exact hK.out _ _ (Kp.refl _) rfl
          case sh10 =>
            intro x u hg hd K hK
            have d3 : (x 3) = .bool true := And.left hd
            have d9 : (x 9) = .pointer (some ⟨n1, 2, none⟩) := And.left (And.right hd)
            clear hd
            have q0 := cell_kp hg m1 i2
            refine ⟨?_⟩
            simp only [putsFrom, Act.put, List.setIfInBounds_toArray, List.set_cons_zero, List.set_cons_succ, Nat.reduceAdd, d3, d9] at hK ⊢
            go_simp
            exact hK.out _ _ (Kp.refl _) rfl
          case sh11 =>
            intro x u hg hd K hK
            have d3 : (x 3) = .bool true := And.left hd
            have d8 : (x 8) = .slice (some ⟨fb, fo, none⟩) c.funcs.length cf := And.left (And.right hd)
            have d10 : (x 10) = .int .i64 jb := And.left (And.right (And.right hd))
            clear hd
            refine ⟨?_⟩
            simp only [putsFrom, Act.put, List.setIfInBounds_toArray, List.set_cons_zero, List.set_cons_succ, Nat.reduceAdd, d3, d8, d10] at hK ⊢
            go_simp
            exact hK.out _ _ (Kp.refl _) rfl
          case sh12 =>
            intro x u hg hd K hK
            have d3 : (x 3) = .bool true := And.left hd
            have d11 : (x 11) = .pointer (some ⟨fb, fo + jb * 5, none⟩) := And.left (And.right hd)
            clear hd
            refine ⟨?_⟩
            simp only [putsFrom, Act.put, List.setIfInBounds_toArray, List.set_cons_zero, List.set_cons_succ, Nat.reduceAdd, d3, d11] at hK ⊢
            go_simp
            exact hK.out _ _ (Kp.refl _) rfl
          case sh13 =>
            intro x u hg hd K hK
            have d3 : (x 3) = .bool true := And.left hd
            have d12 : (x 12) = .pointer (some ⟨fb, fo + jb * 5 + 3, none⟩) := And.left (And.right hd)
            clear hd
            have q0 := cell_kp hg hfl q3
            refine ⟨?_⟩
            simp only [putsFrom, Act.put, List.setIfInBounds_toArray, List.set_cons_zero, List.set_cons_succ, Nat.reduceAdd, d3, d12] at hK ⊢
            go_simp
            exact hK.out _ _ (Kp.refl _) rfl
          case sh14 =>
            intro x u hg hd K hK
            have d3 : (x 3) = .bool true := And.left hd
            have d5 : (x 5) = .int .i64 i.d := And.left (And.right hd)
            have d13 : (x 13) = .int .i64 g.caps := And.left (And.right (And.right hd))
            clear hd
            refine ⟨?_⟩
            simp only [putsFrom, Act.put, List.setIfInBounds_toArray, List.set_cons_zero, List.set_cons_succ, Nat.reduceAdd, d3, d5, d13] at hK ⊢
            go_simp
            exact hK.out _ _ (Kp.refl _) rfl
          case sh15 =>
            intro x u hg hd K hK
            have d3 : (x 3) = .bool true := And.left hd
            have d14 : (x 14) = .bool true := And.left (And.right hd)
            clear hd
            refine ⟨?_⟩
            simp only [putsFrom, Act.put, List.setIfInBounds_toArray, List.set_cons_zero, List.set_cons_succ, Nat.reduceAdd, d3, d14] at hK ⊢
            go_simp
            exact hK.out _ _ (Kp.refl _) rfl
          intro x u hg he
          have d0 : (x 0) = .pointer (some ⟨n1, 0, none⟩) := And.left he
          have d1 : (x 1) = .int .i64 i.op := And.left (And.right he)
          have d2 : (x 2) = .bool true := And.left (And.right (And.right he))
          have d3 : (x 3) = .bool true := And.left (And.right (And.right (And.right he)))
          have d4 : (x 4) = .pointer (some ⟨n1, 4, none⟩) := And.left (And.right (And.right (And.right (And.right he))))
          have d5 : (x 5) = .int .i64 i.d := And.left (And.right (And.right (And.right (And.right (And.right he)))))
          have d6 : (x 6) = .pointer (some ⟨n0, 0, none⟩) := And.left (And.right (And.right (And.right (And.right (And.right (And.right he))))))
          have d7 : (x 7) = .pointer (some ⟨n0, 0, none⟩) := And.left (And.right (And.right (And.right (And.right (And.right (And.right (And.right he)))))))
          have d8 : (x 8) = .slice (some ⟨fb, fo, none⟩) c.funcs.length cf := And.left (And.right (And.right (And.right (And.right (And.right (And.right (And.right (And.right he))))))))
          have d9 : (x 9) = .pointer (some ⟨n1, 2, none⟩) := And.left (And.right (And.right (And.right (And.right (And.right (And.right (And.right (And.right (And.right he)))))))))
          have d10 : (x 10) = .int .i64 jb := And.left (And.right (And.right (And.right (And.right (And.right (And.right (And.right (And.right (And.right (And.right he))))))))))
          have d11 : (x 11) = .pointer (some ⟨fb, fo + jb * 5, none⟩) := And.left (And.right (And.right (And.right (And.right (And.right (And.right (And.right (And.right (And.right (And.right (And.right he)))))))))))
          have d12 : (x 12) = .pointer (some ⟨fb, fo + jb * 5 + 3, none⟩) := And.left (And.right (And.right (And.right (And.right (And.right (And.right (And.right (And.right (And.right (And.right (And.right (And.right he))))))))))))
          have d13 : (x 13) = .int .i64 g.caps := And.left (And.right (And.right (And.right (And.right (And.right (And.right (And.right (And.right (And.right (And.right (And.right (And.right (And.right he)))))))))))))
          have d14 : (x 14) = .bool true := And.left (And.right (And.right (And.right (And.right (And.right (And.right (And.right (And.right (And.right (And.right (And.right (And.right (And.right (And.right he))))))))))))))
          have d15 : (x 15) = .bool true := And.left (And.right (And.right (And.right (And.right (And.right (And.right (And.right (And.right (And.right (And.right (And.right (And.right (And.right (And.right (And.right he)))))))))))))))
          clear he
          refine ⟨?_⟩
          simp only [putsFrom, Act.put, List.setIfInBounds_toArray, List.set_cons_zero, List.set_cons_succ, Nat.reduceAdd, d0, d1, d2, d3, d4, d5, d6, d7, d8, d9, d10, d11, d12, d13, d14, d15]
          clear d0 d1 d2 d3 d4 d5 d6 d7 d8 d9 d10 d11 d12 d13 d14 d15
          have HKG := hid hg
          clear hg
          go_wp2
          go_ret
          exact ⟨ret_int HRET.out.symm, HK3.out.trans (HKR.out.trans HKG.out)⟩
      · have t21 : (i.op == 21) = false := by rw [beq_eq_false_iff_ne]; exact h21
        have HRET := hid (show insM c f i = 0 by rw [hR, if_neg (fun h => h21 h.1)])
        clear hR h21
        go_upto_region 16 with fail
        refine wp_region_kp [[], [0], [1], [2], [3], [3, 4], [3], [3, 6], [3, 7], [3], [3, 9], [3, 8, 10], [3, 11], [3, 12], [3, 5, 13], [3, 14]] (fun u => Kp wr u)
          [fun (y : Value) (u : World) => y = (.pointer (some ⟨n1, 0, none⟩) : Value),
           fun (y : Value) (u : World) => y = (.int .i64 i.op : Value),
           fun (y : Value) (u : World) => y = (.bool false : Value),
           fun (y : Value) (u : World) => y = (.bool false : Value),
           fun (y : Value) (u : World) => y = (undef : Value),
           fun (y : Value) (u : World) => y = (undef : Value),
           fun (y : Value) (u : World) => y = (undef : Value),
           fun (y : Value) (u : World) => y = (undef : Value),
           fun (y : Value) (u : World) => y = (undef : Value),
           fun (y : Value) (u : World) => y = (undef : Value),
           fun (y : Value) (u : World) => y = (undef : Value),
           fun (y : Value) (u : World) => y = (undef : Value),
           fun (y : Value) (u : World) => y = (undef : Value),
           fun (y : Value) (u : World) => y = (undef : Value),
           fun (y : Value) (u : World) => y = (undef : Value),
           fun (y : Value) (u : World) => y = (.bool false : Value)]
          (by kernel_rfl) (by kernel_rfl) (by kernel_rfl) (by kernel_rfl) ((Kp.refl _).drew) (fun _ _ hk h => h.trans hk) ⟨fun _ _ _ _ h => h, fun _ _ _ _ h => h, fun _ _ _ _ h => h, fun _ _ _ _ h => h, fun _ _ _ _ h => h, fun _ _ _ _ h => h, fun _ _ _ _ h => h, fun _ _ _ _ h => h, fun _ _ _ _ h => h, fun _ _ _ _ h => h, fun _ _ _ _ h => h, fun _ _ _ _ h => h, fun _ _ _ _ h => h, fun _ _ _ _ h => h, fun _ _ _ _ h => h, fun _ _ _ _ h => h, trivial⟩ ⟨?si0, ?si1, ?si2, ?si3, ?si4, ?si5, ?si6, ?si7, ?si8, ?si9, ?si10, ?si11, ?si12, ?si13, ?si14, ?si15, trivial⟩ ?hEi
        case si0 =>
          intro x u hg hd K hK
          clear hd
          refine ⟨?_⟩
          simp only [putsFrom, Act.put, List.setIfInBounds_toArray, List.set_cons_zero, List.set_cons_succ, Nat.reduceAdd] at hK ⊢
          go_simp
          exact hK.out _ _ (Kp.refl _) rfl
        case si1 =>
          intro x u hg hd K hK
          have d0 : (x 0) = .pointer (some ⟨n1, 0, none⟩) := And.left hd
          clear hd
          have q0 := cell_kp hg m1 i0
          refine ⟨?_⟩
          simp only [putsFrom, Act.put, List.setIfInBounds_toArray, List.set_cons_zero, List.set_cons_succ, Nat.reduceAdd, d0] at hK ⊢
          go_simp
          exact hK.out _ _ (Kp.refl _) rfl
        case si2 =>
          intro x u hg hd K hK
          have d1 : (x 1) = .int .i64 i.op := And.left hd
          clear hd
          refine ⟨?_⟩
          simp only [putsFrom, Act.put, List.setIfInBounds_toArray, List.set_cons_zero, List.set_cons_succ, Nat.reduceAdd, d1] at hK ⊢
          go_simp
          exact hK.out _ _ (Kp.refl _) rfl
        case si3 =>
          intro x u hg hd K hK
          have d2 : (x 2) = .bool false := And.left hd
          clear hd
          refine ⟨?_⟩
          simp only [putsFrom, Act.put, List.setIfInBounds_toArray, List.set_cons_zero, List.set_cons_succ, Nat.reduceAdd, d2] at hK ⊢
          go_simp
          exact hK.out _ _ (Kp.refl _) rfl
        case si4 =>
          intro x u hg hd K hK
          have d3 : (x 3) = .bool false := And.left hd
          clear hd
          refine ⟨?_⟩
          simp only [putsFrom, Act.put, List.setIfInBounds_toArray, List.set_cons_zero, List.set_cons_succ, Nat.reduceAdd, d3] at hK ⊢
          go_simp
          exact hK.out _ _ (Kp.refl _) rfl
        case si5 =>
          intro x u hg hd K hK
          have d3 : (x 3) = .bool false := And.left hd
          have d4 : (x 4) = undef := And.left (And.right hd)
          clear hd
          refine ⟨?_⟩
          simp only [putsFrom, Act.put, List.setIfInBounds_toArray, List.set_cons_zero, List.set_cons_succ, Nat.reduceAdd, d3, d4] at hK ⊢
          go_simp
          exact hK.out _ _ (Kp.refl _) rfl
        case si6 =>
          intro x u hg hd K hK
          have d3 : (x 3) = .bool false := And.left hd
          clear hd
          refine ⟨?_⟩
          simp only [putsFrom, Act.put, List.setIfInBounds_toArray, List.set_cons_zero, List.set_cons_succ, Nat.reduceAdd, d3] at hK ⊢
          go_simp
          exact hK.out _ _ (Kp.refl _) rfl
        case si7 =>
          intro x u hg hd K hK
          have d3 : (x 3) = .bool false := And.left hd
          have d6 : (x 6) = undef := And.left (And.right hd)
          clear hd
          refine ⟨?_⟩
          simp only [putsFrom, Act.put, List.setIfInBounds_toArray, List.set_cons_zero, List.set_cons_succ, Nat.reduceAdd, d3, d6] at hK ⊢
          go_simp
          exact hK.out _ _ (Kp.refl _) rfl
        case si8 =>
          intro x u hg hd K hK
          have d3 : (x 3) = .bool false := And.left hd
          have d7 : (x 7) = undef := And.left (And.right hd)
          clear hd
          refine ⟨?_⟩
          simp only [putsFrom, Act.put, List.setIfInBounds_toArray, List.set_cons_zero, List.set_cons_succ, Nat.reduceAdd, d3, d7] at hK ⊢
          go_simp
          exact hK.out _ _ (Kp.refl _) rfl
        case si9 =>
          intro x u hg hd K hK
          have d3 : (x 3) = .bool false := And.left hd
          clear hd
          refine ⟨?_⟩
          simp only [putsFrom, Act.put, List.setIfInBounds_toArray, List.set_cons_zero, List.set_cons_succ, Nat.reduceAdd, d3] at hK ⊢
          go_simp
          exact hK.out _ _ (Kp.refl _) rfl
        case si10 =>
          intro x u hg hd K hK
          have d3 : (x 3) = .bool false := And.left hd
          have d9 : (x 9) = undef := And.left (And.right hd)
          clear hd
          refine ⟨?_⟩
          simp only [putsFrom, Act.put, List.setIfInBounds_toArray, List.set_cons_zero, List.set_cons_succ, Nat.reduceAdd, d3, d9] at hK ⊢
          go_simp
          exact hK.out _ _ (Kp.refl _) rfl
        case si11 =>
          intro x u hg hd K hK
          have d3 : (x 3) = .bool false := And.left hd
          have d8 : (x 8) = undef := And.left (And.right hd)
          have d10 : (x 10) = undef := And.left (And.right (And.right hd))
          clear hd
          refine ⟨?_⟩
          simp only [putsFrom, Act.put, List.setIfInBounds_toArray, List.set_cons_zero, List.set_cons_succ, Nat.reduceAdd, d3, d8, d10] at hK ⊢
          go_simp
          exact hK.out _ _ (Kp.refl _) rfl
        case si12 =>
          intro x u hg hd K hK
          have d3 : (x 3) = .bool false := And.left hd
          have d11 : (x 11) = undef := And.left (And.right hd)
          clear hd
          refine ⟨?_⟩
          simp only [putsFrom, Act.put, List.setIfInBounds_toArray, List.set_cons_zero, List.set_cons_succ, Nat.reduceAdd, d3, d11] at hK ⊢
          go_simp
          exact hK.out _ _ (Kp.refl _) rfl
        case si13 =>
          intro x u hg hd K hK
          have d3 : (x 3) = .bool false := And.left hd
          have d12 : (x 12) = undef := And.left (And.right hd)
          clear hd
          refine ⟨?_⟩
          simp only [putsFrom, Act.put, List.setIfInBounds_toArray, List.set_cons_zero, List.set_cons_succ, Nat.reduceAdd, d3, d12] at hK ⊢
          go_simp
          exact hK.out _ _ (Kp.refl _) rfl
        case si14 =>
          intro x u hg hd K hK
          have d3 : (x 3) = .bool false := And.left hd
          have d5 : (x 5) = undef := And.left (And.right hd)
          have d13 : (x 13) = undef := And.left (And.right (And.right hd))
          clear hd
          refine ⟨?_⟩
          simp only [putsFrom, Act.put, List.setIfInBounds_toArray, List.set_cons_zero, List.set_cons_succ, Nat.reduceAdd, d3, d5, d13] at hK ⊢
          go_simp
          exact hK.out _ _ (Kp.refl _) rfl
        case si15 =>
          intro x u hg hd K hK
          have d3 : (x 3) = .bool false := And.left hd
          have d14 : (x 14) = undef := And.left (And.right hd)
          clear hd
          refine ⟨?_⟩
          simp only [putsFrom, Act.put, List.setIfInBounds_toArray, List.set_cons_zero, List.set_cons_succ, Nat.reduceAdd, d3, d14] at hK ⊢
          go_simp
          exact hK.out _ _ (Kp.refl _) rfl
        intro x u hg he
        have d0 : (x 0) = .pointer (some ⟨n1, 0, none⟩) := And.left he
        have d1 : (x 1) = .int .i64 i.op := And.left (And.right he)
        have d2 : (x 2) = .bool false := And.left (And.right (And.right he))
        have d3 : (x 3) = .bool false := And.left (And.right (And.right (And.right he)))
        have d4 : (x 4) = undef := And.left (And.right (And.right (And.right (And.right he))))
        have d5 : (x 5) = undef := And.left (And.right (And.right (And.right (And.right (And.right he)))))
        have d6 : (x 6) = undef := And.left (And.right (And.right (And.right (And.right (And.right (And.right he))))))
        have d7 : (x 7) = undef := And.left (And.right (And.right (And.right (And.right (And.right (And.right (And.right he)))))))
        have d8 : (x 8) = undef := And.left (And.right (And.right (And.right (And.right (And.right (And.right (And.right (And.right he))))))))
        have d9 : (x 9) = undef := And.left (And.right (And.right (And.right (And.right (And.right (And.right (And.right (And.right (And.right he)))))))))
        have d10 : (x 10) = undef := And.left (And.right (And.right (And.right (And.right (And.right (And.right (And.right (And.right (And.right (And.right he))))))))))
        have d11 : (x 11) = undef := And.left (And.right (And.right (And.right (And.right (And.right (And.right (And.right (And.right (And.right (And.right (And.right he)))))))))))
        have d12 : (x 12) = undef := And.left (And.right (And.right (And.right (And.right (And.right (And.right (And.right (And.right (And.right (And.right (And.right (And.right he))))))))))))
        have d13 : (x 13) = undef := And.left (And.right (And.right (And.right (And.right (And.right (And.right (And.right (And.right (And.right (And.right (And.right (And.right (And.right he)))))))))))))
        have d14 : (x 14) = undef := And.left (And.right (And.right (And.right (And.right (And.right (And.right (And.right (And.right (And.right (And.right (And.right (And.right (And.right (And.right he))))))))))))))
        have d15 : (x 15) = .bool false := And.left (And.right (And.right (And.right (And.right (And.right (And.right (And.right (And.right (And.right (And.right (And.right (And.right (And.right (And.right (And.right he)))))))))))))))
        clear he
        refine ⟨?_⟩
        simp only [putsFrom, Act.put, List.setIfInBounds_toArray, List.set_cons_zero, List.set_cons_succ, Nat.reduceAdd, d0, d1, d2, d3, d4, d5, d6, d7, d8, d9, d10, d11, d12, d13, d14, d15]
        clear d0 d1 d2 d3 d4 d5 d6 d7 d8 d9 d10 d11 d12 d13 d14 d15
        have HKG := hid hg
        clear hg
        go_wp2
        go_ret
        exact ⟨ret_int HRET.out.symm, HK3.out.trans (HKR.out.trans HKG.out)⟩
end Go.Proofs.Ytgonekmmbeedeaa
