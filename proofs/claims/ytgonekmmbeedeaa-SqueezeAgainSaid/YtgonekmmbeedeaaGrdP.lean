/-
  Package guard, plainly; what squeezing leaves of it: a sound code stays sound, a guarded one guarded. No condition.
-/
import Derived.Test.YtgonekmmbeedeaaGrn
import Derived.Test.YtgonekmmbeedeaaSqz
namespace Go.Proofs.Ytgonekmmbeedeaa.Sq
open Go.RowKit
set_option linter.unusedVariables false
set_option linter.unusedSimpArgs false

/-! ### squeezing leaves a code sound -/
/-- An instruction and the same with another target. -/
def Twin (i j : InsM) : Prop := ∃ f : Int → Int, j = reM f i
theorem Twin.refl (i : InsM) : Twin i i := ⟨fun t => t, (re_id fun _ _ => rfl).symm⟩
theorem Twin.trans {a b c : InsM} (h : Twin a b) (k : Twin b c) : Twin a c := by
  obtain ⟨f, rfl⟩ := h
  obtain ⟨g, rfl⟩ := k
  exact ⟨_, re_re f g a⟩
/-- Each instruction of m is a twin of one of l. -/
def Twins (l m : List InsM) : Prop := ∀ j ∈ m, ∃ i ∈ l, Twin i j
theorem Twins.trans {a b c : List InsM} (h : Twins a b) (k : Twins b c) : Twins a c := fun x hx => by
  obtain ⟨y, hy, h1⟩ := k x hx
  obtain ⟨z, hz, h2⟩ := h y hy
  exact ⟨z, hz, h2.trans h1⟩
theorem twins_thread (l : List InsM) : Twins l (threadM l) := fun j hj => by
  obtain ⟨i, hi, rfl⟩ := List.mem_map.1 hj
  exact ⟨i, hi, _, rfl⟩
theorem twins_keep {l : List InsM} {s : List Bool} (hs : s.length = l.length) : Twins l (keepM l s) := fun j hj => by
  obtain ⟨q, hq⟩ := List.getElem?_of_mem hj
  obtain ⟨p, i, h1, _, _, rfl⟩ := keep_from hs hq
  exact ⟨i, List.mem_of_getElem? h1, _, rfl⟩
theorem twins_once (l : List InsM) : Twins l (onceM l) := ((twins_thread l).trans (twins_keep (live_len _))).trans (twins_keep (stay_len _))
theorem twins_fix {l : List InsM} (h : GoodL l) : Twins l (fixM l) := (fix_rec (P := fun m => Twins l m) (fun m _ hm => hm.trans (twins_once m)) _ l (Nat.le_refl _) h (fun j hj => ⟨j, hj, Twin.refl j⟩)).1
theorem re_fields {f : Int → Int} {i : InsM} (h : targetM i = none) : reM f i = i := by unfold reM; rw [h]
/-- A field's kind that is no place does not ask how many instructions there are. -/
theorem field_same {c c' : CodeM} {f f' : FnM} (h1 : f'.slots = f.slots) (h2 : f'.caps = f.caps) (h3 : c'.texts = c.texts) (h4 : c'.funcs.length = c.funcs.length) (h5 : ∀ n, capsAt c' n = capsAt c n) (kind : UInt8) (hk : kind ≠ 116) (n next : Int) : fieldM c' f' kind n next = fieldM c f kind n next := by
  unfold fieldM
  rw [h1, h2, h3, h4, h5, if_neg hk, if_neg hk]
theorem tab_t0 : ∀ k ∈ List.range 42, (k = 25 ∨ k = 26 ∨ k = 36 ∨ k = 40 ∨ k = 27 ∨ k = 38) ∨ ∀ x ∈ (fieldTab[k]?).getD [], x ≠ 116 := by decide
theorem tab_t (k : Nat) (hk : k < 42) (h1 : k ≠ 25) (h2 : k ≠ 26) (h3 : k ≠ 36) (h4 : k ≠ 40) (h5 : k ≠ 27) (h6 : k ≠ 38) : ∀ x ∈ (fieldTab[k]?).getD [], x ≠ 116 := by
  rcases tab_t0 k (List.mem_range.2 hk) with h | h
  · omega
  · exact h
theorem ctab_t : ∀ l ∈ checkTab, ∀ x ∈ l, x ≠ 116 := by decide
theorem form_t {i : InsM} (h : targetM i = none) (k : Nat) : (formM i).getD k 0 ≠ 116 := by
  have ha : ¬ isA i := fun h' => by unfold targetM at h; rw [if_pos h'] at h; cases h
  have hb : ¬ isB i := fun h' => by unfold targetM at h; rw [if_neg ha, if_pos h'] at h; cases h
  have key : ∀ l : List UInt8, (∀ x ∈ l, x ≠ 116) → l.getD k 0 ≠ 116 := fun l hl => by
    rw [List.getD_eq_getElem?_getD]
    cases hx : l[k]? with
    | none => simp
    | some x => exact hl x (List.mem_of_getElem? hx)
  apply key
  unfold formM
  split
  · split
    · intro x hx; cases hx
    · intro x hx
      rcases List.mem_append.1 hx with hx | hx
      · unfold checksM at hx
        split at hx
        · cases hq : checkTab[i.d.toNat]? with
          | none => rw [hq] at hx; cases hx
          | some l => rw [hq] at hx; exact ctab_t l (List.mem_of_getElem? hq) x hx
        · cases hx
      · simp at hx; rcases hx with rfl | rfl <;> decide
  · rename_i h24
    unfold fieldsM
    split
    · rename_i h0
      rcases Nat.lt_or_ge i.op.toNat 42 with hlt | hge
      · unfold isA at ha; unfold isB at hb
        exact tab_t _ hlt (by omega) (by omega) (by omega) (by omega) (by omega) (by omega)
      · rw [List.getElem?_eq_none (by simpa [fieldTab] using hge)]
        intro x hx; cases hx
    · intro x hx; cases hx
theorem ins_iff {c : CodeM} {f : FnM} {i : InsM} : insM c f i = 0 ↔ (formM i ≠ [] ∧ (∀ k, k < 5 → okAt c f (formM i) i k = true) ∧ ¬ (i.op = 21 ∧ i.d ≠ capsAt c i.b)) := by
  unfold insM
  by_cases h1 : formM i = []
  · rw [if_pos h1]; simp [h1]
  · rw [if_neg h1]
    by_cases h2 : ∀ k, k < 5 → okAt c f (formM i) i k = true
    · rw [if_pos h2]
      by_cases h3 : i.op = 21 ∧ i.d ≠ capsAt c i.b
      · rw [if_pos h3]; exact ⟨fun h => (by cases h), fun h => absurd h3 h.2.2⟩
      · rw [if_neg h3]; exact ⟨fun _ => ⟨h1, h2, h3⟩, fun _ => rfl⟩
    · rw [if_neg h2]; exact ⟨fun h => (by cases h), fun h => absurd h.2.1 h2⟩
theorem ins_keep {c c' : CodeM} {f f' : FnM} {i : InsM} (h1 : f'.slots = f.slots) (h2 : f'.caps = f.caps) (h3 : c'.texts = c.texts) (h4 : c'.funcs.length = c.funcs.length) (h5 : ∀ n, capsAt c' n = capsAt c n) (hi : insM c f i = 0) (g : Int → Int) (hg : ∀ t, targetM i = some t → 0 ≤ g t ∧ g t < f'.ins.length) : insM c' f' (reM g i) = 0 := by
  cases ht : targetM i with
  | none =>
    rw [re_fields ht]
    have e : ∀ k, okAt c' f' (formM i) i k = okAt c f (formM i) i k := fun k => by
      unfold okAt
      rw [field_same h1 h2 h3 h4 h5 _ (form_t ht k)]
    obtain ⟨k1, k2, k3⟩ := ins_iff.1 hi
    exact ins_iff.2 ⟨k1, fun k hk => by rw [e]; exact k2 k hk, by rw [h5]; exact k3⟩
  | some t =>
    obtain ⟨hg0, hg1⟩ := hg t ht
    have er : reM g i = aimM i (g t) := by unfold reM; rw [ht]
    rw [er]
    have hok : ∀ k, k < 5 → okAt c f (formM i) i k = true := by
      unfold insM at hi
      split at hi
      · cases hi
      · split at hi
        · assumption
        · cases hi
    unfold targetM at ht
    split at ht
    · rename_i ha
      have hb : ¬ isB i := by unfold isA at ha; unfold isB; omega
      have hop : i.op ≠ 24 ∧ i.op ≠ 21 := by unfold isA at ha; omega
      unfold aimM
      rw [if_neg hb]
      have hf : formM i = [116, 45, 45, 45, 45] := by
        unfold formM
        rw [if_neg hop.1]
        unfold isA at ha
        rcases ha with ha | ha | ha | ha <;> rw [ha] <;> rfl
      have hf' : formM { i with a := g t } = [116, 45, 45, 45, 45] := hf
      have k1 := hok 1 (by omega); have k2 := hok 2 (by omega); have k3 := hok 3 (by omega); have k4 := hok 4 (by omega)
      unfold okAt at k1 k2 k3 k4
      rw [hf] at k1 k2 k3 k4
      unfold insM
      rw [hf', if_neg (by simp), if_pos, if_neg (fun h => hop.2 h.1)]
      intro k hk
      unfold okAt
      match k, hk with
      | 0, _ => simp [fieldM, withinB, InsM.row]; omega
      | 1, _ => simpa [fieldM, InsM.row] using k1
      | 2, _ => simpa [fieldM, InsM.row] using k2
      | 3, _ => simpa [fieldM, InsM.row] using k3
      | 4, _ => simpa [fieldM, InsM.row] using k4
    · split at ht
      · rename_i ha hb
        have hop : i.op ≠ 24 ∧ i.op ≠ 21 := by unfold isB at hb; omega
        unfold aimM
        rw [if_pos hb]
        rcases hb with hb | hb
        · have hf : formM i = [115, 116, 45, 45, 45] := by unfold formM; rw [if_neg hop.1, hb]; rfl
          have hf' : formM { i with b := g t } = [115, 116, 45, 45, 45] := hf
          have k0 := hok 0 (by omega); have k2 := hok 2 (by omega); have k3 := hok 3 (by omega); have k4 := hok 4 (by omega)
          unfold okAt at k0 k2 k3 k4
          rw [hf] at k0 k2 k3 k4
          unfold insM
          rw [hf', if_neg (by simp), if_pos, if_neg (fun h => hop.2 h.1)]
          intro k hk
          unfold okAt
          match k, hk with
          | 0, _ => simpa [fieldM, InsM.row, h1] using k0
          | 1, _ => simp [fieldM, withinB, InsM.row]; omega
          | 2, _ => simpa [fieldM, InsM.row] using k2
          | 3, _ => simpa [fieldM, InsM.row] using k3
          | 4, _ => simpa [fieldM, InsM.row] using k4
        · have hf : formM i = [107, 116, 45, 45, 45] := by unfold formM; rw [if_neg hop.1, hb]; rfl
          have hf' : formM { i with b := g t } = [107, 116, 45, 45, 45] := hf
          have k0 := hok 0 (by omega); have k2 := hok 2 (by omega); have k3 := hok 3 (by omega); have k4 := hok 4 (by omega)
          unfold okAt at k0 k2 k3 k4
          rw [hf] at k0 k2 k3 k4
          unfold insM
          rw [hf', if_neg (by simp), if_pos, if_neg (fun h => hop.2 h.1)]
          intro k hk
          unfold okAt
          match k, hk with
          | 0, _ => simpa [fieldM, InsM.row] using k0
          | 1, _ => simp [fieldM, withinB, InsM.row]; omega
          | 2, _ => simpa [fieldM, InsM.row] using k2
          | 3, _ => simpa [fieldM, InsM.row] using k3
          | 4, _ => simpa [fieldM, InsM.row] using k4
      · cases ht
theorem sq_caps (c : CodeM) (n : Int) : capsAt (sqM c) n = capsAt c n := by
  unfold capsAt sqM
  rw [List.getElem?_map]
  cases c.funcs[n.toNat]? <;> rfl
theorem sq_sound {c : CodeM} (h : (soundM c).1 = 0) : soundM (sqM c) = (0, 0, 0) := by
  obtain ⟨h0, h1, h2, h3, h4, _⟩ := sound_inv h
  have hl : (sqM c).funcs.length = c.funcs.length := List.length_map ..
  refine sound_ok ?_ ?_ h3 ?_
  · intro e; rw [e] at hl; exact h0 (List.eq_nil_of_length_eq_zero hl.symm)
  · rw [hl]; show ¬ (400 < c.funcs.length ∨ 2000 < c.texts.length); omega
  · intro k g hg
    unfold sqM at hg
    rw [List.getElem?_map] at hg
    cases hf : c.funcs[k]? with
    | none => rw [hf] at hg; cases hg
    | some f =>
      rw [hf] at hg
      injection hg with hg
      subst hg
      obtain ⟨q1, q2, q3⟩ := h4 k f hf
      have hok := head_ok q1
      have hgd := sound_good hok.2.2.2.2.2.2.2.2.1 q2 q3
      have hgf := fix_good hgd
      have hle := fix_le hgd
      have hh : headM k (sqF f) = 0 := by
        have hw : withinB (sqF f).params 0 4 = true ∧ withinB (sqF f).slots (sqF f).params 3000 = true ∧ withinB (sqF f).caps 0 200 = true := by
          rw [withinB_iff, withinB_iff, withinB_iff]
          exact ⟨⟨hok.2.1, hok.2.2.1⟩, ⟨hok.2.2.2.1, hok.2.2.2.2.1⟩, hok.2.2.2.2.2.1, hok.2.2.2.2.2.2.1⟩
        unfold headM
        rw [if_neg (fun x => x hok.1), if_neg (fun x => x hw), if_neg (show ¬ (k = 0 ∧ (0 < (sqF f).params ∨ 0 < (sqF f).caps)) from hok.2.2.2.2.2.2.2.1), if_neg (show ¬ (sqF f).ins = [] from hgf.ne), if_neg (by show ¬ 20000 < (fixM f.ins).length; have := hok.2.2.2.2.2.2.2.2.2; omega)]
      have hall : ∀ (j : Nat) b, (sqF f).ins[j]? = some b → insM (sqM c) (sqF f) b = 0 := fun j b hb => by
        obtain ⟨i, hi, g, rfl⟩ := twins_fix hgd b (List.mem_of_getElem? hb)
        obtain ⟨p, hp⟩ := List.getElem?_of_mem hi
        refine ins_keep (c := c) (f := f) (c' := sqM c) (f' := sqF f) rfl rfl rfl hl (sq_caps c) (q2 p i hp) g fun t ht => ?_
        exact hgf.at_ hb (by rw [re_target, ht]; rfl)
      have hlast : lastOk (sqF f) = true := by
        obtain ⟨i, hi1, hi2⟩ := hgf.last
        unfold lastOk
        rw [show (sqF f).ins = fixM f.ins from rfl, hi1]
        exact decide_eq_true hi2
      rw [fnE_ok hh hall hlast]
theorem sq_sq {c : CodeM} (h : (soundM c).1 = 0) : sqM (sqM c) = sqM c := by
  obtain ⟨h0, h1, h2, h3, h4, _⟩ := sound_inv h
  unfold sqM
  congr 1
  rw [List.map_map]
  apply List.map_congr_left
  intro f hf
  obtain ⟨k, hk⟩ := List.getElem?_of_mem hf
  obtain ⟨q1, q2, q3⟩ := h4 k f hk
  have hgd := sound_good (head_ok q1).2.2.2.2.2.2.2.2.1 q2 q3
  show sqF (sqF f) = sqF f
  unfold sqF
  rw [fix_fix hgd]
/-! ### guarded -/
def goalP (l : List InsM) (t : Int) : Prop := ∃ i ∈ l, targetM i = some t
/-- What guard.right finds of an instruction. -/
def RightP (l : List InsM) (p : Nat) (i : InsM) : Prop :=
  (afterM i.op ≠ 0 → ∃ j, l[p + 1]? = some j ∧ j.op = afterM i.op) ∧
  ((needM i).d ≠ 0 → 2 ≤ p ∧ (∃ j, l[p - 1]? = some j ∧ j.op = 25) ∧ l[p - 2]? = some (needM i) ∧ ¬ goalP l (p : Int) ∧ ¬ goalP l ((p : Int) - 1))
def GuardF (l : List InsM) : Prop := ∀ p i, l[p]? = some i → RightP l p i
def GuardC (c : CodeM) : Prop := ∀ (k : Nat) f, c.funcs[k]? = some f → GuardF f.ins
theorem need_aim {i : InsM} (ht : targetM i ≠ none) : (needM i).d = 0 := by
  unfold targetM at ht
  unfold needM
  by_cases ha : isA i
  · unfold isA at ha
    rw [if_neg (by omega), if_neg (by omega), if_neg (by omega), if_neg (by omega), if_neg (by omega), if_neg (by omega), if_neg (by omega), if_neg (by omega), if_neg (by omega), if_neg (by omega), if_neg (by omega), if_neg (by omega)]
  · rw [if_neg ha] at ht
    by_cases hb : isB i
    · unfold isB at hb
      rw [if_neg (by omega), if_neg (by omega), if_neg (by omega), if_neg (by omega), if_neg (by omega), if_neg (by omega), if_neg (by omega), if_neg (by omega), if_neg (by omega), if_neg (by omega), if_neg (by omega), if_neg (by omega)]
    · rw [if_neg hb] at ht; exact absurd rfl ht
theorem need_re (f : Int → Int) (i : InsM) : (needM (reM f i)).d ≠ 0 → targetM i = none := fun h => by
  cases ht : targetM i with
  | none => rfl
  | some t =>
    exact absurd (need_aim (i := reM f i) (by rw [re_target, ht]; simp)) h
theorem op_ite {c : Prop} [Decidable c] {a b : InsM} (ha : a.op = 24) (hb : b.op = 24) : (if c then a else b).op = 24 := by split <;> assumption
theorem need_op (i : InsM) : (needM i).op = 24 :=
  op_ite rfl (op_ite rfl (op_ite rfl (op_ite rfl (op_ite rfl (op_ite rfl (op_ite (op_ite rfl rfl) (op_ite rfl (op_ite rfl (op_ite rfl (op_ite rfl (op_ite rfl rfl)))))))))))
theorem check_re {f : Int → Int} {n : InsM} (h : n.op = 24) : reM f n = n := by
  unfold reM targetM
  rw [if_neg (show ¬ isA n by unfold isA; omega), if_neg (show ¬ isB n by unfold isB; omega)]
theorem goal_end {l : List InsM} (h : GoodL l) {t q : Int} (ht : goalP l t) (hq : q = (endM l t.toNat : Nat)) : goalP l q := by
  -- the end of t is t, or what a jump goes to
  have key : ∀ n p q, endGo l n p = some q → (∃ t, goalP l t ∧ t = (p : Int)) → goalP l (q : Int) := by
    intro n
    induction n with
    | zero => intro p q h _; cases h
    | succ n ih =>
      intro p q h hp
      unfold endGo at h
      split at h
      · rename_i i hi
        split at h
        · rename_i ho
          have hb := h
          refine ih i.a.toNat q h ⟨i.a, ⟨i, List.mem_of_getElem? hi, jump_target ho⟩, ?_⟩
          have := (GoodL.at_ ‹GoodL l› hi (jump_target ho)).1
          omega
        · injection h with h
          subst h
          obtain ⟨t, h1, h2⟩ := hp
          rw [← h2]; exact h1
      · cases h
  have h0 : 0 ≤ t := by obtain ⟨i, hi, ht'⟩ := ht; exact (h.tg i hi t ht').1
  subst hq
  unfold endM
  cases hx : endGo l l.length t.toNat with
  | none => simp only [Option.getD_none]; rw [show ((t.toNat : Nat) : Int) = t by omega]; exact ht
  | some q => exact key _ _ _ hx ⟨t, ht, by omega⟩
theorem guard_thread {l : List InsM} (h : GoodL l) (hg : GuardF l) : GuardF (threadM l) := by
  have hgo : ∀ t, goalP (threadM l) t → goalP l t := fun t ⟨j, hj, ht⟩ => by
    obtain ⟨i, hi, rfl⟩ := List.mem_map.1 hj
    rw [re_target] at ht
    cases hx : targetM i with
    | none => rw [hx] at ht; cases ht
    | some x =>
      rw [hx] at ht
      injection ht with ht
      exact goal_end h ⟨i, hi, hx⟩ ht.symm
  intro p j hj
  rw [thread_at] at hj
  cases hi : l[p]? with
  | none => rw [hi] at hj; cases hj
  | some i =>
    rw [hi] at hj
    injection hj with hj
    subst hj
    obtain ⟨h1, h2⟩ := hg p i hi
    refine ⟨fun ha => ?_, fun hn => ?_⟩
    · rw [re_op] at ha ⊢
      obtain ⟨k, hk, hk2⟩ := h1 ha
      exact ⟨_, by rw [thread_at, hk]; rfl, by rw [re_op]; exact hk2⟩
    · have ht := need_re _ i hn
      rw [re_fields ht] at hn ⊢
      obtain ⟨q1, ⟨k, hk, hk2⟩, q3, q4, q5⟩ := h2 hn
      refine ⟨q1, ⟨_, by rw [thread_at, hk]; rfl, by rw [re_op]; exact hk2⟩, ?_, fun x => q4 (hgo _ x), fun x => q5 (hgo _ x)⟩
      rw [thread_at, q3, Option.map_some, check_re (need_op i)]
/-- A choice of what stays that leaves checks where they are. -/
structure KeepG (l : List InsM) (s : List Bool) : Prop where
  after : ∀ (p : Nat) i, l[p]? = some i → s[p]? = some true → afterM i.op ≠ 0 → s[p + 1]? = some true
  need : ∀ (p : Nat) i, l[p]? = some i → s[p]? = some true → (needM i).d ≠ 0 → s[p - 1]? = some true ∧ s[p - 2]? = some true
theorem guard_keep {l : List InsM} {s : List Bool} (h : GoodL l) (hk : KeepOk l s) (hkg : KeepG l s) (hg : GuardF l) : GuardF (keepM l s) := by
  have hs := hk.len
  intro q j hj
  obtain ⟨p, i, hp, hsp, hc, rfl⟩ := keep_from hs hj
  obtain ⟨h1, h2⟩ := hg p i hp
  have hc1 : cnt s (p + 1) = q + 1 := by rw [cnt_succ, if_pos hsp, hc]
  refine ⟨fun ha => ?_, fun hn => ?_⟩
  · rw [re_op] at ha ⊢
    obtain ⟨k, hk1, hk2⟩ := h1 ha
    have hs1 := hkg.after p i hp hsp ha
    refine ⟨_, by rw [← hc1]; exact keep_at hs hk1 hs1, by rw [re_op]; exact hk2⟩
  · have ht := need_re _ i hn
    rw [re_fields ht] at hn ⊢
    obtain ⟨q1, ⟨k, hk1, hk2⟩, q3, q4, q5⟩ := h2 hn
    obtain ⟨s1, s2⟩ := hkg.need p i hp hsp hn
    have c1 : cnt s p = cnt s (p - 1) + 1 := by
      have := cnt_succ s (p - 1)
      rw [show p - 1 + 1 = p by omega, if_pos s1] at this; exact this
    have c2 : cnt s (p - 1) = cnt s (p - 2) + 1 := by
      have := cnt_succ s (p - 2)
      rw [show p - 2 + 1 = p - 1 by omega, if_pos s2] at this; exact this
    have hgo : ∀ r : Nat, (r = p ∨ r = p - 1) → ¬ goalP l (r : Int) → ¬ goalP (keepM l s) ((cnt s r : Nat) : Int) := fun r hr hn' ⟨j, hj, hjt⟩ => by
      obtain ⟨q', hq'⟩ := List.getElem?_of_mem hj
      obtain ⟨p', i', hp', _, _, rfl⟩ := keep_from hs hq'
      rw [re_target] at hjt
      cases hx : targetM i' with
      | none => rw [hx] at hjt; cases hjt
      | some t =>
        rw [hx] at hjt
        injection hjt with hjt
        have hb := h.at_ hp' hx
        have hjt : ((cnt s t.toNat : Nat) : Int) = ((cnt s r : Nat) : Int) := hjt
        have he : cnt s t.toNat = cnt s r := by omega
        have hrt : t.toNat = r := by
          rcases Nat.lt_trichotomy t.toNat r with h1 | h1 | h1
          · exfalso
            have hprev : s[r - 1]? = some true := by
              rcases hr with rfl | rfl
              · exact s1
              · rw [show p - 1 - 1 = p - 2 by omega]; exact s2
            have := cnt_lt (s := s) (p := t.toNat) (r := r - 1) (q := r) (by omega) (by omega) hprev
            omega
          · exact h1
          · exfalso
            have hrs : s[r]? = some true := by rcases hr with rfl | rfl; exact hsp; exact s1
            have := cnt_lt (s := s) (p := r) (r := r) (q := t.toNat) (Nat.le_refl _) h1 hrs
            omega
        exact hn' ⟨i', List.mem_of_getElem? hp', by rw [hx, ← hrt]; congr 1; omega⟩
    have e1 : q - 1 = cnt s (p - 1) := by omega
    have e2 : q - 2 = cnt s (p - 2) := by omega
    refine ⟨by omega, ⟨_, by rw [e1]; exact keep_at hs hk1 s1, by rw [re_op]; exact hk2⟩, ?_, ?_, ?_⟩
    · rw [e2, keep_at hs q3 s2, check_re (need_op i)]
    · have := hgo p (.inl rfl) q4
      rw [hc] at this; exact this
    · have := hgo (p - 1) (.inr rfl) (by rw [show ((p - 1 : Nat) : Int) = (p : Int) - 1 by omega]; exact q5)
      rw [show ((cnt s (p - 1) : Nat) : Int) = (q : Int) - 1 by omega] at this; exact this
theorem not_end_next {l : List InsM} (h : GoodL l) {p : Nat} {i : InsM} (hp : l[p]? = some i) (hr : Reach l p) (he : ¬ isEnd i) : Reach l (p + 1) ∧ p + 1 < l.length :=
  ⟨hr.step hp (by unfold nextM; rw [if_neg he]; exact List.mem_append_right _ (List.mem_singleton.2 rfl)), h.mid hp he⟩
/-- What is come to but is no goal is come to from the place ahead. -/
theorem reach_pred {l : List InsM} (h : GoodL l) {p : Nat} (hr : Reach l p) (h0 : 0 < p) (hg : ¬ goalP l (p : Int)) : Reach l (p - 1) := by
  cases hr with
  | zero => omega
  | @step q _ i hq hi hm =>
    unfold nextM at hm
    rcases List.mem_append.1 hm with hm | hm
    · cases ht : targetM i with
      | none => rw [ht] at hm; cases hm
      | some t =>
        rw [ht] at hm
        have := h.at_ hi ht
        have hm := List.mem_singleton.1 hm
        exact absurd ⟨i, List.mem_of_getElem? hi, by rw [ht]; congr 1; omega⟩ hg
    · split at hm
      · cases hm
      · have := List.mem_singleton.1 hm
        rw [this, Nat.add_sub_cancel]; exact hq
theorem live_g {l : List InsM} (h : GoodL l) (hg : GuardF l) : KeepG l (liveM l) := by
  constructor
  · intro p i hp hs ha
    have hlt : p < l.length := (List.getElem?_eq_some_iff.1 hp).1
    have he : ¬ isEnd i := by unfold afterM at ha; unfold isEnd; intro he; split at ha <;> (try split at ha) <;> omega
    obtain ⟨r1, r2⟩ := not_end_next h hp ((live_at hlt).1 hs) he
    exact (live_at r2).2 r1
  · intro p i hp hs hn
    have hlt : p < l.length := (List.getElem?_eq_some_iff.1 hp).1
    obtain ⟨q1, q2, q3, q4, q5⟩ := (hg p i hp).2 hn
    have r1 := reach_pred h ((live_at hlt).1 hs) (by omega) q4
    have r2 := reach_pred h r1 (by omega) (by rw [show ((p - 1 : Nat) : Int) = (p : Int) - 1 by omega]; exact q5)
    rw [show p - 1 - 1 = p - 2 by omega] at r2
    exact ⟨(live_at (by omega)).2 r1, (live_at (by omega)).2 r2⟩
theorem stay_keep {l : List InsM} {p : Nat} {i : InsM} (hp : l[p]? = some i) (h6 : i.op ≠ 6) (h26 : i.op ≠ 26) : (stayM l)[p]? = some true := by
  rw [stay_at hp]
  have : idleM i p = false := by unfold idleM; rw [decide_eq_false_iff_not]; omega
  rw [this]; rfl
theorem stay_g {l : List InsM} (hg : GuardF l) : KeepG l (stayM l) := by
  constructor
  · intro p i hp _ ha
    obtain ⟨j, hj, hj2⟩ := (hg p i hp).1 ha
    have : j.op = 25 ∨ j.op = 40 := by rw [hj2]; unfold afterM at ha ⊢; split <;> (try split) <;> simp_all
    exact stay_keep hj (by omega) (by omega)
  · intro p i hp _ hn
    obtain ⟨q1, ⟨j, hj, hj2⟩, q3, _⟩ := (hg p i hp).2 hn
    have := need_op i
    exact ⟨stay_keep hj (by omega) (by omega), stay_keep q3 (by omega) (by omega)⟩
theorem guard_once {l : List InsM} (h : GoodL l) (hg : GuardF l) : GuardF (onceM l) := by
  have h1 := thread_good h
  have g1 := guard_thread h hg
  have h2 := keep_good (live_ok h1)
  have g2 := guard_keep h1 (live_ok h1) (live_g h1 g1) g1
  exact guard_keep h2 (stay_ok h2) (stay_g g2) g2
theorem guard_sq {c : CodeM} (h : (soundM c).1 = 0) (hg : GuardC c) : GuardC (sqM c) := by
  obtain ⟨_, _, _, _, h4, _⟩ := sound_inv h
  intro k g hk
  unfold sqM at hk
  rw [List.getElem?_map] at hk
  cases hf : c.funcs[k]? with
  | none => rw [hf] at hk; cases hk
  | some f =>
    rw [hf] at hk
    injection hk with hk
    subst hk
    obtain ⟨q1, q2, q3⟩ := h4 k f hf
    have hgd := sound_good (head_ok q1).2.2.2.2.2.2.2.2.1 q2 q3
    exact (fix_rec (P := GuardF) (fun m hm hp => guard_once hm hp) _ f.ins (Nat.le_refl _) hgd (hg k f hf)).1
end Go.Proofs.Ytgonekmmbeedeaa.Sq
