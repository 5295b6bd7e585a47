/-
  Package code: what is shown of a sound code is read as it: the plain law. No condition.
-/
import Derived.Test.YtiicdknmoakocaaDoorTkR
namespace Go.Proofs.YtiicdknmoakocaaDoor
open Go.RowKit
set_option linter.unusedVariables false
set_option linter.unusedSimpArgs false

/-! ### names -/
theorem spanB_all (p : UInt8 → Bool) : ∀ l : List UInt8, ∀ b ∈ l.take (span_ p l), p b = true
  | [], b, h => by simp [span_] at h
  | c :: r, b, h => by
    unfold span_ at h
    split at h
    · rename_i hc
      rw [List.take_succ_cons] at h
      rcases List.mem_cons.1 h with rfl | h
      · exact hc
      · exact spanB_all p r b h
    · simp at h
theorem lexB_name {l : List UInt8} {n : Nat} (h : lex l = .tok 1 n) : n = span_ wordB l := by
  cases l with
  | nil => unfold lex at h; cases h
  | cons b r =>
    unfold lex at h
    dsimp only at h
    repeat' split at h
    all_goals (first | (injection h with h1 h2; first | exact h2.symm | exact absurd h1 (by decide)) | cases h)
def KInv (l : List TokenM) : Prop := ∀ t ∈ l, t.kind = 1 → ∀ b ∈ t.text.data.toList, wordB b = true
theorem KInv.put {c c' : CutM} {k : Int} {t : ByteArray} {n : Nat} (h : KInv c.out) (hp : putM c k t n = .ok c') (ht : k = 1 → ∀ b ∈ t.data.toList, wordB b = true) : KInv c'.out := by
  obtain ⟨_, rfl⟩ := putM_ok hp
  intro x hx hk
  rcases List.mem_append.1 hx with hx | hx
  · exact h x hx hk
  · rw [List.mem_singleton] at hx; subst hx; exact ht hk
theorem KInv.lineEnd {c c' : CutM} (h : KInv c.out) (hp : lineEndM c = .ok c') : KInv c'.out := by
  rcases lineEndM_ok hp with rfl | hq
  · exact h
  · exact h.put hq (fun hk => absurd hk (by decide))
theorem KInv.step {S : ByteArray} {c c' : CutM} (h : KInv c.out) (hp : stepM S c = .ok c') : KInv c'.out := by
  unfold stepM at hp
  split at hp
  · split at hp
    · rename_i c1 h1
      injection hp with hp; subst hp
      have h2 := h.lineEnd h1
      exact h2
    · cases hp
  · injection hp with hp; subst hp; exact h
  · rename_i k n hx
    refine h.put hp (fun hk => ?_)
    subst hk
    have hn := lexB_name hx
    intro b hb
    rw [Lib.extract_eq] at hb
    have hb : b ∈ (S.data.toList.drop c.pos).take (c.pos + n - c.pos) := by simpa using hb
    rw [Nat.add_sub_cancel_left, hn] at hb
    exact spanB_all wordB _ b hb
  · cases hp
theorem KInv.runs {S : ByteArray} {c : CutM} {r : Except Err (List TokenM)} (h : Runs S c r) : KInv c.out → ∀ l, r = .ok l → KInv l := by
  induction h with
  | @fin c hl =>
    intro hi l he
    split at he
    · rename_i c1 h1
      injection he with he; subst he
      exact hi.lineEnd h1
    · cases he
  | step h1 h2 h3 ih => intro hi l he; exact ih (hi.step h2) l he
  | bad h1 h2 => intro hi l he; cases he
theorem name_bytes {s : ByteArray} (h : NamedP s) : ∀ b ∈ s.data.toList, wordB b = true := by
  rcases h with h | ⟨l, t, h1, h2, h3, h4, h5⟩
  · intro b hb
    have hz : s.data.toList.length = s.size := by rw [Array.length_toList]; rfl
    have hn : s.data.toList = [] := List.eq_nil_of_length_eq_zero (by omega)
    rw [hn] at hb; cases hb
  · unfold ToksM at h1
    split at h1
    · cases h1
    · have hk := KInv.runs h1 (fun t ht => by cases ht) l rfl
      have := hk t (List.mem_of_getElem? h3) h4
      rw [h5] at this
      exact this
theorem wordB_no {l : List UInt8} (h : ∀ b ∈ l, wordB b = true) : 10 ∉ l ∧ 32 ∉ l := by
  constructor
  · intro hm; exact absurd (h _ hm) (by decide)
  · intro hm; exact absurd (h _ hm) (by decide)
/-! ### pieces -/
theorem ixb_app : ∀ (a : List UInt8) (c : UInt8) (r : List UInt8), c ∉ a → Lib.indexByte (a ++ c :: r) c = a.length
  | [], c, r, _ => by simp [Lib.indexByte]
  | b :: a, c, r, h => by
    rw [List.mem_cons, not_or] at h
    have ih := ixb_app a c r h.2
    have hb : (b == c) = false := by rw [beq_eq_false_iff_ne]; exact fun e => h.1 e.symm
    rw [List.cons_append]
    unfold Lib.indexByte
    simp only [hb, ih]
    simp
theorem cutb_app (a r : List UInt8) (c : UInt8) (h : c ∉ a) : Lib.cut (a ++ c :: r) [c] = (a, r, true) := by
  unfold Lib.cut
  rw [Lib.index_one, ixb_app a c r h, if_pos (by omega)]
  simp
theorem mk_to (s : ByteArray) : mk s.data.toList = s := rfl
theorem mk_drop (l : List UInt8) (k : Nat) : (mk l).extract k (mk l).size = mk (l.drop k) := by
  rw [Lib.extract_eq, mk_size]
  show (⟨((l.drop k).take (l.length - k)).toArray⟩ : ByteArray) = _
  rw [List.take_of_length_le (by rw [List.length_drop]; omega)]; rfl
theorem mk_take (l : List UInt8) (k : Nat) : (mk l).extract 0 k = mk (l.take k) := by
  rw [Lib.extract_eq]
  show (⟨((l.drop 0).take (k - 0)).toArray⟩ : ByteArray) = _
  rw [List.drop_zero, Nat.sub_zero]; rfl
def flat32 (xs : List (List UInt8)) : List UInt8 := xs.flatMap fun y => 32 :: y
theorem flat_count : ∀ xs : List (List UInt8), (∀ y ∈ xs, 32 ∉ y) → (flat32 xs).count 32 = xs.length
  | [], _ => rfl
  | y :: ys, h => by
    have ih := flat_count ys (fun z hz => h z (List.mem_cons_of_mem _ hz))
    show (32 :: y ++ flat32 ys).count 32 = _
    rw [List.count_append, List.count_cons_self, List.count_eq_zero.2 (h y (List.mem_cons_self ..)), ih, List.length_cons]; omega
theorem split_flat : ∀ (xs : List (List UInt8)) (x : List UInt8), (∀ y ∈ xs, 32 ∉ y) → 32 ∉ x → Lib.splitB ⟨#[32]⟩ 0 xs.length (mk (x ++ flat32 xs)) = (x :: xs).map mk
  | [], x, _, _ => by
    show Lib.splitB ⟨#[32]⟩ 0 0 _ = _
    rw [Lib.splitB_zero]; simp [flat32]
  | y :: ys, x, h, hx => by
    have hi : Lib.indexB (mk (x ++ flat32 (y :: ys))) ⟨#[32]⟩ = x.length := by
      show Lib.index (x ++ 32 :: (y ++ flat32 ys)) [32] = _
      rw [Lib.index_one]; exact ixb_app _ _ _ hx
    show Lib.splitB ⟨#[32]⟩ 0 (ys.length + 1) _ = _
    unfold Lib.splitB
    rw [hi, if_neg (by rw [beq_iff_eq]; omega), Int.toNat_natCast, Nat.add_zero, mk_take, show (⟨#[32]⟩ : ByteArray).size = 1 from rfl, mk_drop]
    have e1 : (x ++ flat32 (y :: ys)).take x.length = x := List.take_left
    have e2 : (x ++ flat32 (y :: ys)).drop (x.length + 1) = y ++ flat32 ys := by
      rw [← List.drop_drop, List.drop_left]; rfl
    rw [e1, e2, split_flat ys y (fun z hz => h z (List.mem_cons_of_mem _ hz)) (h y (List.mem_cons_self ..))]
    rfl
theorem itoa_no (v : Int) (h : okI v) : 32 ∉ Lib.itoa v ∧ 10 ∉ Lib.itoa v := by
  have hd : ∀ u, u < 10 ^ 20 → ∀ c ∈ Lib.decDigits u, 48 ≤ c.toNat := fun u hu c hc => (dec_digit 19 u hu c hc).1
  unfold okI at h
  have key : ∀ c ∈ Lib.itoa v, c = 45 ∨ 48 ≤ c.toNat := by
    unfold Lib.itoa
    split
    · intro c hc
      rcases List.mem_cons.1 hc with rfl | hc
      · exact .inl rfl
      · exact .inr (hd _ (by omega) c hc)
    · exact fun c hc => .inr (hd _ (by omega) c hc)
  constructor
  · intro hm; rcases key _ hm with h | h
    · cases h
    · exact absurd h (by decide)
  · intro hm; rcases key _ hm with h | h
    · cases h
    · exact absurd h (by decide)
theorem numsB_flat (l : List Int) : numsB l = flat32 (l.map Lib.itoa) := by unfold numsB flat32; rw [List.flatMap_map]
theorem numsL_itoa : ∀ l : List Int, (∀ x ∈ l, okI x) → numsL ((l.map Lib.itoa).map mk) = some l
  | [], _ => rfl
  | x :: l, h => by
    rw [List.map_cons, List.map_cons, numsL, show (mk (Lib.itoa x)).data.toList = Lib.itoa x from rfl, readO_itoa x (h x (List.mem_cons_self ..)), numsL_itoa l (fun y hy => h y (List.mem_cons_of_mem _ hy))]
    rfl
theorem numsM_shown (l : List Int) (h : ∀ x ∈ l, okI x) : numsM l.length (mk (numsB l)) = some l := by
  have h32 : ∀ y ∈ l.map Lib.itoa, 32 ∉ y := by
    intro y hy
    obtain ⟨x, hx, rfl⟩ := List.mem_map.1 hy
    exact (itoa_no x (h x hx)).1
  have hp : pieces (mk (numsB l)) = ([] :: l.map Lib.itoa).map mk := by
    unfold pieces
    have hc : Lib.countB (mk (numsB l)) ⟨#[32]⟩ = (l.map Lib.itoa).length := by
      show Lib.count (numsB l) [32] = _
      rw [Lib.count_one, numsB_flat, flat_count _ h32]
    rw [hc, numsB_flat]
    exact split_flat (l.map Lib.itoa) [] h32 (by simp)
  unfold numsM
  rw [hp]
  show (if ((l.map Lib.itoa).map mk).length = l.length ∧ _ then _ else _) = _
  rw [if_pos ⟨by simp, rfl⟩, numsL_itoa l h]
theorem nums_no (l : List Int) (h : ∀ x ∈ l, okI x) : 10 ∉ numsB l := by
  intro hm
  unfold numsB at hm
  obtain ⟨x, hx, hm⟩ := List.mem_flatMap.1 hm
  rcases List.mem_cons.1 hm with h1 | h1
  · cases h1
  · exact (itoa_no x (h x hx)).2 h1
/-! ### lines -/
theorem lines_step {n : Nat} {c c' : CodeM} {line rest : List UInt8} (h : 10 ∉ line) (ht : takeM c (mk line) = some c') : linesM (n + 1) c (line ++ 10 :: rest) = linesM n c' rest := by
  rw [linesM, if_neg (by simp), cutb_app line rest 10 h]
  simp only [if_true, ht]
theorem lines_mono : ∀ (n m : Nat) (c x : CodeM) (s : List UInt8), linesM n c s = some x → n ≤ m → linesM m c s = some x
  | 0, m, c, x, s, h, _ => by rw [linesM] at h; cases h
  | n + 1, 0, c, x, s, h, hm => by omega
  | n + 1, m + 1, c, x, s, h, hm => by
    rw [linesM] at h ⊢
    split at h
    · rename_i h0; rw [if_pos h0]; exact h
    · rename_i h0
      rw [if_neg h0]
      split at h
      · rename_i h1
        rw [if_pos h1]
        split at h
        · rename_i c' hc
          exact lines_mono n m c' x _ h (by omega)
        · cases h
      · cases h
theorem esc_no : ∀ (l : List UInt8), 10 ∉ escs l := by
  intro l hm
  unfold escs at hm
  obtain ⟨c, _, hm⟩ := List.mem_flatMap.1 hm
  rcases esc_cases c with ⟨rfl, he⟩ | ⟨rfl, he⟩ | ⟨rfl, he⟩ | ⟨rfl, he⟩ | ⟨_, r1, r2, he⟩ | ⟨_, r, he⟩
  · rw [he] at hm; exact absurd hm (by decide)
  · rw [he] at hm; exact absurd hm (by decide)
  · rw [he] at hm; exact absurd hm (by decide)
  · rw [he] at hm; exact absurd hm (by decide)
  · rw [he] at hm
    have : (10 : UInt8) = c := by simpa using hm
    subst this
    exact absurd r1 (by decide)
  · rw [he] at hm; cases hm
theorem take_textLn (ts : List ByteArray) (t : ByteArray) (h : textE t = 0) : takeM ⟨[], ts⟩ (mk (textP ++ (34 :: (escs t.data.toList ++ [34])))) = some ⟨[], ts ++ [t]⟩ := by
  rcases textE_cases t with ⟨_, h1, h2⟩ | ⟨h1, _⟩
  · have hz : t.data.toList.length = t.size := by rw [Array.length_toList]; rfl
    unfold takeM
    rw [show (mk (textP ++ (34 :: (escs t.data.toList ++ [34])))).data.toList = textP ++ (34 :: (escs t.data.toList ++ [34])) from rfl]
    rw [if_pos (by rw [List.isPrefixOf_iff_prefix]; exact List.prefix_append _ _), show (5 : Nat) = textP.length from rfl, List.drop_left]
    unfold takeT
    rw [show mk (34 :: (escs t.data.toList ++ [34])) = ⟨(34 :: (escs t.data.toList ++ [34])).toArray⟩ from rfl, unqO_mk (unq_escs _ h2) (by omega)]
    rfl
  · rw [h] at h1; cases h1
theorem lines_texts : ∀ (ts : List ByteArray) (done : List ByteArray) (rest : List UInt8) (n : Nat), (∀ t ∈ ts, textE t = 0) → linesM (n + ts.length) ⟨[], done⟩ (ts.flatMap textLn ++ rest) = linesM n ⟨[], done ++ ts⟩ rest
  | [], done, rest, n, _ => by simp
  | t :: ts, done, rest, n, h => by
    have hno : 10 ∉ textP ++ (34 :: (escs t.data.toList ++ [34])) := by
      intro hm
      rcases List.mem_append.1 hm with hm | hm
      · exact absurd hm (by decide)
      · rcases List.mem_cons.1 hm with hm | hm
        · cases hm
        · rcases List.mem_append.1 hm with hm | hm
          · exact esc_no _ hm
          · exact absurd hm (by decide)
    have e : (t :: ts).flatMap textLn ++ rest = (textP ++ (34 :: (escs t.data.toList ++ [34]))) ++ 10 :: (ts.flatMap textLn ++ rest) := by
      rw [List.flatMap_cons]; unfold textLn; simp
    rw [e, List.length_cons, ← Nat.add_assoc, lines_step hno (take_textLn done t (h t (List.mem_cons_self ..))), lines_texts ts (done ++ [t]) rest n (fun x hx => h x (List.mem_cons_of_mem _ hx))]
    simp
theorem take_headLn (c : CodeM) (f : FnM) (hn : ∀ b ∈ f.name.data.toList, wordB b = true) (ho : okI f.params ∧ okI f.slots ∧ okI f.caps) : takeM c (mk (funcP ++ f.name.data.toList ++ numsB [f.params, f.slots, f.caps])) = some ⟨c.funcs ++ [⟨f.name, f.params, f.slots, f.caps, []⟩], c.texts⟩ := by
  unfold takeM
  rw [show (mk (funcP ++ f.name.data.toList ++ numsB [f.params, f.slots, f.caps])).data.toList = funcP ++ (f.name.data.toList ++ numsB [f.params, f.slots, f.caps]) from List.append_assoc _ _ _]
  have h0 : textP.isPrefixOf (funcP ++ (f.name.data.toList ++ numsB [f.params, f.slots, f.caps])) = false := by simp [textP, funcP, List.isPrefixOf]
  rw [h0, if_neg (by decide), if_pos (by rw [List.isPrefixOf_iff_prefix]; exact List.prefix_append _ _), show (5 : Nat) = funcP.length from rfl, List.drop_left]
  unfold takeF
  have hnums : numsB [f.params, f.slots, f.caps] = 32 :: (Lib.itoa f.params ++ numsB [f.slots, f.caps]) := rfl
  have hix : Lib.indexByte (mk (f.name.data.toList ++ numsB [f.params, f.slots, f.caps])).data.toList 32 = f.name.data.toList.length := by
    show Lib.indexByte (f.name.data.toList ++ numsB [f.params, f.slots, f.caps]) 32 = _
    rw [hnums]; exact ixb_app _ _ _ (wordB_no hn).2
  rw [hix, if_neg (by omega), Int.toNat_natCast, mk_drop, mk_take, List.drop_left, List.take_left]
  have hm := numsM_shown [f.params, f.slots, f.caps] (by intro x hx; simp at hx; rcases hx with rfl | rfl | rfl; exact ho.1; exact ho.2.1; exact ho.2.2)
  rw [show ([f.params, f.slots, f.caps] : List Int).length = 3 from rfl] at hm
  rw [hm]
  rfl
theorem take_lineM (c : CodeM) (i : InsM) (hc : c.funcs ≠ []) (h0 : 0 < i.op) (h1 : i.op < 42) (ho : okI i.a ∧ okI i.b ∧ okI i.c ∧ okI i.d ∧ okI i.e) : takeM c (mk ([32, 32] ++ mwordB i.op ++ numsB [i.a, i.b, i.c, i.d, i.e])) = some ⟨addIns c.funcs i, c.texts⟩ := by
  unfold takeM
  rw [show (mk ([32, 32] ++ mwordB i.op ++ numsB [i.a, i.b, i.c, i.d, i.e])).data.toList = [32, 32] ++ (mwordB i.op ++ numsB [i.a, i.b, i.c, i.d, i.e]) from List.append_assoc _ _ _]
  have e0 : textP.isPrefixOf ([32, 32] ++ (mwordB i.op ++ numsB [i.a, i.b, i.c, i.d, i.e])) = false := by simp [textP, List.isPrefixOf]
  have e1 : funcP.isPrefixOf ([32, 32] ++ (mwordB i.op ++ numsB [i.a, i.b, i.c, i.d, i.e])) = false := by simp [funcP, List.isPrefixOf]
  rw [e0, if_neg (by decide), e1, if_neg (by decide), if_pos (by rw [List.isPrefixOf_iff_prefix]; exact List.prefix_append _ _), show (2 : Nat) = ([32, 32] : List UInt8).length from rfl, List.drop_left]
  have hno : 32 ∉ mwordB i.op := by
    have key : ∀ y ∈ mwordsL, (32 : UInt8) ∉ y := by decide
    unfold mwordB
    rw [List.getD_eq_getElem?_getD]
    cases h : mwordsL[i.op.toNat]? with
    | none => simp
    | some x => exact key x (List.mem_of_getElem? h)
  have hnums : numsB [i.a, i.b, i.c, i.d, i.e] = 32 :: (Lib.itoa i.a ++ numsB [i.b, i.c, i.d, i.e]) := rfl
  have hcut : (Lib.cut (mk (mwordB i.op ++ numsB [i.a, i.b, i.c, i.d, i.e])).data.toList [32]).1 = mwordB i.op := by
    show (Lib.cut (mwordB i.op ++ numsB [i.a, i.b, i.c, i.d, i.e]) [32]).1 = _
    rw [hnums, cutb_app _ _ _ hno]
  have hop : opOf (mk (mwordB i.op ++ numsB [i.a, i.b, i.c, i.d, i.e])) = i.op.toNat := op_hit (by omega) (by rw [hcut]; rfl)
  unfold takeI
  rw [hop, hcut, if_neg (by rintro (h | h); exact hc h; exact h (by omega)), mk_drop, List.drop_left]
  have hm := numsM_shown [i.a, i.b, i.c, i.d, i.e] (by intro x hx; simp at hx; rcases hx with rfl | rfl | rfl | rfl | rfl; exact ho.1; exact ho.2.1; exact ho.2.2.1; exact ho.2.2.2.1; exact ho.2.2.2.2)
  rw [show ([i.a, i.b, i.c, i.d, i.e] : List Int).length = 5 from rfl] at hm
  rw [hm]
  obtain ⟨op, a, b, c', d, e⟩ := i
  simp only at h0 ⊢
  rw [Int.toNat_of_nonneg (by omega)]
theorem lines_ins : ∀ (l : List InsM) (ini : List FnM) (f : FnM) (ts : List ByteArray) (rest : List UInt8) (n : Nat), (∀ i ∈ l, 0 < i.op ∧ i.op < 42 ∧ okIn i) → linesM (n + l.length) ⟨ini ++ [f], ts⟩ (insLn l ++ rest) = linesM n ⟨ini ++ [{ f with ins := f.ins ++ l }], ts⟩ rest
  | [], ini, f, ts, rest, n, _ => by simp [insLn]
  | i :: l, ini, f, ts, rest, n, h => by
    obtain ⟨h0, h1, _, h2⟩ := h i (List.mem_cons_self ..)
    have hno : 10 ∉ [32, 32] ++ mwordB i.op ++ numsB [i.a, i.b, i.c, i.d, i.e] := by
      intro hm
      rcases List.mem_append.1 hm with hm | hm
      · rcases List.mem_append.1 hm with hm | hm
        · exact absurd hm (by decide)
        · have key : ∀ y ∈ mwordsL, (10 : UInt8) ∉ y := by decide
          unfold mwordB at hm
          rw [List.getD_eq_getElem?_getD] at hm
          cases hq : mwordsL[i.op.toNat]? with
          | none => rw [hq] at hm; cases hm
          | some x => rw [hq] at hm; exact key x (List.mem_of_getElem? hq) hm
      · refine nums_no _ ?_ hm
        intro x hx; simp at hx; rcases hx with rfl | rfl | rfl | rfl | rfl
        · exact h2.1
        · exact h2.2.1
        · exact h2.2.2.1
        · exact h2.2.2.2.1
        · exact h2.2.2.2.2
    have e : insLn (i :: l) ++ rest = ([32, 32] ++ mwordB i.op ++ numsB [i.a, i.b, i.c, i.d, i.e]) ++ 10 :: (insLn l ++ rest) := by
      unfold insLn lineM; simp
    have ht := take_lineM ⟨ini ++ [f], ts⟩ i (by simp) h0 h1 h2
    rw [e, List.length_cons, ← Nat.add_assoc, lines_step hno ht]
    simp only
    rw [addIns_snoc, lines_ins l ini _ ts rest n (fun x hx => h x (List.mem_cons_of_mem _ hx))]
    simp
def okFnS (f : FnM) : Prop := (∀ b ∈ f.name.data.toList, wordB b = true) ∧ (okI f.params ∧ okI f.slots ∧ okI f.caps) ∧ ∀ i ∈ f.ins, 0 < i.op ∧ i.op < 42 ∧ okIn i
def lineN (fs : List FnM) : Nat := (fs.map fun f => f.ins.length + 1).sum
theorem lines_funs : ∀ (fs ini : List FnM) (ts : List ByteArray) (rest : List UInt8) (n : Nat), (∀ f ∈ fs, okFnS f) → linesM (n + lineN fs) ⟨ini, ts⟩ (fs.flatMap funLn ++ rest) = linesM n ⟨ini ++ fs, ts⟩ rest
  | [], ini, ts, rest, n, _ => by simp [lineN]
  | f :: fs, ini, ts, rest, n, h => by
    obtain ⟨h1, h2, h3⟩ := h f (List.mem_cons_self ..)
    have hno : 10 ∉ funcP ++ f.name.data.toList ++ numsB [f.params, f.slots, f.caps] := by
      intro hm
      rcases List.mem_append.1 hm with hm | hm
      · rcases List.mem_append.1 hm with hm | hm
        · exact absurd hm (by decide)
        · exact (wordB_no h1).1 hm
      · refine nums_no _ ?_ hm
        intro x hx; simp at hx; rcases hx with rfl | rfl | rfl
        · exact h2.1
        · exact h2.2.1
        · exact h2.2.2
    have e : (f :: fs).flatMap funLn ++ rest = (funcP ++ f.name.data.toList ++ numsB [f.params, f.slots, f.caps]) ++ 10 :: (insLn f.ins ++ (fs.flatMap funLn ++ rest)) := by
      rw [List.flatMap_cons]; unfold funLn headLn; simp
    have en : n + lineN (f :: fs) = (n + lineN fs + f.ins.length) + 1 := by
      show n + ((f.ins.length + 1) + lineN fs) = _; omega
    rw [e, en, lines_step hno (take_headLn ⟨ini, ts⟩ f h1 h2)]
    simp only
    rw [lines_ins f.ins ini ⟨f.name, f.params, f.slots, f.caps, []⟩ ts _ _ h3]
    simp only [List.nil_append]
    rw [lines_funs fs (ini ++ [f]) ts rest n (fun x hx => h x (List.mem_cons_of_mem _ hx)), List.append_assoc]
    rfl
theorem op_pos {c : CodeM} {f : FnM} {i : InsM} (h : insM c f i = 0) : 0 < i.op ∧ i.op < 42 := by
  obtain ⟨h1, h2⟩ := op_range h
  refine ⟨?_, h2⟩
  rcases Int.lt_or_eq_of_le h1 with h3 | h3
  · exact h3
  · exfalso
    unfold insM at h
    rw [if_pos] at h
    · cases h
    · unfold formM
      rw [if_neg (by omega), ← h3]
      rfl
def okNumsC (c : CodeM) : Prop := ∀ f ∈ c.funcs, ∀ i ∈ f.ins, okIn i
theorem okNumsC_of {w : World} {v : Value} {c : CodeM} (h : RdL CeFn 5 w v c.funcs) : okNumsC c := by
  intro f hf i hi
  obtain ⟨k, hk⟩ := List.getElem?_of_mem hf
  obtain ⟨A, cc, rfl, _⟩ := h.form
  obtain ⟨b, off, _, _, lins, _, _, _, _, _, _, _, _, _, hin, _⟩ := at_fn h hk
  obtain ⟨j, hj⟩ := List.getElem?_of_mem hi
  obtain ⟨A', cc', rfl, _⟩ := hin.form
  obtain ⟨_, _, _, _, _, _, _, _, _, _, o0, o1, o2, o3, o4, o5⟩ := at_ins hin hj
  exact ⟨o0, o1, o2, o3, o4, o5⟩
theorem sound_okFn {c : CodeM} (hs : (soundM c).1 = 0) (ho : okNumsC c) : ∀ f ∈ c.funcs, okFnS f := by
  obtain ⟨_, _, _, _, hfe, _⟩ := sound_inv hs
  intro f hf
  obtain ⟨k, hk⟩ := List.getElem?_of_mem hf
  obtain ⟨h1, h2, _⟩ := hfe k f hk
  obtain ⟨g1, g2, g3, g4, g5, g6, g7, _⟩ := head_ok h1
  refine ⟨name_bytes g1, ⟨⟨by omega, by omega⟩, ⟨by omega, by omega⟩, ⟨by omega, by omega⟩⟩, fun i hi => ?_⟩
  obtain ⟨j, hj⟩ := List.getElem?_of_mem hi
  obtain ⟨p1, p2⟩ := op_pos (h2 j i hj)
  exact ⟨p1, p2, ho f hf i hi⟩
theorem len_flat {α : Type} (g : α → List UInt8) (a : α → Nat) (h : ∀ x, a x ≤ (g x).length) : ∀ l : List α, (l.map a).sum ≤ (l.flatMap g).length
  | [] => by simp
  | x :: l => by
    have := h x; have := len_flat g a h l
    rw [List.map_cons, List.sum_cons, List.flatMap_cons, List.length_append]; omega
theorem len_flat_le {α : Type} (g : α → List UInt8) (M : Nat) : ∀ l : List α, (∀ x ∈ l, (g x).length ≤ M) → (l.flatMap g).length ≤ M * l.length
  | [], _ => by simp
  | x :: l, h => by
    have h1 := h x (List.mem_cons_self ..)
    have h2 := len_flat_le g M l (fun y hy => h y (List.mem_cons_of_mem _ hy))
    rw [List.flatMap_cons, List.length_append, List.length_cons, Nat.mul_succ]; omega
theorem lineM_pos (i : InsM) : 1 ≤ (lineM i).length := by unfold lineM; simp
theorem funLn_pos (f : FnM) : f.ins.length + 1 ≤ (funLn f).length := by
  have h := len_flat lineM (fun _ => 1) lineM_pos f.ins
  have e : (f.ins.map fun _ => 1).sum = f.ins.length := by
    generalize f.ins = l
    induction l with
    | nil => rfl
    | cons a l ih => rw [List.map_cons, List.sum_cons, ih, List.length_cons]; omega
  unfold funLn headLn
  rw [e] at h
  rw [List.length_append, List.length_append, List.length_singleton]
  show _ ≤ _ + 1 + (f.ins.flatMap lineM).length
  omega
theorem textLn_pos (t : ByteArray) : 1 ≤ (textLn t).length := by unfold textLn; simp; omega
theorem shown_back {c : CodeM} (hs : (soundM c).1 = 0) (ho : okNumsC c) : creadM (mk (showM c)) = some c := by
  obtain ⟨_, _, _, hte, _, _⟩ := sound_inv hs
  have hf := sound_okFn hs ho
  have ht : ∀ t ∈ c.texts, textE t = 0 := fun t h => by
    obtain ⟨k, hk⟩ := List.getElem?_of_mem h
    exact hte k t hk
  have h1 := lines_funs c.funcs [] c.texts [] 1 hf
  have h2 := lines_texts c.texts [] (c.funcs.flatMap funLn ++ []) (1 + lineN c.funcs) ht
  rw [List.nil_append] at h1 h2
  rw [h1] at h2
  have hx : linesM (1 + lineN c.funcs + c.texts.length) ⟨[], []⟩ (showM c) = some c := by
    unfold showM
    rw [List.append_nil] at h2
    rw [h2, linesM, if_pos rfl]
  have l1 : lineN c.funcs ≤ (c.funcs.flatMap funLn).length := len_flat funLn (fun f => f.ins.length + 1) funLn_pos c.funcs
  have l2 := len_flat textLn (fun _ => 1) textLn_pos c.texts
  have e2 : (c.texts.map fun _ => 1).sum = c.texts.length := by
    generalize c.texts = l
    induction l with
    | nil => rfl
    | cons a l ih => rw [List.map_cons, List.sum_cons, ih, List.length_cons]; omega
  rw [e2] at l2
  have hl : linesM ((mk (showM c)).size + 1) ⟨[], []⟩ (mk (showM c)).data.toList = some c := by
    refine lines_mono _ _ _ _ _ hx ?_
    rw [mk_size]
    unfold showM
    rw [List.length_append]; omega
  unfold creadM
  rw [hl]
  exact if_pos ⟨hs, rfl⟩
theorem show_size {c : CodeM} (hs : (soundM c).1 = 0) (ho : okNumsC c) : (showM c).length ≤ 2000000000 := by
  obtain ⟨_, hn1, hn2, hte, hfe, _⟩ := sound_inv hs
  have h1 : (c.texts.flatMap textLn).length ≤ 500 * c.texts.length := len_flat_le textLn 500 c.texts (fun t h => by
    obtain ⟨k, hk⟩ := List.getElem?_of_mem h
    rcases textE_cases t with ⟨_, h1, _⟩ | ⟨h1, _⟩
    · exact textLn_len h1
    · rw [hte k t hk] at h1; cases h1)
  have h2 : (c.funcs.flatMap funLn).length ≤ 2700000 * c.funcs.length := len_flat_le funLn 2700000 c.funcs (fun f h => by
    obtain ⟨k, hk⟩ := List.getElem?_of_mem h
    obtain ⟨g1, g2, _⟩ := hfe k f hk
    obtain ⟨q1, _, _, _, _, _, _, _, _, q9⟩ := head_ok g1
    obtain ⟨_, o2, o3⟩ := sound_okFn hs ho f h
    have n1 := nums_len [f.params, f.slots, f.caps] (by intro x hx; simp at hx; rcases hx with rfl | rfl | rfl; exact o2.1; exact o2.2.1; exact o2.2.2)
    have n2 := name_size q1
    have n3 : f.name.data.toList.length = f.name.size := by rw [Array.length_toList]; rfl
    have n4 : (f.ins.flatMap lineM).length ≤ 130 * f.ins.length := len_flat_le lineM 130 f.ins (fun i hi => line_len (o3 i hi).2.2.2)
    have n5 : funcP.length = 5 := rfl
    unfold funLn headLn insLn
    simp only [List.length_append, List.length_cons, List.length_nil] at n1 ⊢
    omega)
  unfold showM
  rw [List.length_append]; omega
end Go.Proofs.YtiicdknmoakocaaDoor
