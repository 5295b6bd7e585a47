/-
  What is told, read as a stack of activations and what each keeps: in plain Lean. No condition.
-/
import Derived.Test.YtfholconiofgoaaPanN
namespace Go.Proofs.Ytfholconiofgoaa
set_option linter.unusedVariables false
set_option linter.unusedSimpArgs false

/-- One tell, read on what is kept (by the activation's number) and the stack (its top first). -/
def simT (K : List (List Int)) (st : List Int) (t : TellM) : Option (List (List Int) × List Int) :=
  if t.kind = 1 then (if t.n = K.length then some (K ++ [[]], t.n :: st) else none)
  else if t.kind = 2 then match st with
    | [] => none
    | top :: r => match K[top.toNat]? with
      | none => none
      | some ds => if ds.getLast? = some t.n ∧ t.to = K.length then some (K.set top.toNat ds.dropLast ++ [[]], t.to :: top :: r) else none
  else if t.kind = 3 ∨ t.kind = 4 then match st with
    | [] => none
    | top :: r => if top = t.n ∧ K[t.n.toNat]? = some [] then some (K, r) else none
  else some (K, st)
def simL : List (List Int) → List Int → List TellM → Option (List (List Int) × List Int)
  | K, st, [] => some (K, st)
  | K, st, t :: l => match simT K st t with
    | none => none
    | some (K', st') => simL K' st' l
theorem simL_snoc {K K' K2 : List (List Int)} {st st' st2 : List Int} {t : TellM} : ∀ {l : List TellM} {K : List (List Int)} {st : List Int}, simL K st l = some (K', st') → simT K' st' t = some (K2, st2) → simL K st (l ++ [t]) = some (K2, st2)
  | [], K, st, h, h2 => by
    simp only [simL, Option.some.injEq, Prod.mk.injEq] at h
    obtain ⟨rfl, rfl⟩ := h
    show (match simT K st t with | none => none | some (K', st') => simL K' st' []) = _
    rw [h2]; rfl
  | x :: l, K, st, h, h2 => by
    rw [List.cons_append]
    unfold simL at h ⊢
    cases hx : simT K st x with
    | none => rw [hx] at h; cases h
    | some y => rw [hx] at h; exact simL_snoc (K := K) (st := st) (t := t) (l := l) h h2
/-- What is kept and the stack are those of the state. -/
structure Lk (p : PlM) (K : List (List Int)) (st : List Int) : Prop where
  st : st = p.fr.map (·.id)
  kl : (K.length : Int) = p.next
  kd : ∀ f ∈ p.fr, K[f.id.toNat]? = some f.defers
  ids : p.fr.Pairwise fun a b => b.id < a.id
  rng : ∀ f ∈ p.fr, 0 ≤ f.id ∧ f.id < p.next
/-- From K, st on, what was told behind the first k leads to a state that goes with it. -/
def Go_ (K : List (List Int)) (st : List Int) (k : Nat) (p : PlM) : Prop := ∃ K' st', simL K st (p.told.drop k) = some (K', st') ∧ Lk p K' st'
theorem Lk.frames {p q : PlM} {K : List (List Int)} {st : List Int} (h : Lk p K st) (h1 : q.fr.map (fun f => (f.id, f.defers)) = p.fr.map (fun f => (f.id, f.defers))) (h2 : q.next = p.next) : Lk q K st := by
  have hid : q.fr.map (·.id) = p.fr.map (·.id) := by
    have := congrArg (List.map Prod.fst) h1
    simpa [List.map_map, Function.comp_def] using this
  have hm : ∀ f ∈ q.fr, ∃ g ∈ p.fr, g.id = f.id ∧ g.defers = f.defers := by
    intro f hf
    have : (f.id, f.defers) ∈ q.fr.map (fun f => (f.id, f.defers)) := List.mem_map_of_mem hf
    rw [h1] at this
    obtain ⟨g, hg, e⟩ := List.mem_map.1 this
    injection e with e1 e2
    exact ⟨g, hg, e1, e2⟩
  refine ⟨h.st.trans hid.symm, h.kl.trans h2.symm, fun f hf => ?_, ?_, fun f hf => ?_⟩
  · obtain ⟨g, hg, e1, e2⟩ := hm f hf
    rw [← e1, ← e2]; exact h.kd g hg
  · have h3 : (p.fr.map (·.id)).Pairwise fun a b => b < a := List.pairwise_map.2 h.ids
    rw [← hid] at h3
    exact List.pairwise_map.1 h3
  · obtain ⟨g, hg, e1, _⟩ := hm f hf
    rw [← e1, h2]; exact h.rng g hg
theorem drop_snoc {l : List TellM} {k : Nat} (h : k ≤ l.length) (t : TellM) : (l ++ [t]).drop k = l.drop k ++ [t] := by
  rw [List.drop_append_of_le_length h]
/-- A tell that the reader passes over. -/
theorem Go_.other {K : List (List Int)} {st : List Int} {k : Nat} {p q : PlM} {t : TellM} (h : Go_ K st k p) (hk : k ≤ p.told.length) (ht : q.told = p.told ++ [t]) (h1 : t.kind ≠ 1 ∧ t.kind ≠ 2 ∧ t.kind ≠ 3 ∧ t.kind ≠ 4) (h2 : q.fr = p.fr) (h3 : q.next = p.next) : Go_ K st k q := by
  obtain ⟨K', st', h4, h5⟩ := h
  refine ⟨K', st', ?_, h5.frames (by rw [h2]) h3⟩
  rw [ht, drop_snoc hk]
  refine simL_snoc (K := K) (st := st) h4 ?_
  unfold simT
  rw [if_neg h1.1, if_neg h1.2.1, if_neg (by omega)]
/-- An activation ends: all that it kept was started. -/
theorem Go_.ends {K : List (List Int)} {st : List Int} {k : Nat} {p q : PlM} {f : FrameM} {r r' : List FrameM} {x : Int} (h : Go_ K st k p) (hk : k ≤ p.told.length) (hf : p.fr = f :: r) (hd : f.defers = []) (hx : x = 3 ∨ x = 4) (ht : q.told = p.told ++ [⟨x, f.id, 0, zV⟩]) (h2 : q.fr.map (fun f => (f.id, f.defers)) = r.map (fun f => (f.id, f.defers))) (h3 : q.next = p.next) : Go_ K st k q := by
  obtain ⟨K', st', h4, h5⟩ := h
  have hL : Lk { p with fr := r } K' (r.map (·.id)) := ⟨rfl, h5.kl, fun g hg => h5.kd g (by rw [hf]; exact List.mem_cons_of_mem _ hg), by have := h5.ids; rw [hf] at this; exact this.tail, fun g hg => h5.rng g (by rw [hf]; exact List.mem_cons_of_mem _ hg)⟩
  refine ⟨K', r.map (·.id), ?_, hL.frames h2 h3⟩
  rw [ht, drop_snoc hk]
  refine simL_snoc (K := K) (st := st) h4 ?_
  have hst : st' = f.id :: r.map (·.id) := by rw [h5.st, hf]; rfl
  have hkd := h5.kd f (by rw [hf]; exact List.mem_cons_self ..)
  rw [hd] at hkd
  unfold simT
  dsimp only
  rw [if_neg (by omega), if_neg (by omega), if_pos hx, hst]
  dsimp only
  rw [if_pos ⟨rfl, hkd⟩]
theorem start_go {K : List (List Int)} {st : List Int} {k : Nat} {p : PlM} {f : FrameM} {r : List FrameM} (h : Go_ K st k p) (hk : k ≤ p.told.length) (hf : p.fr = f :: r) (hd : f.defers ≠ []) : Go_ K st k (startM p f r) := by
  unfold startM
  split
  · exact h.other hk rfl ⟨by show ¬ (7 : Int) = 1; decide, by show ¬ (7 : Int) = 2; decide, by show ¬ (7 : Int) = 3; decide, by show ¬ (7 : Int) = 4; decide⟩ rfl rfl
  · obtain ⟨K', st', h4, h5⟩ := h
    have hst : st' = f.id :: r.map (·.id) := by rw [h5.st, hf]; rfl
    have hkd := h5.kd f (by rw [hf]; exact List.mem_cons_self ..)
    have hrg := h5.rng f (by rw [hf]; exact List.mem_cons_self ..)
    have hids := h5.ids
    rw [hf, List.pairwise_cons] at hids
    have hkl := h5.kl
    have hlt := (List.getElem?_eq_some_iff.1 hkd).1
    refine ⟨K'.set f.id.toNat f.defers.dropLast ++ [[]], p.next :: f.id :: r.map (·.id), ?_, ?_⟩
    · show simL K st ((p.told ++ [_]).drop k) = _
      rw [drop_snoc hk]
      refine simL_snoc (K := K) (st := st) h4 ?_
      unfold simT
      dsimp only
      rw [if_neg (by decide), if_pos rfl, hst]
      dsimp only
      rw [hkd]
      dsimp only
      have hl : f.defers.getLast? = some (lastDef f) := by
        unfold lastDef
        cases hh : f.defers with
        | nil => exact absurd hh hd
        | cons a l => rw [List.getLast?_cons, List.getLastD_cons, List.getLastD_eq_getLast?]
      rw [if_pos ⟨hl, hkl.symm⟩]
    · have hlen : (K'.set f.id.toNat f.defers.dropLast).length = K'.length := List.length_set ..
      refine ⟨rfl, ?_, fun g hg => ?_, ?_, fun g hg => ?_⟩
      · show ((K'.set f.id.toNat f.defers.dropLast ++ [[]]).length : Int) = p.next + 1
        rw [List.length_append, hlen, List.length_singleton]; omega
      · rcases List.mem_cons.1 hg with rfl | hg
        · show (K'.set f.id.toNat f.defers.dropLast ++ [[]])[p.next.toNat]? = some []
          have e : p.next.toNat = (K'.set f.id.toNat f.defers.dropLast).length := by rw [hlen]; omega
          rw [e, List.getElem?_append_right (Nat.le_refl _), Nat.sub_self]; rfl
        · rcases List.mem_cons.1 hg with rfl | hg
          · show (K'.set f.id.toNat f.defers.dropLast ++ [[]])[f.id.toNat]? = some f.defers.dropLast
            rw [List.getElem?_append_left (by rw [hlen]; exact hlt), List.getElem?_set_self hlt]
          · have h6 := h5.kd g (by rw [hf]; exact List.mem_cons_of_mem _ hg)
            have h7 := h5.rng g (by rw [hf]; exact List.mem_cons_of_mem _ hg)
            have h8 := hids.1 g hg
            have h9 := (List.getElem?_eq_some_iff.1 h6).1
            rw [List.getElem?_append_left (by rw [hlen]; exact h9), List.getElem?_set_ne (by omega)]
            exact h6
      · show List.Pairwise _ (_ :: _ :: r)
        refine List.Pairwise.cons (fun g hg => ?_) (List.Pairwise.cons (fun g hg => hids.1 g hg) hids.2)
        rcases List.mem_cons.1 hg with rfl | hg
        · exact hrg.2
        · exact (h5.rng g (by rw [hf]; exact List.mem_cons_of_mem _ hg)).2
      · rcases List.mem_cons.1 hg with rfl | hg
        · exact ⟨by show 0 ≤ p.next; omega, by show p.next < p.next + 1; omega⟩
        · rcases List.mem_cons.1 hg with rfl | hg
          · exact ⟨hrg.1, by show f.id < p.next + 1; omega⟩
          · have := h5.rng g (by rw [hf]; exact List.mem_cons_of_mem _ hg)
            exact ⟨this.1, by show g.id < p.next + 1; omega⟩
theorem settle_go {K : List (List Int)} {st : List Int} {k : Nat} : ∀ (n : Nat) (p : PlM), Go_ K st k p → k ≤ p.told.length → Go_ K st k (settleN n p)
  | 0, p, h, hk => h
  | n + 1, p, h, hk => by
    unfold settleN
    cases hf : p.fr with
    | nil => exact h
    | cons f r =>
      have o7 : ∀ a b c v, (⟨7, a, b, v⟩ : TellM).kind ≠ 1 ∧ (⟨7, a, b, v⟩ : TellM).kind ≠ 2 ∧ (⟨7, a, b, v⟩ : TellM).kind ≠ 3 ∧ (⟨7, a, b, v⟩ : TellM).kind ≠ 4 := fun a b (c : Nat) v => ⟨by show ¬ (7 : Int) = 1; decide, by show ¬ (7 : Int) = 2; decide, by show ¬ (7 : Int) = 3; decide, by show ¬ (7 : Int) = 4; decide⟩
      have hk1 : ∀ t : TellM, k ≤ (p.told ++ [t]).length := fun t => by rw [List.length_append]; omega
      dsimp only
      by_cases hd : f.defers ≠ []
      · rw [if_pos hd]; exact start_go h hk hf hd
      · rw [if_neg hd]
        have hd' : f.defers = [] := Classical.not_not.1 hd
        by_cases hp : f.phase = 1
        · rw [if_pos hp]
          cases r with
          | nil => exact Go_.other (p := p.left f []) (h.ends (r' := []) hk hf hd' (.inl rfl) rfl rfl rfl) (hk1 _) rfl (o7 _ _ 0 _) rfl rfl
          | cons g s =>
            dsimp only
            split
            · exact settle_go n _ (h.ends (r' := []) hk hf hd' (.inl rfl) rfl rfl rfl) (hk1 _)
            · split
              · exact h.ends (r' := []) hk hf hd' (.inl rfl) rfl rfl rfl
              · exact settle_go n _ (h.ends (r' := []) hk hf hd' (.inl rfl) rfl rfl rfl) (hk1 _)
        · rw [if_neg hp]
          cases r with
          | nil => exact Go_.other (p := p.passed f []) (h.ends (r' := []) hk hf hd' (.inr rfl) rfl rfl rfl) (hk1 _) rfl (o7 _ _ 0 _) rfl rfl
          | cons g s => exact settle_go n _ (h.ends (r' := []) hk hf hd' (.inr rfl) rfl rfl rfl) (hk1 _)
/-- What a deferred call does to what is kept: the event's own part. -/
def evK (K : List (List Int)) (st : List Int) (e : EventM) : List (List Int) :=
  if e.kind = 3 then match st with | [] => K | top :: _ => K.modify top.toNat (· ++ [e.n]) else K
theorem Lk.go {p : PlM} {K : List (List Int)} {st : List Int} (h : Lk p K st) : Go_ K st p.told.length p := ⟨K, st, by rw [List.drop_length]; rfl, h⟩
theorem event_go {p : PlM} {K : List (List Int)} {st : List Int} (h : Lk p K st) (ht : p.told = []) (hne : p.fr ≠ []) (e : EventM) : ∃ K' st', simL (evK K st e) st (eventM p e).told = some (K', st') ∧ Lk (noTold (eventM p e)) K' st' := by
  have fin : ∀ {q : PlM} {K0 : List (List Int)}, Go_ K0 st 0 q → ∃ K' st', simL K0 st q.told = some (K', st') ∧ Lk (noTold q) K' st' := fun {q} {K0} ⟨K', st', h1, h2⟩ => ⟨K', st', h1, h2.frames rfl rfl⟩
  have hg0 : Go_ K st 0 p := by have := h.go; rw [ht] at this; exact this
  have hk0 : ∀ q : PlM, 0 ≤ q.told.length := fun q => Nat.zero_le _
  have o : ∀ {t : TellM}, t.kind = 5 ∨ t.kind = 6 ∨ t.kind = 7 → t.kind ≠ 1 ∧ t.kind ≠ 2 ∧ t.kind ≠ 3 ∧ t.kind ≠ 4 := fun h => by omega
  obtain ⟨f, r, hf⟩ : ∃ f r, p.fr = f :: r := by
    cases hp : p.fr with
    | nil => exact absurd hp hne
    | cons f r => exact ⟨f, r, rfl⟩
  have hph : ∀ (q : PlM) (ph : Int), q.fr = p.fr → q.next = p.next → q.told = p.told → Go_ K st 0 (phase_ q ph) := by
    intro q ph h1 h2 h3
    have e1 : (phase_ q ph).fr.map (fun f => (f.id, f.defers)) = p.fr.map (fun f => (f.id, f.defers)) := by
      unfold phase_; rw [h1, hf]; rfl
    have e2 : (phase_ q ph).told = p.told := by unfold phase_; rw [h1, hf]; exact h3
    have e3 : (phase_ q ph).next = p.next := by unfold phase_; rw [h1, hf]; exact h2
    obtain ⟨K', st', h4, h5⟩ := hg0
    exact ⟨K', st', by rw [e2]; exact h4, h5.frames e1 e3⟩
  unfold eventM evK
  by_cases h1 : e.kind = 1
  · rw [if_pos h1, if_neg (by omega)]
    by_cases hl : p.fr.length = 30
    · rw [if_pos hl]; exact fin (hg0.other (hk0 _) rfl (o (.inr (.inr rfl))) rfl rfl)
    · rw [if_neg hl]
      have hst : st = f.id :: r.map (·.id) := by rw [h.st, hf]; rfl
      refine ⟨K ++ [[]], p.next :: st, ?_, ?_⟩
      · show simL K st (p.told ++ [⟨1, p.next, 0, zV⟩]) = _
        rw [ht, List.nil_append]
        unfold simL simT
        dsimp only
        rw [if_pos rfl, if_pos h.kl.symm]; rfl
      · refine ⟨by show _ = List.map _ (_ :: p.fr); rw [List.map_cons, ← h.st], ?_, fun g hg => ?_, ?_, fun g hg => ?_⟩
        · show ((K ++ [[]]).length : Int) = p.next + 1
          rw [List.length_append, List.length_singleton]; have := h.kl; omega
        · have hkl := h.kl
          rcases List.mem_cons.1 hg with rfl | hg
          · show (K ++ [[]])[p.next.toNat]? = some []
            have e : p.next.toNat = K.length := by omega
            rw [e, List.getElem?_append_right (Nat.le_refl _), Nat.sub_self]; rfl
          · have h6 := h.kd g hg
            rw [List.getElem?_append_left (List.getElem?_eq_some_iff.1 h6).1]; exact h6
        · exact List.Pairwise.cons (fun g hg => (h.rng g hg).2) h.ids
        · have hkl := h.kl
          rcases List.mem_cons.1 hg with rfl | hg
          · exact ⟨by show 0 ≤ p.next; omega, by show p.next < p.next + 1; omega⟩
          · have := h.rng g hg
            exact ⟨this.1, by show g.id < p.next + 1; omega⟩
  rw [if_neg h1]
  by_cases h2 : e.kind = 2
  · rw [if_pos h2, if_neg (by omega)]
    exact fin (settle_go _ _ (hph p 1 rfl rfl rfl) (hk0 _))
  rw [if_neg h2]
  by_cases h3 : e.kind = 3
  · rw [if_pos h3, if_pos h3, hf]
    have hst : st = f.id :: r.map (·.id) := by rw [h.st, hf]; rfl
    have hkd := h.kd f (by rw [hf]; exact List.mem_cons_self ..)
    have hlt := (List.getElem?_eq_some_iff.1 hkd).1
    have hids := h.ids
    rw [hf, List.pairwise_cons] at hids
    rw [hst]
    refine ⟨K.modify f.id.toNat (· ++ [e.n]), f.id :: r.map (·.id), ?_, ?_⟩
    · show simL _ _ p.told = _
      rw [ht]; rfl
    · refine ⟨rfl, ?_, fun g hg => ?_, ?_, fun g hg => ?_⟩
      · show ((K.modify f.id.toNat (· ++ [e.n])).length : Int) = p.next
        rw [List.length_modify]; exact h.kl
      · rcases List.mem_cons.1 hg with rfl | hg
        · show (K.modify f.id.toNat (· ++ [e.n]))[f.id.toNat]? = some (f.defers ++ [e.n])
          rw [List.getElem?_modify_eq, hkd]; rfl
        · have h6 := h.kd g (by rw [hf]; exact List.mem_cons_of_mem _ hg)
          have h7 := h.rng g (by rw [hf]; exact List.mem_cons_of_mem _ hg)
          have h8 := hids.1 g hg
          rw [List.getElem?_modify_ne _ _ (by omega)]; exact h6
      · exact List.Pairwise.cons (fun g hg => hids.1 g hg) hids.2
      · rcases List.mem_cons.1 hg with rfl | hg
        · exact h.rng f (by rw [hf]; exact List.mem_cons_self ..)
        · exact h.rng g (by rw [hf]; exact List.mem_cons_of_mem _ hg)
  rw [if_neg h3, if_neg h3]
  by_cases h4 : e.kind = 4
  · rw [if_pos h4]
    exact fin (settle_go _ _ (hph { p with pn := ⟨p.ser, plainM e.v, false, false⟩ :: p.pn, ser := p.ser + 1 } 2 rfl rfl rfl) (hk0 _))
  rw [if_neg h4]
  by_cases h5 : e.kind = 5
  · rw [if_pos h5]
    unfold recoverM
    split
    · split
      · exact fin (hg0.other (hk0 _) rfl (o (.inl rfl)) rfl rfl)
      · exact fin (hg0.other (hk0 _) rfl (o (.inr (.inl rfl))) rfl rfl)
    · exact fin (hg0.other (hk0 _) rfl (o (.inr (.inl rfl))) rfl rfl)
  rw [if_neg h5]
  exact fin (hg0.other (hk0 _) rfl (o (.inr (.inr rfl))) rfl rfl)
/-- Where the reader comes to the end, it goes on at each tell. -/
theorem simL_at {t : TellM} {K1 : List (List Int)} {st1 : List Int} {R : List (List Int) × List Int} : ∀ {l : List TellM} {K : List (List Int)} {st : List Int} {j : Nat}, simL K st l = some R → l[j]? = some t → simL K st (l.take j) = some (K1, st1) → ∃ K2 st2, simT K1 st1 t = some (K2, st2) ∧ simL K st (l.take (j + 1)) = some (K2, st2)
  | [], K, st, j, h, hj, h1 => by simp at hj
  | x :: l, K, st, 0, h, hj, h1 => by
    obtain rfl : x = t := by simpa using hj
    simp only [List.take_zero, simL, Option.some.injEq, Prod.mk.injEq] at h1
    obtain ⟨rfl, rfl⟩ := h1
    unfold simL at h
    cases hx : simT K st x with
    | none => rw [hx] at h; cases h
    | some y =>
      obtain ⟨K2, st2⟩ := y
      refine ⟨K2, st2, rfl, ?_⟩
      rw [List.take_succ_cons, List.take_zero]
      unfold simL
      rw [hx]; rfl
  | x :: l, K, st, j + 1, h, hj, h1 => by
    rw [List.take_succ_cons] at h1 ⊢
    unfold simL at h h1 ⊢
    cases hx : simT K st x with
    | none => rw [hx] at h; cases h
    | some y =>
      rw [hx] at h h1
      exact simL_at (l := l) h (by simpa using hj) h1
/-- What one tell does, read backwards. -/
theorem simT_1 {K K2 : List (List Int)} {st st2 : List Int} {t : TellM} (h : simT K st t = some (K2, st2)) (hk : t.kind = 1) : t.n = K.length ∧ K2 = K ++ [[]] ∧ st2 = t.n :: st := by
  unfold simT at h
  rw [if_pos hk] at h
  split at h
  · rename_i h1
    injection h with h; injection h with h2 h3
    exact ⟨h1, h2.symm, h3.symm⟩
  · cases h
theorem simT_2 {K K2 : List (List Int)} {st st2 : List Int} {t : TellM} (h : simT K st t = some (K2, st2)) (hk : t.kind = 2) : ∃ top r ds, st = top :: r ∧ K[top.toNat]? = some ds ∧ ds.getLast? = some t.n ∧ t.to = K.length ∧ K2 = K.set top.toNat ds.dropLast ++ [[]] ∧ st2 = t.to :: top :: r := by
  unfold simT at h
  rw [if_neg (by omega), if_pos hk] at h
  cases st with
  | nil => cases h
  | cons top r =>
    dsimp only at h
    cases hd : K[top.toNat]? with
    | none => rw [hd] at h; cases h
    | some ds =>
      rw [hd] at h
      dsimp only at h
      split at h
      · rename_i h1
        injection h with h; injection h with h2 h3
        exact ⟨top, r, ds, rfl, hd, h1.1, h1.2, h2.symm, h3.symm⟩
      · cases h
theorem simT_34 {K K2 : List (List Int)} {st st2 : List Int} {t : TellM} (h : simT K st t = some (K2, st2)) (hk : t.kind = 3 ∨ t.kind = 4) : ∃ r, st = t.n :: r ∧ K[t.n.toNat]? = some [] ∧ K2 = K ∧ st2 = r := by
  unfold simT at h
  rw [if_neg (by omega), if_neg (by omega), if_pos hk] at h
  cases st with
  | nil => cases h
  | cons top r =>
    dsimp only at h
    split at h
    · rename_i h1
      injection h with h; injection h with h2 h3
      exact ⟨r, by rw [h1.1], h1.2, h2.symm, h3.symm⟩
    · cases h
theorem simT_else {K K2 : List (List Int)} {st st2 : List Int} {t : TellM} (h : simT K st t = some (K2, st2)) (h1 : t.kind ≠ 1) (h2 : t.kind ≠ 2) (h3 : t.kind ≠ 3) (h4 : t.kind ≠ 4) : K2 = K ∧ st2 = st := by
  unfold simT at h
  rw [if_neg h1, if_neg h2, if_neg (by omega)] at h
  injection h with h; injection h with h5 h6
  exact ⟨h5.symm, h6.symm⟩
/-- The stack's numbers are numbers of what is kept; sizes. -/
structure Sg (k : Nat) (K : List (List Int)) (st : List Int) : Prop where
  rng : ∀ x ∈ st, 0 ≤ x ∧ x < K.length
  kl : K.length ≤ k
  sl : st.length ≤ k
theorem simT_sg {k : Nat} {K K2 : List (List Int)} {st st2 : List Int} {t : TellM} (h : simT K st t = some (K2, st2)) (hs : Sg k K st) : Sg (k + 1) K2 st2 := by
  by_cases h1 : t.kind = 1
  · obtain ⟨e1, rfl, rfl⟩ := simT_1 h h1
    refine ⟨fun x hx => ?_, by rw [List.length_append, List.length_singleton]; have := hs.kl; omega, by rw [List.length_cons]; have := hs.sl; omega⟩
    rw [List.length_append, List.length_singleton]
    rcases List.mem_cons.1 hx with rfl | hx
    · omega
    · have := hs.rng x hx; omega
  by_cases h2 : t.kind = 2
  · obtain ⟨top, r, ds, rfl, e2, e3, e4, rfl, rfl⟩ := simT_2 h h2
    have hl : (K.set top.toNat ds.dropLast ++ [[]]).length = K.length + 1 := by rw [List.length_append, List.length_set, List.length_singleton]
    refine ⟨fun x hx => ?_, by rw [hl]; have := hs.kl; omega, by rw [List.length_cons]; have := hs.sl; omega⟩
    rw [hl]
    rcases List.mem_cons.1 hx with rfl | hx
    · omega
    · have := hs.rng x hx; omega
  by_cases h3 : t.kind = 3 ∨ t.kind = 4
  · obtain ⟨r, rfl, e2, rfl, rfl⟩ := simT_34 h h3
    refine ⟨fun x hx => hs.rng x (List.mem_cons_of_mem _ hx), by have := hs.kl; omega, by have := hs.sl; rw [List.length_cons] at this; omega⟩
  · obtain ⟨rfl, rfl⟩ := simT_else h h1 h2 (fun e => h3 (.inl e)) (fun e => h3 (.inr e))
    exact ⟨hs.rng, by have := hs.kl; omega, by have := hs.sl; omega⟩
theorem Lk.sg {p : PlM} {K : List (List Int)} {st : List Int} (h : Lk p K st) {k : Nat} (hn : p.next ≤ k) (hl : p.fr.length ≤ k) : Sg k K st := by
  refine ⟨fun x hx => ?_, by have := h.kl; omega, by rw [h.st, List.length_map]; exact hl⟩
  rw [h.st] at hx
  obtain ⟨f, hf, rfl⟩ := List.mem_map.1 hx
  have := h.rng f hf; have := h.kl; omega
/-- The state in which main runs. -/
def st0' : PlM := ⟨[⟨0, 0, -1, 0, []⟩], [], 1, 0, 0, 0, []⟩
theorem st0_lk : Lk st0' [[]] [0] := by
  refine ⟨rfl, rfl, fun f hf => ?_, List.pairwise_singleton _ _, fun f hf => ?_⟩
  · have hf' := List.mem_singleton.1 (show f ∈ [_] from hf); subst hf'; rfl
  · have hf' := List.mem_singleton.1 (show f ∈ [_] from hf); subst hf'; exact ⟨by show (0 : Int) ≤ 0; decide, by show (0 : Int) < 1; decide⟩
end Go.Proofs.Ytfholconiofgoaa
