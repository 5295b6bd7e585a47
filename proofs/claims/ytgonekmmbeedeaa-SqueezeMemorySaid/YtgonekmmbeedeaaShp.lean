/-
  What writing over rows leaves: blocks below lo and those from hi on are as they were, every block keeps its type and its length. No condition.
-/
import Derived.Test.YtgonekmmbeedeaaOCode
namespace Go.Proofs.Ytgonekmmbeedeaa
open Go.RowKit
set_option linter.unusedVariables false
set_option linter.unusedSimpArgs false

structure Sh (lo hi : Nat) (w w' : World) : Prop where
  os : w'.os = w.os
  tape : w'.tape = w.tape
  output : w'.output = w.output
  size : w.heap.size ≤ w'.heap.size
  low : ∀ k, k < lo → w'.heap[k]? = w.heap[k]?
  high : ∀ k, hi ≤ k → k < w.heap.size → w'.heap[k]? = w.heap[k]?
  shp : ∀ (k : Nat) (cs : Array Value) (T : TypeId), w.heap[k]? = some (Obj.cells cs T (0, 0)) → ∃ cs' : Array Value, w'.heap[k]? = some (Obj.cells cs' T (0, 0)) ∧ cs'.size = cs.size
theorem Sh.refl (lo hi : Nat) (w : World) : Sh lo hi w w := ⟨rfl, rfl, rfl, Nat.le_refl _, fun _ _ => rfl, fun _ _ _ => rfl, fun k cs T h => ⟨cs, h, rfl⟩⟩
theorem Sh.trans {lo hi : Nat} {a b c : World} (h : Sh lo hi a b) (k : Sh lo hi b c) : Sh lo hi a c :=
  ⟨k.os.trans h.os, k.tape.trans h.tape, k.output.trans h.output, Nat.le_trans h.size k.size, fun i hi => (k.low i hi).trans (h.low i hi), fun i h1 h2 => (k.high i h1 (Nat.lt_of_lt_of_le h2 h.size)).trans (h.high i h1 h2), fun i cs T hc => by
    obtain ⟨c1, g1, g2⟩ := h.shp i cs T hc
    obtain ⟨c2, g3, g4⟩ := k.shp i c1 T g1
    exact ⟨c2, g3, g4.trans g2⟩⟩
theorem Sh.of_kp {lo hi : Nat} {w w' : World} (h : Kp w w') (hl : lo ≤ w.heap.size) : Sh lo hi w w' := ⟨h.os, h.tape, h.output, h.size, fun k hk => h.block k (by omega), fun k _ hk => h.block k hk, fun k cs T hc => ⟨cs, (h.block k (blk_lt hc)).trans hc, rfl⟩⟩
theorem Sh.below {lo hi : Nat} {w w' : World} (h : Sh lo hi w w') : Below lo w w' := ⟨h.os, h.tape, h.output, h.size, h.low⟩
theorem Sh.setCell {lo hi g i : Nat} {w w' : World} (h : Sh lo hi w w') (h1 : lo ≤ g) (h2 : g < hi ∨ w.heap.size ≤ g) (v : Value) : Sh lo hi w (w'.setCell ⟨g, i, none⟩ v) := by
  have e : ∀ k, k ≠ g → (w'.setCell ⟨g, i, none⟩ v).heap[k]? = w'.heap[k]? := fun k hk => blk_far (p := ⟨g, i, none⟩) hk v
  refine ⟨h.os, h.tape, h.output, by simpa [World.setCell] using h.size, fun k hk => ?_, fun k hk hs => ?_, fun k cs T hc => ?_⟩
  · rw [e k (by omega)]; exact h.low k hk
  · rw [e k (by omega)]; exact h.high k hk hs
  · obtain ⟨c1, g1, g2⟩ := h.shp k cs T hc
    by_cases hk : k = g
    · subst hk
      exact ⟨_, blk_set g1 _, by simpa using g2⟩
    · exact ⟨c1, (e k hk).trans g1, g2⟩
theorem Sh.setRow {lo hi g : Nat} {w : World} {cur cur' : Array Value} {T : TypeId} (hg : w.heap[g]? = some (.cells cur T (0, 0))) (h1 : lo ≤ g) (h2 : g < hi) (hc : cur'.size = cur.size) : Sh lo hi w (w.setRow g cur') := by
  have e : ∀ k, k ≠ g → (w.setRow g cur').heap[k]? = w.heap[k]? := fun k hk => setRow_other w g k _ hk
  refine ⟨rfl, rfl, rfl, by simp [World.setRow], fun k hk => e k (by omega), fun k hk hs => e k (by omega), fun k cs T' hc' => ?_⟩
  by_cases hk : k = g
  · subst hk
    rw [hg] at hc'
    injection hc' with hc'
    injection hc' with hc' hT
    subst hc'; subst hT
    exact ⟨cur', setRow_heap w _ _ _ _ _ hg, hc⟩
  · exact ⟨cs, (e k hk).trans hc', rfl⟩
/-- A row of the call's own, whatever it holds. -/
def TRow (w : World) (base : Nat) (e : TypeId) (sz : Nat) (v : Value) (n : Nat) : Prop := ∃ xs, w.ownsRow base e sz v n xs
theorem TRow.sh {lo hi base sz n : Nat} {e : TypeId} {w w' : World} {v : Value} (h : TRow w base e sz v n) (hs : Sh lo hi w w') : TRow w' base e sz v n := by
  obtain ⟨xs, h1, h2⟩ := h
  rcases h2 with ⟨rfl, h0⟩ | ⟨g, cap, cur, rfl, hb, hg, hnc, hm, hsz, htk⟩
  · exact ⟨xs, h1, .inl ⟨rfl, h0⟩⟩
  · obtain ⟨c1, g1, g2⟩ := hs.shp g cur e hg
    refine ⟨c1.toList.take (n * sz), ?_, .inr ⟨g, cap, c1, rfl, hb, g1, hnc, hm, g2.trans hsz, rfl⟩⟩
    have := Nat.mul_le_mul_right sz hnc
    rw [List.length_take, Array.length_toList, g2, hsz]; omega
/-- Rows from hi on are as they were. -/
theorem own_high {lo hi base sz n : Nat} {e : TypeId} {w w' : World} {v : Value} {xs : List Value} (h : w.ownsRow base e sz v n xs) (hs : Sh lo hi w w') (hb : hi ≤ base) : w'.ownsRow base e sz v n xs := by
  obtain ⟨h1, h2⟩ := h
  refine ⟨h1, ?_⟩
  rcases h2 with h2 | ⟨g, cap, cur, hv, hbg, hg, r⟩
  · exact .inl h2
  · exact .inr ⟨g, cap, cur, hv, hbg, (hs.high g (by omega) (blk_lt hg)).trans hg, r⟩
theorem OCode.high {lo hi base : Nat} {w w' : World} {v : Value} {c : CodeM} (h : OCode w base v c) (hs : Sh lo hi w w') (hb : hi ≤ base) : OCode w' base v c := by
  obtain ⟨vf, vt, rfl, ⟨xs, h1, h2⟩, ⟨ys, h3, h4⟩, h5, h6⟩ := h
  refine ⟨vf, vt, rfl, ⟨xs, own_high h1 hs hb, Chunk.mono (fun cs f hf => ?_) h2⟩, ⟨ys, own_high h3 hs hb, Chunk.mono (fun _ _ h => CeStr.any h) h4⟩, h5, h6⟩
  obtain ⟨l, e, ⟨zs, g1, g2⟩, g3⟩ := hf
  exact ⟨l, e, ⟨zs, own_high g1 hs hb, Chunk.mono (fun _ _ h => CeIns.any h) g2⟩, g3⟩
/-- What an append leaves. -/
theorem run_app_sh {P : Program} {t e : TypeId} {z : Value} {size bytes : Nat} (E : El P t e z size bytes) (ty : TypeId) {w0 : World} {lo hi n m : Nat} {v : Value} (hown : TRow w0 lo e size v n) (news : List Value) (ad : Addr) (c : Nat)
    (hl : news.length = m * size) (hcell : ∀ j u, news[j]? = some u → w0.cell? (ad.add j) = some u) (h1 : ∀ u ∈ news, u.oneCell' = true) (hm0 : 0 < m) (h63 : n + m ≤ maxLen) (hbytes : (n + m) * bytes ≤ 140737488355328) (hlo : lo ≤ w0.heap.size) (hhi : ∀ g, v.ownBlock = some g → g < hi) :
    ∃ v' w', (Builtin.append_ #[t, t] ty #[v, .slice (some ad) m c]).run P w0 = .ok v' w' ∧ TRow w' lo e size v' (n + m) ∧ (∀ g, v'.ownBlock = some g → g < hi ∨ w0.heap.size ≤ g) ∧ Sh lo hi w0 w' ∧ Touch e w0 w' := by
  obtain ⟨i, ht, hi', hz, hsz, hby, hzs, h0⟩ := E
  obtain ⟨xs, hown'⟩ := hown
  obtain ⟨hl1, hown2⟩ := hown'
  obtain ⟨v', w', g1, g2, g3, _, g4⟩ := run_append_own_at (P := P) w0 lo t ty e i z size bytes ht hi' hz hsz hby hzs h0 v n xs ⟨hl1, hown2⟩ ad m c news hl hcell h1 h63 hbytes hlo
  refine ⟨v', w', g1, ⟨_, g2⟩, ?_, ?_⟩
  · intro g hg
    rcases g4 with g4 | g4
    · exact .inl (hhi g (g4.symm.trans hg))
    · rw [g4] at hg; injection hg with hg; right; omega
  · have hT := Touch.of_grown (w := w0) ⟨hl1, hown2⟩ g3
    refine ⟨?_, hT⟩
    have hown3 : w0.ownsRow lo e size v n xs := ⟨hl1, hown2⟩
    rcases hown2 with ⟨rfl, h00⟩ | ⟨g, cap, cur, rfl, hbg, hg, hnc, hcm, hcs, htake⟩
    · exact Sh.of_kp ⟨g3.os, g3.tape, g3.output, g3.size, fun k hk => g3.block k hk (by simp [Value.ownBlock])⟩ hlo
    · by_cases hroom : n + m ≤ cap
      · have hr := run_append_room (P := P) w0 t ty e i ht hi' g n cap cur hg ad m c news (by rw [hsz]; exact hl) hcell h1 hroom (by rw [hsz, hl, hcs, ← Nat.add_mul]; exact Nat.mul_le_mul_right _ hroom)
        rw [g1] at hr
        injection hr with _ hr
        subst hr
        refine Sh.setRow hg hbg (hhi g rfl) ?_
        rw [hsz]
        have hle := Nat.mul_le_mul_right size hroom
        rw [Nat.add_mul] at hle
        simp only [List.size_toArray, List.length_append, List.length_take, List.length_drop, Array.length_toList, hl, hcs]
        omega
      · have holds : ∀ j u, xs[j]? = some u → w0.cell? ((⟨g, 0, none⟩ : Addr).add j) = some u := hown3.cells (g := g) rfl
        have hr := run_append_grow (P := P) w0 t ty e i z ht hi' hz ⟨g, 0, none⟩ n cap xs (by rw [hsz]; exact hl1) holds ad m c news (by rw [hsz]; exact hl) hcell (by omega) (by unfold maxLen at h63; omega) (growslice_fits (by omega) (by rw [hby]; exact hbytes))
        rw [g1] at hr
        injection hr with _ hr
        subst hr
        exact Sh.of_kp (((Kp.refl w0).drew).alloc _) hlo
/-- append(own row, a literal row): the literal lies in the block made last. -/
theorem app_sh {P : Program} {t e : TypeId} {z : Value} {size bytes : Nat} {w0 : World} {ops : Array Oper} {rest : List Oper} {o : Oper} {a : Act} {Q : Exit → Act → World → Prop} {lo hi n m : Nat} {v : Value} (E : El P t e z size bytes) (hgd : o.guard = none) (s x : Operand) (ho : o.op = .call { callee := .builtin .append, args := #[s, x], argTypes := #[t, t] })
    (hown : TRow w0 lo e size v n) (hs : a.eval s = v) (cs : Array Value) (T : TypeId) (c : Nat) (hx : a.eval x = .slice (some ⟨w0.heap.size, 0, none⟩) m c) (hl : cs.size = m * size)
    (h1 : ∀ u ∈ cs.toList, u.oneCell' = true) (hm0 : 0 < m) (h63 : n + m ≤ maxLen) (hbytes : (n + m) * bytes ≤ 140737488355328) (hbase : lo ≤ w0.heap.size) (hhi : ∀ g, v.ownBlock = some g → g < hi)
    (h : ∀ v' w', TRow w' lo e size v' (n + m) → (∀ g, v'.ownBlock = some g → g < hi ∨ w0.heap.size ≤ g) → Sh lo hi w0 w' → Touch e w0 w' → wpList P ops Q rest (a.put o.dst v') w') :
    wpList P ops Q (o :: rest) a (w0.alloc (.cells cs T)) := by
  have hk : Kp w0 (w0.alloc (.cells cs T)) := (Kp.refl _).alloc _
  obtain ⟨xs, hox⟩ := hown
  obtain ⟨v', w', hrun, g1, g2, g3, g4⟩ := run_app_sh (w0 := w0.alloc (.cells cs T)) (hi := hi) E o.type ⟨xs, ownsRow_keep hox hk⟩ cs.toList ⟨w0.heap.size, 0, none⟩ c (by simpa using hl) (fun j u hj => by rw [cell_of_alloc]; rw [← Array.getElem?_toList]; exact hj) h1 hm0 h63 hbytes (by simp; omega) hhi
  refine wpList_plain hgd fun K hK => ?_
  unfold Oper.wp execOp
  simp only [ho, resolve, invoke, builtin, Sem.run_bind, Sem.run_pure, Result.andThen_ok, List.map_toArray, List.map_cons, List.map_nil, hs, hx, hrun]
  refine hK _ _ (h v' w' g1 (fun g hg => ?_) ((Sh.of_kp hk hbase).trans g3) ((Touch.of_kp hk).trans g4))
  rcases g2 g hg with h1 | h1
  · exact .inl h1
  · right; simp at h1; omega
/-- Its first cell. -/
theorem TRow.head {w : World} {lo n sz : Nat} {e : TypeId} {v : Value} (h : TRow w lo e sz v n) (hn : 0 < n) : ∃ g c, v = .slice (some ⟨g, 0, none⟩) n c ∧ lo ≤ g ∧ n ≤ c ∧ (∃ cs, w.heap[g]? = some (.cells cs e (0, 0))) ∧ ∀ j, j < n * sz → ∃ y, w.cell? ⟨g, j, none⟩ = some y ∧ w.frozen? ⟨g, j, none⟩ = false := by
  obtain ⟨xs, h1⟩ := h
  obtain ⟨g, c, rfl, hc⟩ := rowSome h1 hn
  refine ⟨g, c, rfl, (rowGe h1).1, hc, ?_, fun j hj => ?_⟩
  · rcases h1.2 with ⟨h2, _⟩ | ⟨g', cap', cur, hv, hb, hg, _⟩
    · cases h2
    · cases hv; exact ⟨_, hg⟩
  · obtain ⟨h2, h3⟩ := rowAt h1 hj
    have hx := h1.1
    exact ⟨_, h2.trans (List.getElem?_eq_getElem (by omega)), h3⟩
end Go.Proofs.Ytgonekmmbeedeaa
