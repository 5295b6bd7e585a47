/-
  Codes whose rows are a call's own. No condition.
-/
import Derived.Test.YtgonekmmbeedeaaCode
import Derived.Test.YtgonekmmbeedeaaRow
import Derived.Test.YtgonekmmbeedeaaBlk
namespace Go.Proofs.Ytgonekmmbeedeaa
open Go.RowKit
set_option linter.unusedVariables false

theorem elFnIs : El Try.prog 22 45 (.agg #[.string ⟨#[]⟩, .int .i64 0, .int .i64 0, .int .i64 0, .slice none 0 0]) 5 64 := elFn
/-- The plain bounds of a function's parts. -/
def okFnB (f : FnM) : Prop := f.name.size ≤ 140737488351232 ∧ okI f.params ∧ okI f.slots ∧ okI f.caps ∧ f.ins.length * 48 ≤ 140737488351232
/-- A function whose instructions are a row of the call's own. -/
def CeOFn (base : Nat) (w : World) (cs : List Value) (f : FnM) : Prop := ∃ lins, cs = [.string f.name, .int .i64 f.params, .int .i64 f.slots, .int .i64 f.caps, lins] ∧ OwnL CeIns 6 64 w base lins f.ins ∧ okFnB f
theorem CeOFn.ce {base : Nat} {w : World} {cs : List Value} {f : FnM} (h : CeOFn base w cs f) : CeFn w cs f := by
  obtain ⟨l, h, h0, h1, h2, h3, h4, h5⟩ := h
  exact ⟨l, h, h1, h2, h3, h4, h0.rd, h5⟩
/-- Rows under a step that turns one other block. -/
theorem ownL_kept {α : Type} {el : World → List Value → α → Prop} {sz : Nat} {e : TypeId} {w w' : World} {base : Nat} {v : Value} {l : List α} {row : Option Nat} (hel : ∀ cs a, el w cs a → el w' cs a) (h : OwnL el sz e w base v l) (hg : w.grownBy w' row) (hne : ∀ g, v.ownBlock = some g → some g ≠ row) : OwnL el sz e w' base v l := by
  obtain ⟨xs, h1, h3⟩ := h
  refine ⟨xs, World.ownsRow.kept h1 hg ?_, Chunk.mono hel h3⟩
  cases hb : v.ownBlock with
  | none => exact .inl rfl
  | some g => exact .inr (hne g hb)
theorem own_ge {w : World} {base size n g : Nat} {e : TypeId} {v : Value} {xs : List Value} (h : w.ownsRow base e size v n xs) (hv : v.ownBlock = some g) : base ≤ g := by
  rcases h.2 with ⟨rfl, _⟩ | ⟨g', cap, cur, rfl, hb, _⟩
  · cases hv
  · simp only [Value.ownBlock, Option.some.injEq] at hv; omega
/-- Rows from base on under a step that turns one block below. -/
theorem ownL_above {α : Type} {el : World → List Value → α → Prop} {sz : Nat} {e : TypeId} {w w' : World} {base rb : Nat} {v : Value} {l : List α} (hel : ∀ cs a, el w cs a → el w' cs a) (h : OwnL el sz e w base v l) (hg : w.grownBy w' (some rb)) (hb : rb < base) : OwnL el sz e w' base v l :=
  ownL_kept hel h hg (fun g hv e => by obtain ⟨xs, h1, _⟩ := h; have := own_ge h1 hv; injection e with e; omega)
theorem CeIns.any {w w' : World} {cs : List Value} {i : InsM} (h : CeIns w cs i) : CeIns w' cs i := h
theorem CeStr.any {w w' : World} {cs : List Value} {i : ByteArray} (h : CeStr w cs i) : CeStr w' cs i := h
theorem CeOFn.above {base rb : Nat} {w w' : World} {cs : List Value} {f : FnM} (h : CeOFn base w cs f) (hg : w.grownBy w' (some rb)) (hb : rb < base) : CeOFn base w' cs f := by
  obtain ⟨l, h, h0, h1⟩ := h
  exact ⟨l, h, ownL_above (fun _ _ h => h.any) h0 hg hb, h1⟩
theorem ownL_touch {α : Type} {el : World → List Value → α → Prop} {sz : Nat} {e e' : TypeId} {w w' : World} {base : Nat} {v : Value} {l : List α} (hne : e' ≠ e) (hel : ∀ cs a, el w cs a → el w' cs a) (h : OwnL el sz e' w base v l) (ht : Touch e w w') : OwnL el sz e' w' base v l := by
  obtain ⟨xs, h1, h3⟩ := h
  exact ⟨xs, ownsRow_touch hne h1 ht, Chunk.mono hel h3⟩
theorem CeOFn.touch {base : Nat} {e : TypeId} (hne : 64 ≠ e) {w w' : World} {cs : List Value} {f : FnM} (h : CeOFn base w cs f) (ht : Touch e w w') : CeOFn base w' cs f := by
  obtain ⟨l, h, h0, h1⟩ := h
  exact ⟨l, h, ownL_touch hne (fun _ _ h => h.any) h0 ht, h1⟩
theorem CeOFn.kp {base : Nat} : ElKp (CeOFn base) := fun _ _ _ _ hk ⟨l, h, h0, h1⟩ => ⟨l, h, h0.kp CeIns.kp hk, h1⟩
theorem CeOFn.base_ {b B : Nat} (hb : b ≤ B) {w : World} {cs : List Value} {f : FnM} (h : CeOFn B w cs f) : CeOFn b w cs f := by
  obtain ⟨l, h, h0, h1⟩ := h
  exact ⟨l, h, OwnL.base_ hb h0, h1⟩
/-- A code whose rows are the call's own. -/
def OCode (w : World) (base : Nat) (v : Value) (c : CodeM) : Prop := ∃ vf vt, v = .agg #[vf, vt] ∧ OwnL (CeOFn base) 5 45 w base vf c.funcs ∧ OwnL CeStr 1 9 w base vt c.texts ∧ c.funcs.length * 64 ≤ 140737488351232 ∧ c.texts.length * 16 ≤ 140737488351232
theorem OCode.rd {w : World} {base : Nat} {v : Value} {c : CodeM} (h : OCode w base v c) : RdCode w v c := by
  obtain ⟨vf, vt, rfl, h1, h2, h3, h4⟩ := h
  exact ⟨vf, vt, rfl, (OwnL.rd h1).mono (fun _ _ h => h.ce), h3, OwnL.rd h2, h4⟩
theorem OCode.kp {w w' : World} {base : Nat} {v : Value} {c : CodeM} (h : OCode w base v c) (hk : Kp w w') : OCode w' base v c := by
  obtain ⟨vf, vt, rfl, h1, h2, h3, h4⟩ := h
  exact ⟨vf, vt, rfl, h1.kp CeOFn.kp hk, h2.kp CeStr.kp hk, h3, h4⟩
theorem set2_cells {w : World} {b : Nat} (h0 : BoxAt w b 0) (h1 : BoxAt w b 1) (v0 v1 : Value) : ((w.setCell ⟨b, 0, none⟩ v0).setCell ⟨b, 1, none⟩ v1).cell? ⟨b, 0, none⟩ = some v0 ∧ ((w.setCell ⟨b, 0, none⟩ v0).setCell ⟨b, 1, none⟩ v1).cell? ⟨b, 1, none⟩ = some v1 := by
  refine ⟨(World.cell?_setCell_other _ _ _ _ (fun e => by injection e with _ e2; cases e2)).trans (World.cell?_setCell_same _ _ _ h0.1), World.cell?_setCell_same _ _ _ (h1.setCell _ _).1⟩
end Go.Proofs.Ytgonekmmbeedeaa
