/-
  The laws' own words of codes: sameCode, least. Condition: what comes in lies within the reach.
-/
import Derived.Test.YtgonekmmbeedeaaCodeL
import Derived.Test.YtgonekmmbeedeaaSoundQ
import Derived.Test.YtgonekmmbeedeaaToks
import Derived.Test.YtgonekmmbeedeaaRegionT
namespace Go.Proofs.Ytgonekmmbeedeaa
open Go.RowKit
set_option linter.unusedVariables false
set_option linter.unusedSimpArgs false

def mainB : ByteArray := ⟨#[109, 97, 105, 110]⟩
theorem main_runs : ToksM mainB (.ok [⟨1, mainB, 1, 1⟩, ⟨6, semiB, 1, 5⟩]) := by
  unfold ToksM
  rw [if_neg (by decide)]
  have s1 : stepM mainB cut0 = .ok ⟨4, 1, 5, [⟨1, mainB, 1, 1⟩]⟩ := by
    have h : restOf mainB 0 = 109 :: [97, 105, 110] := rfl
    rw [step_name (S := mainB) (c := cut0) (b := 109) (r := [97, 105, 110]) h (by decide) (by decide) (by decide) (by decide)]
    rfl
  refine .step (by decide) s1 ?_
  exact Runs.fin (S := mainB) (c := ⟨4, 1, 5, [⟨1, mainB, 1, 1⟩]⟩) (by decide)
def leastM : CodeM := ⟨[⟨mainB, 0, 0, 0, [⟨29, -1, 0, 0, 0, 0⟩]⟩], []⟩
theorem least_sound : soundM leastM = (0, 0, 0) := by
  have hn : NamedP mainB := .inr ⟨_, _, main_runs, rfl, rfl, rfl, rfl⟩
  have hh : headM 0 ⟨mainB, 0, 0, 0, [⟨29, -1, 0, 0, 0, 0⟩]⟩ = 0 := by
    unfold headM
    rw [if_neg (by simpa using hn), if_neg (by simp [withinB]), if_neg (by simp), if_neg (by simp), if_neg (by simp)]
  have hi : insM leastM ⟨mainB, 0, 0, 0, [⟨29, -1, 0, 0, 0, 0⟩]⟩ ⟨29, -1, 0, 0, 0, 0⟩ = 0 := by
    unfold insM
    rw [if_neg (by decide), if_pos (by decide), if_neg (by decide)]
  refine sound_ok (by unfold leastM; simp) (by unfold leastM; simp) (fun j t h => by unfold leastM at h; simp at h) (fun j g h => ?_)
  match j, h with
  | 0, h =>
    injection h with h
    subst h
    rw [fnE_ok hh (fun j b hb => ?_) (by decide)]
    match j, hb with
    | 0, hb => injection hb with hb; subst hb; exact hi
  | j + 1, h => unfold leastM at h; simp at h
set_option maxRecDepth 20000 in
set_option maxHeartbeats 4000000 in
theorem least_any (w : World) : Calls Try.prog 15 #[] w fun e w' => (∃ v, e = .returned v ∧ OCode w' w.heap.size v leastM) ∧ Kp w w' := by
  go_enter Try.func15, Try.ntmps15
  go_wp2
  refine bodyPost_ret (v := .agg #[.slice (some ⟨w.heap.size + 1 + 1, 0, none⟩) 1 1, .slice none 0 0]) (by simp [results, Try.results15, go_sem]) rfl ?_
  have hi := World.ownsRow_lit (base := w.heap.size) (e := 64) (size := 6) (w.alloc (Obj.cells #[.slice (some ⟨w.heap.size + 1 + 1, 0, none⟩) 1 1, .slice none 0 0] 25)) #[.int .i64 29, .int .i64 (-1), .int .i64 0, .int .i64 0, .int .i64 0, .int .i64 0] 1 (by simp) (by decide) rfl
  rw [World.size_alloc] at hi
  have hi2 := ownsRow_keep hi ((Kp.refl _).alloc (.cells #[.string ⟨#[109, 97, 105, 110]⟩, .int .i64 0, .int .i64 0, .int .i64 0, .slice (some ⟨w.heap.size + 1, 0, none⟩) 1 1] 45))
  have hf := World.ownsRow_lit (base := w.heap.size) (e := 45) (size := 5) ((w.alloc (Obj.cells #[.slice (some ⟨w.heap.size + 1 + 1, 0, none⟩) 1 1, .slice none 0 0] 25)).alloc (.cells #[.int .i64 29, .int .i64 (-1), .int .i64 0, .int .i64 0, .int .i64 0, .int .i64 0] 64)) #[.string ⟨#[109, 97, 105, 110]⟩, .int .i64 0, .int .i64 0, .int .i64 0, .slice (some ⟨w.heap.size + 1, 0, none⟩) 1 1] 1 (by simp; omega) (by decide) rfl
  rw [World.size_alloc, World.size_alloc] at hf
  have z : okI 0 := ⟨by omega, by omega⟩
  refine ⟨⟨_, rfl, _, _, rfl, ⟨_, hf, Chunk.one ⟨.slice (some ⟨w.heap.size + 1, 0, none⟩) 1 1, rfl, ⟨_, hi2, Chunk.one ⟨rfl, ⟨by decide, by decide⟩, ⟨by decide, by decide⟩, z, z, z, z⟩ rfl⟩, by decide, z, z, z, by decide⟩ rfl⟩, OwnL.nil _ _ _ _ _, by decide, by decide⟩, ((Kp.refl _).alloc _).alloc _ |>.alloc _⟩
end Go.Proofs.Ytgonekmmbeedeaa
