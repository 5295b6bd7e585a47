/-
  The packages' law on tokens: three. No condition.
-/
import Derived.Test.YtlfgofjmcegeiaaScanT
import Derived.Test.YtlfgofjmcegeiaaScanQ
namespace Go.Proofs.Ytlfgofjmcegeiaa
open Go.RowKit
set_option linter.unusedVariables false
set_option linter.unusedSimpArgs false

def a1B : ByteArray := ⟨#[97, 43, 49]⟩
theorem num_1 : NumP [49] := ⟨1, by omega, by omega, by decide +kernel⟩
def a1T : List TokenM := [⟨1, ⟨#[97]⟩, 1, 1⟩, ⟨4, ⟨#[43]⟩, 1, 2⟩, ⟨2, ⟨#[49]⟩, 1, 3⟩, ⟨6, semiB, 1, 4⟩]
theorem a1_runs : ToksM a1B (.ok a1T) := by
  unfold ToksM
  rw [if_neg (by decide)]
  have s1 : stepM a1B cut0 = .ok ⟨1, 1, 2, [⟨1, ⟨#[97]⟩, 1, 1⟩]⟩ := by
    have h : restOf a1B 0 = 97 :: [43, 49] := rfl
    rw [step_name (S := a1B) (c := cut0) (b := 97) (r := [43, 49]) h (by decide) (by decide) (by decide) (by decide)]
    rfl
  have s2 : stepM a1B ⟨1, 1, 2, [⟨1, ⟨#[97]⟩, 1, 1⟩]⟩ = .ok ⟨2, 1, 3, [⟨1, ⟨#[97]⟩, 1, 1⟩, ⟨4, ⟨#[43]⟩, 1, 2⟩]⟩ := by
    have h : restOf a1B 1 = 43 :: [49] := rfl
    rw [step_sign (S := a1B) (c := ⟨1, 1, 2, [⟨1, ⟨#[97]⟩, 1, 1⟩]⟩) (b := 43) (r := [49]) h (by decide) (by decide) (by decide) (by decide) (by decide) (by decide) (by decide)]
    rfl
  have s3 : stepM a1B ⟨2, 1, 3, [⟨1, ⟨#[97]⟩, 1, 1⟩, ⟨4, ⟨#[43]⟩, 1, 2⟩]⟩ = .ok ⟨3, 1, 4, [⟨1, ⟨#[97]⟩, 1, 1⟩, ⟨4, ⟨#[43]⟩, 1, 2⟩, ⟨2, ⟨#[49]⟩, 1, 3⟩]⟩ := by
    have h : restOf a1B 2 = 49 :: [] := rfl
    rw [step_number (S := a1B) (c := ⟨2, 1, 3, [⟨1, ⟨#[97]⟩, 1, 1⟩, ⟨4, ⟨#[43]⟩, 1, 2⟩]⟩) (b := 49) (r := []) h (by decide) (by decide) (by decide) (by decide) (by decide)]
    unfold numberM
    rw [if_pos (by exact num_1)]
    rfl
  refine .step (by decide) s1 (.step (by decide) s2 (.step (by decide) s3 ?_))
  exact Runs.fin (S := a1B) (c := ⟨3, 1, 4, [⟨1, ⟨#[97]⟩, 1, 1⟩, ⟨4, ⟨#[43]⟩, 1, 2⟩, ⟨2, ⟨#[49]⟩, 1, 3⟩]⟩) (by decide)
theorem OwnL.at_tok {w : World} {base : Nat} {v : Value} {l : List TokenM} (h : OwnL CeToken 4 41 w base v l) : RdL CeToken 4 w v l := OwnL.rd h
set_option maxRecDepth 20000 in
set_option maxHeartbeats 4000000 in
theorem three_any (w : World) : Calls Try.prog 18 #[] w fun e w' => e = .returned (.bool true) ∧ Kp w w' := by
  go_enter Try.func18, Try.ntmps18
  go_wp2_with fail
  refine (toks_any _ a1B (by decide)).mono ?_
  rintro e w1 ⟨h1, hk1⟩
  rcases h1 with ⟨l, v, hT, rfl, ho⟩ | ⟨er, hT, _⟩
  · have hd := hT.det a1_runs
    injection hd with hd
    subst hd
    have hr := OwnL.rd ho
    obtain ⟨A, c, rfl, _⟩ := hr.form
    obtain ⟨b, off, rfl, hb, g0, g1, g2, g3, _⟩ := at_token hr (i := 1) (m := ⟨4, ⟨#[43]⟩, 1, 2⟩) rfl
    obtain ⟨b', off', e', hb', k0, k1, k2, k3, _⟩ := at_token hr (i := 3) (m := ⟨6, semiB, 1, 4⟩) rfl
    cases e'
    have HK := hid hk1
    have h4 : a1T.length = 4 := rfl
    rw [h4]
    simp only [Nat.reduceMul] at g0 g1 g2 g3 k0 k1 k2 k3
    clear hT hr ho hk1 g2 g3 k1 k2 k3
    have tl : ((⟨#[43]⟩ : ByteArray).toList == [43]) = true := by rw [ByteArray.toList_eq]; rfl
    go_wp2
    go_ret
    exact ⟨rfl, HK.out.alloc _⟩
  · have hd := hT.det a1_runs
    cases hd
end Go.Proofs.Ytlfgofjmcegeiaa
