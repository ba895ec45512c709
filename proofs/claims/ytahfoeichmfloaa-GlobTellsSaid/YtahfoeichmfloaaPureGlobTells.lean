/- Which names any pattern matches is what the document says: the plain statement of GlobTells; no condition. -/
import Derived.Test.YtahfoeichmfloaaGlx8
import Derived.Test.YtahfoeichmfloaaGlobT
namespace Go.Proofs.Ytahfoeichmfloaa.Pure
set_option linter.unusedSimpArgs false
set_option linter.unusedVariables false
open Go.RowKit Go.Proofs.YtahfoeichmfloaaW.PrintWords Go.Proofs.YtahfoeichmfloaaW.PrintLast Go.Proofs.Ytahfoeichmfloaa.Gl Go.Proofs.Ytahfoeichmfloaa.GlobM Go.Proofs.Ytahfoeichmfloaa.GlobP Go.Proofs.Ytahfoeichmfloaa.GlobA Go.Proofs.Ytahfoeichmfloaa.GlobT

theorem GlobTells : patchworklaw5_GlobTells.Pure := by
  intro a0 a1 w0 w1
  refine Ev.rounds (g := fun k => patchworklaw5_GlobTells.f k a0 a1) ?_
  simp only [patchworklaw5_GlobTells.f]
  refine Ev.bind alive_ev ?_
  simp only [if_true]
  have out : ∀ (b : Bool), (b = false → a0.size ≤ 60 ∧ a1.size ≤ 100) → Ev (fun k => patchworklaw5_GlobTells.j0 k a0 a1 true b) true := by
    intro b hb
    refine Ev.step (fun k => by simp only [patchworklaw5_GlobTells.j0]; exact rfl) ?_
    cases b with
    | true => simp only [if_true]; exact Ev.now _
    | false =>
      simp only [Bool.false_eq_true, if_false]
      obtain ⟨h0, h1⟩ := hb rfl
      obtain ⟨is, hP⟩ := parse_ex a0 _ 0 rfl (Nat.zero_le _)
      refine Ev.bind (match_ev a0 a1 is (by omega) (by omega) hP) ?_
      refine Ev.bind (glob_ev a0 a1 (by omega) (by omega) is hP) ?_
      simp only [beq_self_eq_true]
      exact Ev.now _
  by_cases h : (a0.size : Int) > 60
  · simp only [if_pos h]
    exact out _ (fun h => by cases h)
  · simp only [if_neg h]
    exact out _ (fun hb => ⟨by omega, by have := of_decide_eq_false hb; omega⟩)

end Go.Proofs.Ytahfoeichmfloaa.Pure
