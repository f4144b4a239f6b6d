/- The statement RecordFlights: for whatever input the law returns true, and the input reads as it did. No condition of ours. -/
import Derived.Test.YtdelhhjhkjcpnaaRows
import Derived.Test.YtdelhhjhkjcpnaaQ6
import Derived.Test.YtdelhhjhkjcpnaaW3
import Derived.WalkKit
import Derived.ProofKit
import Derived.OpenShut
import Derived.ShutString
import Derived.ChangeOld
import Derived.Below
import Derived.SizedLaws
set_option linter.unusedVariables false
namespace Go.Proofs.Ytdelhhjhkjcpnaa.recordFlights
open Go.ChangeShapes Go.WideShapes Go.ChangeAt Go.RowKit
theorem own : ownKnob Try.prog.godebug = none := by kernel_rfl
theorem laidOut : laidOutB Try.prog = true := by kernel_rfl
set_option maxRecDepth 100000 in
theorem lifted (os : Os) (started : os.Started) (H : Type) (enc : TypeId × Value → H) :
    ReturnsInHanded {} Try.checked os 12 .any (Rows.recordFlightsSpec.pre6 enc Try.prog Try.f12 Rows.recordFlightsRow.domain false) (Rows.recordFlightsSpec.post enc Try.prog Try.f12 false true false false) := by
  refine returnsInHanded_of_change_sized (C := Try.checked) own started (by kernel_rfl) Try.func12
    (ChangeSpec.witness6 (enc := enc) (C := Try.checked) false ⟨#[], #[.agg #[.int .i64 0, .int .i64 0, .int .i64 0, .int .i64 0, .int .i64 0, .slice none 0 0, .slice none 0 0], .agg #[.slice none 0 0, .int .i64 0, .int .i64 0, .int .i64 0]], []⟩ 8 (by kernel_rfl) (by kernel_rfl) (by kernel_rfl) (by kernel_rfl)) ?_
  intro W base args ds gs before hval hW hcnd hsz0 _
  have hW' := hW
  obtain ⟨p, q, hA, hV, rfl, hfz, hnd⟩ := hW
  obtain ⟨rfl, rfl⟩ := trodVars_none hV
  have hcall := Go.VM.law_calls (P := Try.prog) Go.VM.m12_c (ts := Try.f12.params.toList) (n0 := 12) (by kernel_rfl) Go.VM.pure12 hA fun j t v ht hv => hval j t v (by simpa using ht) (by simpa using hv)
  rw [Array.toArray_toList] at hcall
  refine hcall.mono fun e W' ⟨he, bel⟩ => ?_
  subst he
  have hB := Go.VM.args_back laidOut bel _ _ _ _ (by kernel_rfl) hA
  obtain ⟨d0, d1, rfl⟩ : ∃ d0 d1, ds = [d0, d1] := by
    have hl : ds.length = 2 := Go.VM.all_len _ _ _ _ hA
    match ds, hl with
    | [d0, d1], _ => exact ⟨d0, d1, rfl⟩
  exact ⟨_, rfl, _, _, _, [], _, [], hW', trodAll_mk1 (shut_bool (by kernel_rfl) _), hB, rfl, bel.frame _, fun h => by cases h⟩
theorem over : Rows.recordFlightsRow.holds Try.pinned (OpenSpec.ofChange Rows.recordFlightsSpec) :=
  OpenClaim.holds_of_wide 12 Try.f12 rfl rfl rfl rfl rfl rfl rfl ⟨rfl, rfl, rfl, rfl, rfl⟩ rfl rfl rfl rfl rfl (by kernel_rfl) Try.func12 (by kernel_rfl)
    (of_decide_eq_true (by kernel_rfl)) (by unfold Func.isWrapper; first | (rw [if_pos (by decide +kernel)]; kernel_rfl) | (rw [if_neg (by decide +kernel)]; exact ⟨rfl, rfl⟩))
    (fun os started H enc _ => lifted os started H enc)
theorem proved : Rows.RecordFlightsSaid := over
#print axioms proved
end Go.Proofs.Ytdelhhjhkjcpnaa.recordFlights
namespace Go.Proofs.Ytdelhhjhkjcpnaa
/-- The row, under a short name, for the claim. -/
theorem recordFlights_holds : Rows.RecordFlightsSaid := recordFlights.proved
end Go.Proofs.Ytdelhhjhkjcpnaa
