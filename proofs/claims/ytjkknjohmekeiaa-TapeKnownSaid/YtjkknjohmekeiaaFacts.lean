/- What the kernel reckons once of the whole program, for every law: closed facts. -/
import Derived.Test.YtjkknjohmekeiaaRows
import Derived.ProofKit
import Derived.JoinedOf
namespace Go.Proofs.Ytjkknjohmekeiaa
theorem facts_laid : laidOutB Try.prog = true := by kernel_rfl
theorem facts_maps : mapsRowed Try.prog = true := by kernel_rfl
theorem facts_plain : (Rows.tapeScriptsRow.plainKeys == Try.prog.plainKeys) = true := by kernel_rfl
theorem facts_heard : Try.prog.stopsHeard = true := by kernel_rfl
theorem facts_enter : Try.prog.mayEnter = true := by kernel_rfl
theorem facts_lifted : (Rows.tapeScriptsRow.lifted == Try.prog.liftsFinal) = true := by kernel_rfl
theorem facts_make : (Try.prog.make == some Rows.tapeScriptsRow.make) = true := by kernel_rfl
theorem facts_own : ownKnob Try.prog.godebug = none := by kernel_rfl
end Go.Proofs.Ytjkknjohmekeiaa
