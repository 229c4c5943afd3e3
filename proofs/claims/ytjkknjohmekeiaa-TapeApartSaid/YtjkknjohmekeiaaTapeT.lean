/- The law TapeApart: its walk as the lift wants it. No condition. -/
import Derived.Test.YtjkknjohmekeiaaTapeR
import Derived.Test.YtjkknjohmekeiaaTapeO
namespace Go.Proofs.Ytjkknjohmekeiaa
open Go.RowKit

theorem tapeApart_walk (w : World) (va : Value) (s : Scr) (hva : RdS (Iv 0 w.heap.size) w va s) (_ : ScrOk s) (vb : Value) (t : Scr) (hvb : RdS (Iv 0 w.heap.size) w vb t) (_ : ScrOk t) (n : Int) (hn : (Lit.int .u8 n).wf = true) :
    Calls Try.prog 7 #[va, vb, .int .u8 n] w fun e w' => e = .returned (.bool true) ∧ Below w.heap.size w w' := by
  obtain ⟨h0, h1⟩ := wf_u8_range hn
  obtain ⟨m, rfl⟩ : ∃ m : Nat, n = (m : Int) := ⟨n.toNat, by omega⟩
  exact (tapeApart_core w va vb s t m (by omega) _ hva hvb (fun _ h => h.2)).mono fun _ _ ⟨h1, h2⟩ => ⟨h1, h2.belowNo⟩
end Go.Proofs.Ytjkknjohmekeiaa
