/- The laws TapeBack and TapeWhole: their walks as the lift wants them. No condition. -/
import Derived.Test.YtjkknjohmekeiaaTapeP
import Derived.Test.YtjkknjohmekeiaaTapeO
namespace Go.Proofs.Ytjkknjohmekeiaa
open Go.RowKit

theorem tapeBack_walk (w : World) (v : Value) (l : List Nat) (hb : RdB (Iv 0 w.heap.size) w v l) (_ : l.length ≤ reachBytes) :
    Calls Try.prog 5 #[v] w fun e w' => e = .returned (.bool true) ∧ Below w.heap.size w w' :=
  (tapeBack_core w v l hb).mono fun _ _ ⟨h1, h2⟩ => ⟨h1, h2.belowNo⟩
theorem tapeWhole_walk (w : World) (v : Value) (s : Scr) (hv : RdS (Iv 0 w.heap.size) w v s) (_ : ScrOk s) :
    Calls Try.prog 6 #[v] w fun e w' => e = .returned (.bool true) ∧ Below w.heap.size w w' :=
  (tapeWhole_core w v s _ hv (fun _ h => h.2)).mono fun _ _ ⟨h1, h2⟩ => ⟨h1, h2.belowNo⟩
end Go.Proofs.Ytjkknjohmekeiaa
