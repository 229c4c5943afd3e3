/- The law TapeBytes: its walk as the lift wants it. No condition but that the script fits into memory. -/
import Derived.Test.YtjkknjohmekeiaaTapeN
import Derived.Test.YtjkknjohmekeiaaOpen
namespace Go.Proofs.Ytjkknjohmekeiaa
open Go.RowKit

theorem ScrOk.fit {s : Scr} (h : ScrOk s) : ScrFit s := by
  obtain ⟨h1, h2, h3, _⟩ := h
  have e : reachBytes = 140737488351232 := by decide
  rw [e] at h1 h2 h3
  exact ⟨h1, fun k hk => h2 _ (by rw [nth_eq hk]; exact List.getElem_mem _), h3⟩

theorem tapeBytes_walk (w : World) (v : Value) (s : Scr) (hv : RdS (Iv 0 w.heap.size) w v s) (hs : ScrOk s) :
    Calls Try.prog 4 #[v] w fun e w' => e = .returned (.bool true) ∧ Below w.heap.size w w' :=
  (tapeBytes_core w v s _ hv (fun _ h => h.2) hs.fit).mono fun _ _ ⟨h1, h2⟩ => ⟨h1, h2.belowNo⟩
end Go.Proofs.Ytjkknjohmekeiaa
