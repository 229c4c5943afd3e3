/- Buddies in memory: Frees. No condition. -/
import Derived.Test.YtjkknjohmekeiaaBuddyG
import Derived.Test.YtjkknjohmekeiaaBuddyE
namespace Go.Proofs.Ytjkknjohmekeiaa
open Go.RowKit

def toI (l : List Nat) : List Int := l.map (fun x : Nat => (x : Int))
theorem toI_len (l : List Nat) : (toI l).length = l.length := by simp [toI]
theorem toI_snoc (l : List Nat) (x : Nat) : (toI (l ++ [x])).map int = (toI l).map int ++ [.int .i64 x] := by simp [toI, int]

theorem frees70_out (w : World) (bb base : Nat) (v : Value) (l : List T3) (h : BR w bb base v l) (h0 : 0 < l.length) (o : Int) (ho : o < 0 ∨ 10 < o) :
    Calls Try.prog 70 #[.pointer (some ⟨bb, 0, none⟩), .int .i64 o] w fun e w' => e = .returned (.slice none 0 0) ∧ w = w' := by
  by_cases h1 : o < 0
  · go_enter Try.func70, Try.ntmps70
    go_wp2_with fail
    refine (none112_no w bb base v l h h0).mono ?_
    rintro e w1 ⟨rfl, rfl⟩
    go_wp2_with fail
    go_ret
    exact ⟨rfl, rfl⟩
  · have h2 : 10 < o := by omega
    go_enter Try.func70, Try.ntmps70
    go_wp2_with fail
    refine (none112_no w bb base v l h h0).mono ?_
    rintro e w1 ⟨rfl, rfl⟩
    go_wp2_with fail
    go_ret
    exact ⟨rfl, rfl⟩

set_option maxRecDepth 100000 in
set_option maxHeartbeats 3200000 in
theorem frees70_spec (w : World) (bb base : Nat) (v : Value) (l : List T3) (h : BR w bb base v l) (h0 : 0 < l.length) (o : Nat) (ho : o ≤ 10) :
    Calls Try.prog 70 #[.pointer (some ⟨bb, 0, none⟩), .int .i64 o] w fun e w' => ∃ r, e = .returned r ∧ w'.ownsRow w.heap.size 3 1 r (freesL l o 0).length ((toI (freesL l o 0)).map int) ∧ Ext No w w' := by
  obtain ⟨a, cap, rfl, hlc, hcap⟩ := h.val
  have hn := h.n
  have hbl := h.b.lt
  have hfl := frees_len (l := l) (o := o) l.length 0 (by omega)
  obtain ⟨L, hL⟩ : ∃ L, freesL l o 0 = L := ⟨_, rfl⟩
  rw [hL] at hfl ⊢
  have hL' := Lib.hid hL
  clear hL
  obtain ⟨n, hnn⟩ : ∃ n, l.length = n := ⟨_, rfl⟩
  have hnn' := Lib.hid hnn
  have hno := none112_no w bb base _ l h h0
  rw [hnn] at hlc hn h hfl
  clear hnn
  go_enter Try.func70, Try.ntmps70
  go_wp2_with fail
  refine hno.mono ?_
  rintro e w1 ⟨rfl, rfl⟩
  clear hno
  go_wp2_with fail
  go_loopg [4, 5] n (fun g s4 s5 wr => ∃ (i : Nat) (acc : List Nat), n - i ≤ g ∧ i < 4611686018427387904 ∧ s5 = .int .i64 i ∧ wr.ownsRow w.heap.size 3 1 s4 acc.length ((toI acc).map int) ∧ Ext No w wr ∧ acc ++ freesL l o i = L)
  case atStart => exact ⟨0, [], by omega, by omega, rfl, World.ownsRow_nil _ _ _ _, Ext.refl _ _, hL'.out⟩
  case round =>
    obtain ⟨i, acc, hi, hi2, rfl, hown, hx, hf⟩ := hrel
    obtain ⟨wz, hwz⟩ : ∃ wz, wr = wz := ⟨_, rfl⟩
    rw [hwz] at hown hx ⊢
    clear hwz
    have hal : acc.length ≤ n := by
      have : acc.length ≤ L.length := by rw [← hf]; simp
      omega
    have hi' := Lib.hid hi
    have hf' := Lib.hid hf
    clear hi hf
    have hB := h.extNo hx
    have v0 := hB.b.cell' (i := 0) rfl
    have hbl2 := hB.b.lt
    have hwr := wrap_pw ho
    have hpp := pw_le ho
    have hsh := shl_pw ho
    by_cases hin : i < n
    · go_wp2_with fail
      refine (free115_spec _ bb base _ l hB i o hi2).mono ?_
      rintro e w2 ⟨rfl, hx3⟩
      have hx4 := hx.transNo hx3
      have hown4 := ownsRow_ext hown hx3 (fun _ _ => id)
      clear hB hx hown v0
      cases hb : freeB l i o
      · have hfn : Hid (acc ++ freesL l o (i + pw o) = L) := by show _ = _; rw [← hf'.out, frees_no (by rw [hnn'.out]; exact hin) hb]
        clear hb
        go_wp2_with fail
        go_roundg (n - (i + pw o))
        case measure => have := hi'.out; have := pw_pos o; omega
        case rel => exact ⟨i + pw o, acc, by omega, by omega, by go_num, hown4, hx4, hfn.out⟩
      · have hfn : Hid ((acc ++ [i]) ++ freesL l o (i + pw o) = L) := by show _ = _; rw [← hf'.out, frees_yes (by rw [hnn'.out]; exact hin) hb]; simp
        clear hb
        obtain ⟨av, cv, rfl, hcv⟩ := ownsRow_val hown4
        go_wp2_with (at_builtin; refine stop_here ?_)
        refine Stop.mk ?_
        have hxa : Ext No w2 (w2.alloc (.cells #[.int .i64 i] 3)) := (Ext.refl _ _).alloc _
        refine wpList_app (v := .slice av acc.length cv) (m := 1) ty_int rfl _ _ rfl rfl (ownsRow_ext hown4 hxa (fun _ _ => id)) rfl (Rd.of_blk (n := 1) (Blk.new' rfl) rfl (by decide)) (by simp [Value.oneCell']) (by omega) (by unfold maxLen; omega) (by have := hx4.size; simp only [World.size_alloc]; omega) ?_
        intro v' w3 hown3 hx3 _ hfr3
        have hX : Ext No w w3 := (hx4.transNo hxa).trans hx3 (fun x hx2 h => by have := (hown4.lt x h).1; omega)
        have hown3' : Hid (w3.ownsRow w.heap.size 3 1 v' (acc ++ [i]).length ((toI (acc ++ [i])).map int)) := by
          rw [toI_snoc, List.length_append]; exact hown3
        clear hown3 hx3 hfr3 hown4 hxa hx4
        go_wp2_with fail
        go_roundg (n - (i + pw o))
        case measure => have := hi'.out; have := pw_pos o; omega
        case rel => exact ⟨i + pw o, acc ++ [i], by omega, by omega, by go_num, hown3'.out, hX, hfn.out⟩
    · have hfin : Hid (acc = L) := by
        show _ = _
        have := hf'.out
        rw [frees_out (by rw [hnn'.out]; omega), List.append_nil] at this; exact this
      go_wp2_with fail
      go_ret
      rw [← hfin.out]
      exact ⟨_, rfl, hown, hx⟩
end Go.Proofs.Ytjkknjohmekeiaa
