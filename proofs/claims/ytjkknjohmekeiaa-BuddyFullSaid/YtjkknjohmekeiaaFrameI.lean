/- The law FrameSum, walked. No condition. -/
import Derived.Test.YtjkknjohmekeiaaFrameH
import Derived.Deep.CutRange
import Derived.Deep.CutBlock
import Derived.Deep.DeepCutAuto
namespace Go.Proofs.Ytjkknjohmekeiaa
open Go.RowKit

theorem rch_end {l : List T3} (hv : Va l) : Rch l l.length := by
  obtain ⟨e, hr, h3, h4⟩ := rch_at hv l.length (Nat.le_refl _)
  have h5 : e = l.length := by
    rcases h4 with h4 | h4
    · rcases Nat.lt_or_ge e l.length with h6 | h6
      · have := (hv e hr h6).2.2.1; omega
      · omega
    · exact h4.1
  rw [← h5]; exact hr
/-- What the first so many pages bring. -/
def sumTo (c : T3 → Int) (l : List T3) : Nat → Int
  | 0 => 0
  | k + 1 => sumTo c l k + c (nth l k)
def cAll (p : T3) : Int := if p.a == 1 then 0 else sz p
def cFree (p : T3) : Int := if p.a == 0 then sz p else 0
theorem sumTo_mid {c : T3 → Int} (hc : c inside = 0) {l : List T3} {i : Nat} (ho : Ok l i) : ∀ m, m + 1 ≤ sz (nth l i) → sumTo c l (i + (m + 1)) = sumTo c l i + c (nth l i)
  | 0, _ => rfl
  | m + 1, h => by
    have ih := sumTo_mid hc ho m (by omega)
    show sumTo c l (i + (m + 1)) + c (nth l (i + (m + 1))) = _
    rw [ih, ho.2.2.2 (i + (m + 1)) (by omega) (by omega), hc]; omega
theorem sumTo_block {c : T3 → Int} (hc : c inside = 0) {l : List T3} {i : Nat} (ho : Ok l i) : sumTo c l (i + sz (nth l i)) = sumTo c l i + c (nth l i) := by
  have hp := sz_pos (nth l i)
  have := sumTo_mid hc ho (sz (nth l i) - 1) (by omega)
  rw [show sz (nth l i) - 1 + 1 = sz (nth l i) by omega] at this
  exact this
theorem head_kind {p : T3} (h : headB p = true) : p.a = 0 ∨ p.a = 2 := by
  simp only [headB, Bool.and_eq_true, Bool.or_eq_true, decide_eq_true_eq] at h
  omega
theorem all_eq {l : List T3} (hv : Va l) {i : Nat} (hr : Rch l i) : sumTo cAll l i = i := by
  induction hr with
  | zero => rfl
  | @step i hr hlt ih =>
    have ho := hv i hr hlt
    rw [sumTo_block (by decide) ho, ih]
    have := head_kind ho.1
    unfold cAll
    rw [if_neg (by rw [beq_iff_eq]; omega)]
    omega
theorem free_eq {l : List T3} (hv : Va l) : ∀ (n i : Nat), l.length - i ≤ n → Rch l i → sumTo cFree l l.length = sumTo cFree l i + freeS (bseq l i)
  | 0, i, hn, hr => by
    have := hr.le hv
    rw [show i = l.length by omega, bseq_out (Nat.le_refl _)]; simp [freeS]
  | n + 1, i, hn, hr => by
    by_cases hi : i < l.length
    · have ho := hv i hr hi
      have hp := sz_pos (nth l i)
      rw [bseq_ok hi (ok_iff.2 ho), free_eq hv n _ (by omega) (hr.step hi), sumTo_block (by decide) ho]
      simp only [freeS, cFree]
      omega
    · have := hr.le hv
      rw [show i = l.length by omega, bseq_out (Nat.le_refl _)]; simp [freeS]
theorem free_all {l : List T3} (hv : Va l) : sumTo cFree l l.length = freeS (bl l) := by
  have := free_eq hv l.length 0 (by omega) .zero
  simpa [sumTo, bl] using this
/-- A page that is not inside is a head. -/
theorem hd_of_kind {l : List T3} (hv : Va l) {i : Nat} (hi : i < l.length) (hk : (nth l i).a ≠ 1) : Rch l i := by
  obtain ⟨h, hh⟩ := hd_ex hv hi
  rcases Nat.eq_or_lt_of_le hh.le with e | e
  · rw [← e]; exact hh.r
  · have ho := hv h hh.r (hh.hlt hi)
    rw [ho.2.2.2 i e hh.lt] at hk
    exact absurd rfl hk
theorem entry {l : List T3} (hv : Va l) {j : Nat} (hj : j < l.length) : nth l j = inside ∨ (headB (nth l j) = true ∧ Rch l j) := by
  obtain ⟨h, hh⟩ := hd_ex hv hj
  have ho := hv h hh.r (hh.hlt hj)
  rcases Nat.eq_or_lt_of_le hh.le with e | e
  · subst e; exact .inr ⟨ho.1, hh.r⟩
  · exact .inl (ho.2.2.2 j e hh.lt)
theorem cBd (c : T3 → Int) (hi : c inside = 0) (hc : ∀ p, headB p = true → 0 ≤ c p ∧ c p ≤ 1024) {l : List T3} (hv : Va l) : ∀ k, k ≤ l.length → 0 ≤ sumTo c l k ∧ sumTo c l k ≤ 1024 * k
  | 0, _ => by simp [sumTo]
  | k + 1, h => by
    have ih := cBd c hi hc hv k (by omega)
    simp only [sumTo]
    rcases entry hv (show k < l.length by omega) with e | ⟨e, _⟩
    · rw [e, hi]; omega
    · have := hc _ e; omega
theorem cAll_bd (p : T3) (h : headB p = true) : 0 ≤ cAll p ∧ cAll p ≤ 1024 := by
  have := sz_le h; unfold cAll; split <;> omega
theorem cFree_bd (p : T3) (h : headB p = true) : 0 ≤ cFree p ∧ cFree p ≤ 1024 := by
  have := sz_le h; unfold cFree; split <;> omega

theorem RdT.take {F : Nat → Prop} {w : World} {a : Option Addr} {n cap : Nat} {l : List T3} (h : RdT F w (.slice a n cap) l) {m : Nat} (hm : m ≤ l.length) : RdT F w (.slice a m cap) (l.take m) := by
  have hl : (l.take m).length = m := by simp; omega
  obtain ⟨a', cap', e, g1, g2, g3, g4⟩ := h
  cases e
  unfold RdT
  rw [hl]
  refine ⟨a, cap, rfl, by rw [t3sCells_len, hl], by omega, g3, fun hne => ?_⟩
  have hm0 : 0 < m := by
    rcases Nat.eq_zero_or_pos m with h0 | h0
    · subst h0; exact absurd (by simp [t3sCells]) hne
    · exact h0
  obtain ⟨b', off', e2, k1, k2, k3⟩ := g4 (by intro e; rw [e] at g1; simp at g1; omega)
  refine ⟨b', off', e2, k1, k2, fun i u hu => ?_⟩
  have hi : i < m * 3 := by
    have := (List.getElem?_eq_some_iff.1 hu).1
    rw [t3sCells_len, hl] at this; exact this
  have hdm : i / 3 * 3 + i % 3 = i := by omega
  rw [← hdm, t3sCells_at (by rw [hl]; omega) (by omega)] at hu
  have e3 : nth (l.take m) (i / 3) = nth l (i / 3) := by
    rw [nth_eq (by rw [hl]; omega), nth_eq (by omega)]
    simp
  rw [e3] at hu
  have := k3 (i / 3 * 3 + i % 3) u (by rw [t3sCells_at (by omega) (by omega)]; exact hu)
  rw [hdm] at this; exact this

set_option maxRecDepth 100000 in
set_option maxHeartbeats 3200000 in
theorem frameSum_core (w : World) (v : Value) (l0 : List T3) (G : Nat → Prop) (hv0 : RdT G w v l0) :
    Calls Try.prog 16 #[v] w fun e w' => e = .returned (.bool true) ∧ Ext No w w' := by
  obtain ⟨a, cap, rfl, hlc, hcap⟩ := hv0.val
  obtain ⟨m, hm⟩ : ∃ m, min l0.length 200 = m := ⟨_, rfl⟩
  have hm1 : m ≤ l0.length := by omega
  have hm2 : m ≤ 200 := by omega
  have hv := hv0.take hm1
  have hl : (l0.take m).length = m := by simp; omega
  obtain ⟨l, hll⟩ : ∃ l, l0.take m = l := ⟨_, rfl⟩
  rw [hll] at hv hl
  have hmin : Hid (min (l0.length : Int) 200 = m) := by show _ = _; omega
  clear hll hv0 hm
  go_enter Try.func16, Try.ntmps16
  go_upto_region 1 with (fail)
  go_cut [0] (fun s0 wx => s0 = .slice a m cap ∧ wx = w)
  case first =>
    go_wp2_with fail
    · go_meet
      exact ⟨by rw [show m = 200 by have := hmin.out; omega], rfl⟩
    · go_meet
      exact ⟨by rw [show m = l0.length by have := hmin.out; omega], rfl⟩
  case rest =>
    obtain ⟨rfl, rfl⟩ := hcut
    subst hl
    clear hm1 hlc hmin
    cases ht : tabOk l
    · have hc := Lib.hid (chk_bad ht)
      have hf : Hid (freeF l = 0) := by show _ = _; unfold freeF; rw [ht]; rfl
      clear ht
      go_wp2_with fail
      refine (check61_spec _ _ l G hv).mono ?_
      rintro e w1 ⟨rfl, hx1⟩
      rw [hc.out]
      go_wp2_with fail
      refine (free64_spec _ _ l G (hv.extNo hx1)).mono ?_
      rintro e w2 ⟨rfl, hx2⟩
      rw [hf.out]
      go_wp2_with fail
      refine (works59_spec _).mono ?_
      rintro e w3 ⟨rfl, hx3⟩
      go_wp2_with fail
      go_ret
      exact ⟨rfl, (hx1.transNo hx2).transNo hx3⟩
    · obtain ⟨t0, t1, hva⟩ := tab_iff.1 ht
      have hc := Lib.hid (chk_ok ht)
      have hf : Hid (freeF l = sumTo cFree l l.length) := by show _ = _; unfold freeF; rw [ht, free_all hva]; rfl
      have hal : Hid (sumTo cAll l l.length = l.length) := all_eq hva (rch_end hva)
      have ht' := Lib.hid ht
      clear ht
      go_wp2_with fail
      refine (check61_spec _ _ l G hv).mono ?_
      rintro e w1 ⟨rfl, hx1⟩
      rw [hc.out]
      go_wp2_with fail
      go_loopg [3, 4, 5] l.length (fun g al fr i wr => ∃ k : Nat, k + g = l.length ∧ i = .int .i64 k ∧ al = .int .i64 (sumTo cAll l k) ∧ fr = .int .i64 (sumTo cFree l k) ∧ Ext No wc wr)
      case atStart => exact ⟨0, by omega, rfl, rfl, rfl, hx1⟩
      case round =>
        clear hx1
        obtain ⟨k, hk, rfl, rfl, rfl, hx⟩ := hrel
        have hk' := Lib.hid hk
        have hkn : k ≤ l.length := by omega
        clear hk
        obtain ⟨A0, A1⟩ := cBd cAll (by decide) cAll_bd hva k hkn
        obtain ⟨F0, F1⟩ := cBd cFree (by decide) cFree_bd hva k hkn
        by_cases hlt : k < l.length
        · have hE : Hid (headE l k = 0) := by show _ = _; unfold headE inT; rw [ht'.out]; simp [hlt]
          have hin : inT l (k : Int) = true := by unfold inT; simp [hlt]
          rcases entry hva hlt with hi | ⟨hb, hr⟩
          · obtain ⟨h, hh⟩ := hd_ex hva hlt
            have hhl := hh.hlt hlt
            have ho := hva h hh.r hhl
            have hR : Hid (headR l k = h) := by show _ = _; unfold headR; rw [ht'.out, hin, headF_eq hva hlt hh]; rfl
            obtain ⟨b, off, rfl, _, _, y0, y1, _⟩ := hv.at hhl
            obtain ⟨b', off', e9, _, _, x0, x1, _⟩ := hv.at hlt
            cases e9
            have hhk : h ≠ k := fun e => by
              subst e
              have := head_kind ho.1; rw [hi] at this; simp [inside] at this
            have x0 := hx.cell x0 id
            rw [hi] at x0
            simp only [inside] at x0
            obtain ⟨hsh, z1, z2⟩ := shl_ord ho.1
            have hkd : ((nth l h).a == 1) = false := by rw [beq_eq_false_iff_ne]; have := head_kind ho.1; omega
            have hle := hh.le
            have hlt2 : (k : Int) < h + sz (nth l h) := by have := hh.lt; omega
            have hsA : Hid (sumTo cAll l (k + 1) = sumTo cAll l k) := by show sumTo cAll l k + cAll (nth l k) = _; rw [hi]; simp [cAll, inside]
            have hsF : Hid (sumTo cFree l (k + 1) = sumTo cFree l k) := by show sumTo cFree l k + cFree (nth l k) = _; rw [hi]; simp [cFree, inside]
            have x0' := Lib.hid x0
            clear hi hh ho hin x0 x1 hva
            go_wp2_with fail
            refine (head63_spec _ _ l G (hv.extNo hx) k).mono ?_
            rintro e w2 ⟨rfl, hx2⟩
            rw [hR.out, hE.out]
            have hx3 := hx.transNo hx2
            have y0 := hx3.cell y0 id
            have y1 := hx3.cell y1 id
            have x0 := hx2.cell x0'.out id
            clear hx hx2
            go_wp2_with fail
            go_roundg (l.length - (k + 1))
            case measure => have := hk'.out; omega
            case rel => exact ⟨k + 1, by omega, by go_num, by rw [hsA.out], by rw [hsF.out], hx3⟩
          · have ho := hva k hr hlt
            have hR : Hid (headR l k = k) := by show _ = _; unfold headR; rw [ht'.out, hin, headF_eq hva hlt (.start hr)]; rfl
            obtain ⟨b, off, rfl, _, _, y0, y1, _⟩ := hv.at hlt
            obtain ⟨hsh, z1, z2⟩ := shl_ord hb
            have hkd : ((nth l k).a == 1) = false := by rw [beq_eq_false_iff_ne]; have := head_kind hb; omega
            have hle : k ≤ k := Nat.le_refl _
            have hlt2 : (k : Int) < k + sz (nth l k) := by omega
            have hsA : Hid (sumTo cAll l (k + 1) = sumTo cAll l k + sz (nth l k)) := by show sumTo cAll l k + cAll (nth l k) = _; unfold cAll; rw [hkd]; rfl
            rcases head_kind hb with hz | hz
            · have hz0 : ((nth l k).a == 0) = true := by rw [beq_iff_eq]; exact hz
              have hsF : Hid (sumTo cFree l (k + 1) = sumTo cFree l k + sz (nth l k)) := by show sumTo cFree l k + cFree (nth l k) = _; unfold cFree; rw [hz0]; rfl
              clear hz ho hin hva hr
              go_wp2_with fail
              refine (head63_spec _ _ l G (hv.extNo hx) k).mono ?_
              rintro e w2 ⟨rfl, hx2⟩
              rw [hR.out, hE.out]
              have hx3 := hx.transNo hx2
              have y0 := hx3.cell y0 id
              have y1 := hx3.cell y1 id
              clear hx hx2
              go_wp2_with fail
              go_roundg (l.length - (k + 1))
              case measure => have := hk'.out; omega
              case rel => exact ⟨k + 1, by omega, by go_num, by rw [hsA.out], by rw [hsF.out], hx3⟩
            · have hz0 : ((nth l k).a == 0) = false := by rw [beq_eq_false_iff_ne]; omega
              have hsF : Hid (sumTo cFree l (k + 1) = sumTo cFree l k) := by show sumTo cFree l k + cFree (nth l k) = _; unfold cFree; rw [hz0]; simp
              clear hz ho hin hva hr
              go_wp2_with fail
              refine (head63_spec _ _ l G (hv.extNo hx) k).mono ?_
              rintro e w2 ⟨rfl, hx2⟩
              rw [hR.out, hE.out]
              have hx3 := hx.transNo hx2
              have y0 := hx3.cell y0 id
              have y1 := hx3.cell y1 id
              clear hx hx2
              go_wp2_with fail
              go_roundg (l.length - (k + 1))
              case measure => have := hk'.out; omega
              case rel => exact ⟨k + 1, by omega, by go_num, by rw [hsA.out], by rw [hsF.out], hx3⟩
        · obtain rfl : k = l.length := by omega
          rw [hal.out, ← hf.out]
          clear hlt F0 F1 A0 A1
          go_wp2_with fail
          refine (free64_spec _ _ l G (hv.extNo hx)).mono ?_
          rintro e w2 ⟨rfl, hx2⟩
          go_wp2_with fail
          refine (works59_spec _).mono ?_
          rintro e w3 ⟨rfl, hx3⟩
          go_wp2_with fail
          go_ret
          exact ⟨rfl, (hx.transNo hx2).transNo hx3⟩

theorem frameSum_walk (w : World) (v : Value) (l : List T3) (hv : RdT (Iv 0 w.heap.size) w v l) (_ : l.length * 24 ≤ reachBytes ∧ ∀ x ∈ l, T3wf x) :
    Calls Try.prog 16 #[v] w fun e w' => e = .returned (.bool true) ∧ Below w.heap.size w w' :=
  (frameSum_core w v l _ hv).mono fun _ _ ⟨h1, h2⟩ => ⟨h1, h2.belowNo⟩
end Go.Proofs.Ytjkknjohmekeiaa
