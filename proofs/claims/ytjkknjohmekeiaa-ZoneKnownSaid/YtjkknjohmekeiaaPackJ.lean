/- Texts of ours, one behind the other (BuddyO, ZoneA, NearI, NearP, ZoneB, RefD, BuddyP): each says in its own first lines what it proves. No condition. -/
import Derived.Test.YtjkknjohmekeiaaPackI
import Derived.Maps.OwnSet
/- Buddies to which calls are done; what is out of them. No condition. -/
namespace Go.Proofs.Ytjkknjohmekeiaa
open Go.RowKit

/-- What is left of a list out of which one is taken, the last in its place. -/
def rmv (out : List Nat) (k : Nat) : List Nat := (out.set k (nth out (out.length - 1))).take (out.length - 1)
theorem rmv_perm {out : List Nat} {k : Nat} (h : k < out.length) : (nth out k :: rmv out k).Perm out := by
  obtain ⟨A, x, R, rfl, hA⟩ : ∃ A x R, out = A ++ x :: R ∧ A.length = k :=
    ⟨out.take k, out[k], out.drop (k + 1), by rw [List.getElem_cons_drop, List.take_append_drop], by simp; omega⟩
  subst hA
  have e1 : nth (A ++ x :: R) A.length = x := by rw [nth_eq h]; simp
  rw [e1]
  rcases List.eq_nil_or_concat R with rfl | ⟨B, y, rfl⟩
  · unfold rmv
    have : (A ++ [x]).length - 1 = A.length := by simp
    rw [this, List.set_append_right _ _ (Nat.le_refl _), List.take_left' rfl]
    exact (List.perm_append_comm (l₁ := [x]) (l₂ := A))
  · rw [List.concat_eq_append] at *
    unfold rmv
    have hl : (A ++ x :: (B ++ [y])).length - 1 = A.length + (B.length + 1) := by simp
    have hy : nth (A ++ x :: (B ++ [y])) (A.length + (B.length + 1)) = y := by
      rw [nth_eq (by simp)]
      rw [List.getElem_append_right (by omega)]
      simp
    rw [hl, hy, List.set_append_right _ _ (Nat.le_refl _), Nat.sub_self, List.set_cons_zero]
    have e : A ++ y :: (B ++ [y]) = (A ++ y :: B) ++ [y] := by simp
    rw [e, List.take_left' (by simp)]
    have p1 : (A ++ y :: B).Perm (y :: (A ++ B)) := List.perm_middle
    have p2 : (A ++ x :: (B ++ [y])).Perm (x :: (A ++ (B ++ [y]))) := List.perm_middle
    refine List.Perm.trans (.cons x ?_) p2.symm
    refine p1.trans ?_
    have p3 : (A ++ B ++ [y]).Perm (y :: (A ++ B)) := by
      have := List.perm_append_comm (l₁ := A ++ B) (l₂ := [y])
      exact this
    rw [← List.append_assoc]
    exact p3.symm
theorem rmv_len {out : List Nat} {k : Nat} (h : k < out.length) : (rmv out k).length = out.length - 1 := by
  have := (rmv_perm h).length_eq
  simp at this; omega
theorem toI_nth {l : List Nat} {k : Nat} (h : k < l.length) : nth ((toI l).map int) k = .int .i64 ((nth l k : Nat) : Int) := by
  rw [nth_map int (by rw [toI_len]; exact h)]
  unfold toI
  rw [nth_map _ h]; rfl
theorem toI_set (l : List Nat) (k x : Nat) : ((toI l).map int).set k (.int .i64 x) = (toI (l.set k x)).map int := by
  unfold toI; rw [List.map_set, List.map_set]; rfl
theorem toI_take (l : List Nat) (k : Nat) : ((toI l).map int).take k = (toI (l.take k)).map int := by
  unfold toI; rw [List.map_take, List.map_take]
theorem own_take {w : World} {base e n : Nat} {a : Option Addr} {cap : Nat} {xs : List Value} (h : w.ownsRow base e 1 (.slice a n cap) n xs) {m : Nat} (hm : m ≤ n) (hn : 0 < n) : w.ownsRow base e 1 (.slice a m cap) m (xs.take m) := by
  obtain ⟨hl, ⟨h1, h2⟩ | ⟨g, cap', cur, h1, hb, hg, hc, hx, hs, ht⟩⟩ := h
  · omega
  · cases h1
    refine ⟨by simp; omega, .inr ⟨g, cap, cur, rfl, hb, hg, by omega, hx, hs, ?_⟩⟩
    rw [← ht, List.take_take]; simp; omega

/-- Buddies, and what is out of them, as a list. -/
structure PS (w0 w : World) (p : Nat) (v : Value) (l : List T3) (vo : Value) (out : List Nat) : Prop where
  b : BT w0 w p v l
  o : ∃ base, w0.heap.size ≤ base ∧ base ≤ w.heap.size ∧ w.ownsRow base 3 1 vo out.length ((toI out).map int)
  d : ∀ x, OwnOf vo x → x ≠ p ∧ ¬ OwnOf v x
  nd : out.Nodup
  mem : ∀ x, x ∈ out ↔ x < l.length ∧ (nth l x).a = 2
  len : out.length ≤ 60
section
variable {w0 w w' : World} {p : Nat} {v vo : Value} {l l' : List T3} {out : List Nat}
theorem PS.extNo (h : PS w0 w p v l vo out) (hx : Ext No w w') : PS w0 w' p v l vo out := by
  obtain ⟨base, h1, h2, h3⟩ := h.o
  exact ⟨h.b.extNo hx, ⟨base, h1, Nat.le_trans h2 hx.size, ownsRow_ext h3 hx (fun _ _ => id)⟩, h.d, h.nd, h.mem, h.len⟩
/-- The calls change the pages alone. -/
theorem PS.keep (h : PS w0 w p v l vo out) (hb : BT w0 w' p v l') (hx : Ext (OwnOf v) w w') (_hl : l'.length = l.length) {out' : List Nat} (ho : out' = out)
    (hm : ∀ x, x ∈ out' ↔ x < l'.length ∧ (nth l' x).a = 2) : PS w0 w' p v l' vo out' := by
  subst ho
  obtain ⟨base, h1, h2, h3⟩ := h.o
  exact ⟨hb, ⟨base, h1, Nat.le_trans h2 hx.size, ownsRow_ext h3 hx (fun k hk => (h.d k hk).2)⟩, h.d, h.nd, hm, h.len⟩
theorem PS.val (h : PS w0 w p v l vo out) : ∃ a cap, vo = .slice a out.length cap ∧ out.length ≤ cap := by
  obtain ⟨base, _, _, h3⟩ := h.o
  exact ownsRow_val h3
theorem out_alloc (h : BI l) {t c : Nat} (hc : c ≤ 8) {b : Bk} (hb : leastL l t = some b) (hm : ∀ x, x ∈ out ↔ x < l.length ∧ (nth l x).a = 2) (hnd : out.Nodup) :
    (out ++ [b.i]).Nodup ∧ (∀ x, x ∈ out ++ [b.i] ↔ x < (allocL l t c).length ∧ (nth (allocL l t c) x).a = 2) ∧ (allocL l t c).length = l.length := by
  obtain ⟨_, _, _, h4, h5⟩ := least_some (11 - t) t (Nat.le_refl _) b hb
  obtain ⟨hp, _⟩ := h.alloc hc hb
  have hni : b.i ∉ out := by
    rw [hm]; rintro ⟨_, h2⟩
    rw [(free_is.1 h5).2] at h2; exact absurd h2 (by show ¬ (0 : Int) = 2; decide)
  refine ⟨?_, fun x => ?_, hp.len⟩
  · rw [List.nodup_append]
    exact ⟨hnd, by simp, fun a ha b' hb' => by simp at hb'; subst hb'; exact fun e => hni (e ▸ ha)⟩
  · rw [List.mem_append, List.mem_singleton, hm, hp.len]
    constructor
    · rintro (⟨h1, h2⟩ | rfl)
      · exact ⟨h1, (hp.out x h1).2 (.inr h2)⟩
      · exact ⟨h4, (hp.out _ h4).2 (.inl rfl)⟩
    · rintro ⟨h1, h2⟩
      rcases (hp.out x h1).1 h2 with e | e
      · exact .inr e
      · exact .inl ⟨h1, e⟩
theorem out_free (h : BI l) {k : Nat} (hk : k < out.length) (hm : ∀ x, x ∈ out ↔ x < l.length ∧ (nth l x).a = 2) (hnd : out.Nodup) :
    (rmv out k).Nodup ∧ (∀ x, x ∈ rmv out k ↔ x < (freeT l (nth out k)).length ∧ (nth (freeT l (nth out k)) x).a = 2) ∧ (freeT l (nth out k)).length = l.length ∧ frS l < frS (freeT l (nth out k)) := by
  have hmem : nth out k ∈ out := nth_mem hk
  obtain ⟨h1, h2⟩ := (hm _).1 hmem
  obtain ⟨q, c, hq, he⟩ := out_is h.va h1 h2
  obtain ⟨hp, _⟩ := h.free h1 he
  have hperm := rmv_perm hk
  have hnd2 := hperm.nodup_iff.2 hnd
  rw [List.nodup_cons] at hnd2
  refine ⟨hnd2.2, fun x => ?_, hp.len, by rw [hp.fr]; have := pw_pos q; omega⟩
  have hmm := hperm.mem_iff (a := x)
  rw [List.mem_cons] at hmm
  rw [hp.len]
  constructor
  · intro hx
    have h3 := (hm x).1 (hmm.1 (.inr hx))
    exact ⟨h3.1, (hp.out x h3.1).2 ⟨fun e => hnd2.1 (e ▸ hx), h3.2⟩⟩
  · rintro ⟨h3, h4⟩
    obtain ⟨h5, h6⟩ := (hp.out x h3).1 h4
    rcases hmm.2 ((hm x).2 ⟨h3, h6⟩) with e | e
    · exact absurd e h5
    · exact e
end
end Go.Proofs.Ytjkknjohmekeiaa
/- Plain: tables but for the caches of what is out; a block that is out stays as it is while others are given out or taken back. No condition. -/
namespace Go.Proofs.Ytjkknjohmekeiaa

/-- A page, but for the cache of what is out. -/
def er (p : T3) : T3 := if p.a = 2 then ⟨2, p.b, 0⟩ else p
def E (l : List T3) : List T3 := l.map er
theorem er_a (p : T3) : (er p).a = p.a := by unfold er; split <;> simp_all
theorem er_b (p : T3) : (er p).b = p.b := by unfold er; split <;> rfl
theorem er_in : er inside = inside := rfl
theorem er_free (o : Int) : er ⟨0, o, 0⟩ = ⟨0, o, 0⟩ := rfl
theorem er_sz (p : T3) : sz (er p) = sz p := by unfold sz; rw [er_b]
theorem er_cFree (p : T3) : cFree (er p) = cFree p := by unfold cFree; rw [er_a, er_sz]
theorem E_len (l : List T3) : (E l).length = l.length := by simp [E]
theorem E_nth {l : List T3} {i : Nat} (h : i < l.length) : nth (E l) i = er (nth l i) := nth_map er h
theorem er_eq (p : T3) (o : Int) : er p = ⟨0, o, 0⟩ ↔ p = ⟨0, o, 0⟩ := by
  constructor
  · intro h
    have ha : p.a = 0 := by rw [← er_a, h]
    unfold er at h
    rw [if_neg (by omega)] at h
    exact h
  · rintro rfl; rfl
theorem E_free (l : List T3) (i o : Nat) : freeB (E l) i o = freeB l i o := by
  unfold freeB
  rw [E_len]
  by_cases h : i < l.length
  · rw [E_nth h]
    congr 1
    exact decide_eq_decide.2 (er_eq _ _)
  · rw [decide_eq_false h]; rfl
theorem E_setL (l : List T3) (i : Nat) (p : T3) : E (setL l i p) = setL (E l) i (er p) := by
  unfold E setL
  simp only [List.map_append, List.map_take, List.map_drop, List.map_cons, List.map_replicate, er_in, er_sz]
theorem E_mergeK (l : List T3) : ∀ (f i o : Nat), mergeK (E l) f i o = mergeK l f i o
  | 0, _, _ => rfl
  | f + 1, i, o => by simp only [mergeK, E_free, E_mergeK l f]
theorem E_merge (l : List T3) (i o : Nat) : mergeL (E l) i o = mergeL l i o := E_mergeK l _ i o
theorem E_freeT {l : List T3} {i : Nat} (h : i < l.length) : E (freeT l i) = freeT (E l) i := by
  unfold freeT
  rw [E_setL, E_nth h, er_b, E_merge]; rfl
theorem E_frK (l : List T3) (o : Nat) : ∀ (f i : Nat), frK (E l) o f i = frK l o f i
  | 0, _ => rfl
  | f + 1, i => by simp only [frK, E_free, E_len, E_frK l o f]
theorem E_frees (l : List T3) (o i : Nat) : freesL (E l) o i = freesL l o i := by unfold freesL; rw [E_len, E_frK]
theorem E_leK (l : List T3) : ∀ (f o : Nat), leK (E l) f o = leK l f o
  | 0, _ => rfl
  | f + 1, o => by simp only [leK, E_frees, E_leK l f]
theorem E_least (l : List T3) (o : Nat) : leastL (E l) o = leastL l o := E_leK l _ o
theorem E_allocX (l : List T3) (o : Nat) : allocX (E l) o = allocX l o := by unfold allocX; rw [E_least]
theorem E_allocE (l : List T3) (o : Nat) : allocE (E l) o = allocE l o := by unfold allocE; rw [E_least]
theorem E_splitL (i t : Nat) : ∀ (d : Nat) (l : List T3), E (splitL l i t d) = splitL (E l) i t d
  | 0, _ => rfl
  | d + 1, l => by simp only [splitL]; rw [E_splitL i t d, E_setL, er_free]
theorem E_allocL (l : List T3) (o c : Nat) : E (allocL l o c) = allocL (E l) o 0 := by
  unfold allocL
  rw [E_least]
  cases leastL l o with
  | none => rfl
  | some b => show E (setL _ _ _) = setL _ _ _; rw [E_setL, E_splitL]; rfl
theorem smB_map {c : T3 → Int} (h : ∀ p, c (er p) = c p) : ∀ l, smB c (E l) = smB c l
  | [] => rfl
  | p :: r => by
    have := smB_map h r
    unfold E at this ⊢
    simp only [List.map_cons, smB, h, this]
theorem E_frS (l : List T3) : frS (E l) = frS l := smB_map er_cFree l
theorem E_out {l : List T3} {i : Nat} (h : i < l.length) : (nth (E l) i).a = (nth l i).a := by rw [E_nth h, er_a]
theorem E_none {l : List T3} (h : ∀ x, x < l.length → (nth l x).a ≠ 2) : E l = l := by
  apply ext_nth (E_len l)
  intro j hj
  rw [E_len] at hj
  rw [E_nth hj]
  unfold er
  rw [if_neg (h j hj)]
theorem E_full (n : Nat) : E (full n) = full n := E_none (fun x h => full_out (by rw [full_len] at h; exact h))
theorem E_whole (l : List T3) : decide (E l = full (E l).length) = decide (l = full l.length) := by
  rw [E_len]
  apply decide_eq_decide.2
  constructor
  · intro h
    have : E l = l := E_none (fun x hx => by
      rw [← E_out hx, h]; exact full_out hx)
    rw [this] at h; exact h
  · intro h
    conv => lhs; rw [h]
    exact E_full _

/-! ### What is out stays -/
theorem setL_keep {l : List T3} {i : Nat} {p : T3} (h : i + sz p ≤ l.length) {x : Nat} (hx : x < l.length) (hp : p.a ≠ 2 ∨ x ≠ i) (ha : (nth (setL l i p) x).a = 2) : nth (setL l i p) x = nth l x := by
  rw [setL_nth h hx] at ha ⊢
  by_cases e1 : x = i
  · rw [if_pos e1] at ha
    rcases hp with hp | hp
    · exact absurd ha hp
    · exact absurd e1 hp
  · rw [if_neg e1] at ha ⊢
    by_cases e2 : i < x ∧ x < i + sz p
    · rw [if_pos e2] at ha; exact absurd ha (by decide)
    · rw [if_neg e2]
theorem split_keep {i t : Nat} : ∀ (d : Nat) (l : List T3) (x : Nat), i % pw (t + d) = 0 → i + pw (t + d) ≤ l.length → x < l.length →
    (splitL l i t d).length = l.length ∧ ((nth (splitL l i t d) x).a = 2 → nth (splitL l i t d) x = nth l x)
  | 0, l, x, _, _, _ => ⟨rfl, fun _ => rfl⟩
  | d + 1, l, x, ha, hf, hx => by
    have hs := pw_succ (t + d)
    have hs' : pw (t + (d + 1)) = 2 * pw (t + d) := by rw [show t + (d + 1) = t + d + 1 by omega]; exact hs
    have hoth : oth i (t + d) = i + pw (t + d) := oth_lo (by rw [show t + d + 1 = t + (d + 1) by omega]; exact ha)
    have hfit : oth i (t + d) + sz ⟨0, (t + d : Nat), 0⟩ ≤ l.length := by rw [hoth, sz_mk]; omega
    have hl := setL_len hfit
    obtain ⟨h1, h2⟩ := split_keep d (setL l (oth i (t + d)) ⟨0, (t + d : Nat), 0⟩) x (al_down (a := t + d) (b := t + (d + 1)) (by omega) ha) (by rw [hl]; omega) (by rw [hl]; exact hx)
    simp only [splitL]
    refine ⟨by rw [h1, hl], fun h3 => ?_⟩
    have h4 := h2 h3
    rw [h4] at h3 ⊢
    exact setL_keep hfit hx (.inl (by show (0 : Int) ≠ 2; decide)) h3
theorem alloc_keep {l : List T3} (h : BI l) {t c : Nat} {b : Bk} (hb : leastL l t = some b) {x : Nat} (hx : x < l.length) (hi : x ≠ b.i) (ha : (nth (allocL l t c) x).a = 2) : nth (allocL l t c) x = nth l x := by
  obtain ⟨h1, h2, h3, h4, h5⟩ := least_some (11 - t) t (Nat.le_refl _) b hb
  obtain ⟨_, _, _, hf⟩ := free_ok h.va h5
  obtain ⟨d, hd⟩ : ∃ d, b.o = t + d := ⟨b.o - t, by omega⟩
  rw [hd] at h3 hf
  obtain ⟨k1, k2⟩ := split_keep d l x h3 hf hx
  have e : allocL l t c = setL (splitL l b.i t d) b.i ⟨2, t, c⟩ := by unfold allocL; rw [hb]; show setL (splitL l b.i t (b.o - t)) _ _ = _; rw [hd, show t + d - t = d by omega]
  rw [e] at ha ⊢
  have hpt : pw t ≤ pw (t + d) := Nat.le_of_dvd (pw_pos _) (pw_dvd (by omega))
  have hfit : b.i + sz ⟨2, (t : Nat), (c : Nat)⟩ ≤ (splitL l b.i t d).length := by rw [sz_mk, k1]; omega
  have h6 := setL_keep hfit (by rw [k1]; exact hx) (.inr hi) ha
  rw [h6] at ha ⊢
  exact k2 ha
theorem merge_fit {l : List T3} (h : BI l) {i k : Nat} {c : Int} (hi : i < l.length) (he : nth l i = ⟨2, k, c⟩) : (mergeL l i k).i + sz ⟨0, ((mergeL l i k).o : Nat), 0⟩ ≤ l.length := by
  have hr := hd_of_kind h.va hi (by rw [he]; show (2 : Int) ≠ 1; decide)
  obtain ⟨g1, g2, g3, _⟩ := h.va i hr hi
  have hs : sz (nth l i) = pw k := by rw [he, sz_mk]
  rw [hs] at g2 g3
  have h1 := headB_range g1
  rw [he] at h1
  have h2 : ((k : Nat) : Int) ≤ 10 := h1.2
  rw [sz_mk]
  exact (merge_al (10 - k) i k (Nat.le_refl _) (by omega) h.va g2 g3).2.2
theorem freeT_keep {l : List T3} (h : BI l) {i k : Nat} {c : Int} (hi : i < l.length) (he : nth l i = ⟨2, k, c⟩) {x : Nat} (hx : x < l.length) (ha : (nth (freeT l i) x).a = 2) : nth (freeT l i) x = nth l x := by
  rw [freeT_is he] at ha ⊢
  unfold freeK at ha ⊢
  exact setL_keep (merge_fit h hi he) hx (.inl (by show (0 : Int) ≠ 2; decide)) ha
end Go.Proofs.Ytjkknjohmekeiaa
/- The law NearLast, walked. No condition. -/
namespace Go.Proofs.Ytjkknjohmekeiaa
open Go.RowKit

theorem listIn_set {ll : List (List Int)} {c : Int} (h : inR ll c = true) (l : List Int) : listIn (ll.set c.toNat l) c = l ∧ inR (ll.set c.toNat l) c = true := by
  obtain ⟨_, h2, _⟩ := listIn_in h
  have h3 : inR (ll.set c.toNat l) c = true := by simpa [inR] using h
  exact ⟨by rw [(listIn_in h3).1]; exact nth_set_eq _ h2, h3⟩
theorem put_quiet {ll : List (List Int)} {cap c page : Int} (h0 : putE ll c page = 0) (hA : putA ll cap c page = []) :
    takeX (putL ll cap c page) c = page ∧ takeB (putL ll cap c page) c = true ∧ dropL (putL ll cap c page) c = ll := by
  obtain ⟨h1, _⟩ := putE_zero.1 h0
  obtain ⟨e1, h2, h3⟩ := listIn_in h1
  have hk : putK (listIn ll c).length cap = 0 := by
    unfold putA at hA
    rw [if_pos h0, List.take_eq_nil_iff] at hA
    rcases hA with hA | hA
    · exact hA
    · simp at hA
  have hL : putL ll cap c page = ll.set c.toNat (listIn ll c ++ [page]) := by
    unfold putL
    rw [if_pos h0, hk]; rfl
  obtain ⟨g1, g2⟩ := listIn_set h1 (listIn ll c ++ [page])
  unfold takeX takeB dropL
  rw [hL, g1, g2]
  refine ⟨by simp, by simp, ?_⟩
  simp only [if_true, List.dropLast_concat, List.set_set]
  rw [e1, nth_eq h2]; exact List.set_getElem_self h2

def OneNT (w wr : World) (p : Nat) (cap : Int) : Prop := ∃ F ll, NT w wr p F ll cap

set_option maxRecDepth 100000 in
set_option maxHeartbeats 3200000 in
theorem nearLast_core (w : World) (limit : Int) (v : Value) (l : List Int) (G : Nat → Prop) (hv : RdI G w v l) :
    Calls Try.prog 13 #[.int .i64 limit, v] w fun e w' => e = .returned (.bool true) ∧ Ext No w w' := by
  obtain ⟨a, cp, rfl, _, _⟩ := Rd.val hv
  have m0 := Int.emod_nonneg limit (show (65 : Int) ≠ 0 by decide)
  have m1 := Int.emod_lt_of_pos limit (show (0 : Int) < 65 by decide)
  obtain ⟨cap, hcap⟩ : ∃ cap, limit % 65 = cap := ⟨_, rfl⟩
  rw [hcap] at m0 m1
  have hcap' := Lib.hid hcap; clear hcap
  go_enter Try.func13, Try.ntmps13
  go_wp2_with fail
  refine (bring_spec _ _ _ (by decide) (by decide)).mono ?_
  rintro e w1 ⟨rfl, rfl⟩
  rw [hcap'.out]
  go_wp2_with fail
  refine (nt_new w _ (Ext.refl _ _) 1 cap (by decide) (by decide) (by omega) (by omega) [[]] rfl).mono ?_
  rintro e w1 ⟨p, F0, rfl, h0, _, _, _⟩
  have hN : OneNT w w1 p cap := ⟨_, _, h0⟩
  clear h0
  go_wp2_with fail
  go_loopg [7] l.length (fun g i wr => ∃ k : Nat, k + g = l.length ∧ i = .int .i64 k ∧ OneNT w wr p cap)
  case atStart => exact ⟨0, by omega, rfl, hN⟩
  case round =>
    obtain ⟨k, hk, rfl, F, ll, hN⟩ := hrel
    have hk' := Lib.hid hk
    have hkn : k ≤ l.length := by omega
    clear hk
    by_cases hlt : k < l.length
    · by_cases h100 : k < 100
      · obtain ⟨b, off, rfl, _, _, x0⟩ := Rd.at1 (hv.extNo hN.x) hlt
        rw [List.getElem?_map, nth_some hlt] at x0
        simp only [Option.map_some, int] at x0
        go_wp2_with fail
        refine (bring_spec _ _ _ (by decide) (by decide)).mono ?_
        rintro e w2 ⟨rfl, rfl⟩
        obtain ⟨page, hpage⟩ : ∃ page, nth l k % 1024 = page := ⟨_, rfl⟩
        rw [hpage]
        clear hpage
        go_wp2_with fail
        by_cases hE : putE ll 0 page = 0
        · cases hA : putA ll cap 0 page with
          | nil =>
            obtain ⟨q1, q2, q3⟩ := put_quiet hE hA
            have hhas := (putE_zero.1 hE).2.2.2
            have hE' := Lib.hid hE; clear hE
            have hA' := Lib.hid hA; clear hA
            have q1' := Lib.hid q1; clear q1
            have q2' := Lib.hid q2; clear q2
            have q3' := Lib.hid q3; clear q3
            have hhas' := Lib.hid hhas; clear hhas
            refine (nt_put hN 0 page hE'.out rfl hA'.out).mono ?_
            rintro e w3 ⟨r3, F3, rfl, h3, a3, _, _⟩
            obtain ⟨aa, ca, rfl, _, _⟩ := a3.val
            go_wp2_with fail
            refine (nt_take h3 0 q1'.out q2'.out q3'.out).mono ?_
            rintro e w4 ⟨F4, rfl, h4, _, _⟩
            go_wp2_with fail
            refine (nt_has h4 page hhas'.out).mono ?_
            rintro e w5 ⟨rfl, h5, _⟩
            go_wp2_with fail
            refine (nt_put h5 0 page hE'.out rfl hA'.out).mono ?_
            rintro e w6 ⟨r6, F6, rfl, h6, a6, _, _⟩
            have hN6 : OneNT w w6 p cap := ⟨_, _, h6⟩
            clear h6 h5 h4 h3 hN
            go_wp2_with fail
            go_roundg (l.length - (k + 1))
            case measure => have := hk'.out; omega
            case rel => exact ⟨k + 1, by omega, by go_num, hN6⟩
          | cons y ys =>
            have hE' := Lib.hid hE; clear hE
            have hA' := Lib.hid hA; clear hA
            refine (nt_put hN 0 page hE'.out rfl hA'.out).mono ?_
            rintro e w3 ⟨r3, F3, rfl, h3, a3, _, _⟩
            obtain ⟨aa, ca, rfl, _, _⟩ := a3.val
            have hN6 : OneNT w w3 p cap := ⟨_, _, h3⟩
            clear h3 hN
            go_wp2_with fail
            go_roundg (l.length - (k + 1))
            case measure => have := hk'.out; omega
            case rel => exact ⟨k + 1, by omega, by go_num, hN6⟩
        · have hE2 : (putE ll 0 page == 0) = false := by rw [beq_eq_false_iff_ne]; exact hE
          refine (nt_put hN 0 page rfl rfl rfl).mono ?_
          rintro e w3 ⟨r3, F3, rfl, h3, a3, _, _⟩
          have hN6 : OneNT w w3 p cap := ⟨_, _, h3⟩
          clear h3 hN a3
          go_wp2_with fail
          go_roundg (l.length - (k + 1))
          case measure => have := hk'.out; omega
          case rel => exact ⟨k + 1, by omega, by go_num, hN6⟩
      · have X := hN.x
        go_wp2_with fail
        refine (works50_spec _).mono ?_
        rintro e w2 ⟨rfl, x2⟩
        go_wp2_with fail
        go_ret
        exact ⟨rfl, X.transNo x2⟩
    · have X := hN.x
      go_wp2_with fail
      refine (works50_spec _).mono ?_
      rintro e w2 ⟨rfl, x2⟩
      go_wp2_with fail
      go_ret
      exact ⟨rfl, X.transNo x2⟩

theorem nearLast_walk (w : World) (limit : Int) (_ : (Lit.int .i64 limit).wf = true) (v : Value) (l : List Int) (hv : RdI (Iv 0 w.heap.size) w v l) (_ : l.length * 8 ≤ reachBytes ∧ ∀ x ∈ l, (Lit.int .i64 x).wf = true) :
    Calls Try.prog 13 #[.int .i64 limit, v] w fun e w' => e = .returned (.bool true) ∧ Below w.heap.size w w' :=
  (nearLast_core w limit v l _ hv).mono fun _ _ ⟨h1, h2⟩ => ⟨h1, h2.belowNo⟩
end Go.Proofs.Ytjkknjohmekeiaa
/- Plain: which pages are near, as a row of 1024 marks; what Put, Take and Drain do to them. No condition. -/
namespace Go.Proofs.Ytjkknjohmekeiaa

theorem count_set (a : Int) : ∀ (ll : List (List Int)) (k : Nat) (l : List Int), k < ll.length → (nth ll k).count a + (ll.set k l).flatten.count a = l.count a + ll.flatten.count a
  | [], k, _, h => by simp at h
  | x :: t, 0, l, _ => by
    rw [nth_eq (by simp)]
    simp only [List.getElem_cons_zero, List.set_cons_zero, List.flatten_cons, List.count_append]; omega
  | x :: t, k + 1, l, h => by
    have h' : k < t.length := by simpa using h
    have := count_set a t k l h'
    rw [nth_eq (by simpa using h)]
    rw [nth_eq h'] at this
    simp only [List.getElem_cons_succ, List.set_cons_succ, List.flatten_cons, List.count_append]
    omega

theorem hasIn_iff {ll : List (List Int)} {x : Int} : hasIn ll x = true ↔ x ∈ ll.flatten := by
  unfold hasIn
  simp [List.any_eq_true]
theorem hasIn_false {ll : List (List Int)} {x : Int} : hasIn ll x = false ↔ x ∉ ll.flatten := by
  rw [← hasIn_iff]; simp

theorem put_perm {ll : List (List Int)} {cap c page : Int} (h0 : putE ll c page = 0) : (putA ll cap c page ++ (putL ll cap c page).flatten).Perm (page :: ll.flatten) := by
  obtain ⟨h1, _⟩ := putE_zero.1 h0
  obtain ⟨e1, h2, h3⟩ := listIn_in h1
  unfold putA putL
  rw [if_pos h0, if_pos h0]
  rw [List.perm_iff_count]
  intro a
  have q1 := count_set a ll c.toNat ((listIn ll c ++ [page]).drop (putK (listIn ll c).length cap)) h2
  have q2 : ((listIn ll c ++ [page]).take (putK (listIn ll c).length cap)).count a + ((listIn ll c ++ [page]).drop (putK (listIn ll c).length cap)).count a = (listIn ll c ++ [page]).count a := by
    rw [← List.count_append, List.take_append_drop]
  rw [List.count_append] at q2
  rw [← e1] at q1
  have q3 : (page :: ll.flatten).count a = [page].count a + ll.flatten.count a := by rw [← List.count_append]; rfl
  rw [List.count_append, q3]
  omega
theorem put_perm0 {ll : List (List Int)} {cap c page : Int} (h0 : putE ll c page ≠ 0) : putA ll cap c page = [] ∧ putL ll cap c page = ll := by
  unfold putA putL
  rw [if_neg h0, if_neg h0]; exact ⟨rfl, rfl⟩
theorem take_perm {ll : List (List Int)} {c : Int} : ((if takeB ll c then [takeX ll c] else []) ++ (dropL ll c).flatten).Perm ll.flatten := by
  cases h1 : inR ll c
  · have e := (listIn_out h1).1
    unfold takeB dropL
    rw [e, h1]; simp
  · obtain ⟨e1, h2, h3⟩ := listIn_in h1
    unfold dropL
    rw [if_pos h1, List.perm_iff_count]
    intro a
    have q1 := count_set a ll c.toNat (listIn ll c).dropLast h2
    rw [← e1] at q1
    rw [List.count_append]
    have q2 : (if takeB ll c then [takeX ll c] else []).count a + (listIn ll c).dropLast.count a = (listIn ll c).count a := by
      unfold takeB takeX
      rcases List.eq_nil_or_concat (listIn ll c) with h | ⟨l, x, h⟩
      · rw [h]; simp
      · rw [h]; simp [List.count_append]; omega
    omega
theorem drain_perm {ll : List (List Int)} {c : Int} : (listIn ll c ++ (drainL ll c).flatten).Perm ll.flatten := by
  cases h1 : inR ll c
  · have e := (listIn_out h1).1
    unfold drainL
    rw [e, h1]; simp
  · obtain ⟨e1, h2, h3⟩ := listIn_in h1
    unfold drainL
    rw [if_pos h1, List.perm_iff_count]
    intro a
    have q1 := count_set a ll c.toNat [] h2
    rw [← e1] at q1
    rw [List.count_append]
    simpa using q1

/-! ### The marks -/
def ind (S : List Int) : List Int := (List.range 1024).map fun (i : Nat) => if (i : Int) ∈ S then 1 else 0
theorem ind_len (S : List Int) : (ind S).length = 1024 := by simp [ind]
theorem ind_get (S : List Int) {k : Nat} (h : k < 1024) : nth (ind S) k = if (k : Int) ∈ S then 1 else 0 := by
  rw [nth_eq (by rw [ind_len]; exact h)]
  simp [ind]
theorem ind_perm {S T : List Int} (h : S.Perm T) : ind S = ind T := by
  unfold ind
  apply List.map_congr_left
  intro i _
  simp only [h.mem_iff]
theorem ind_set1 (S : List Int) (k : Nat) : (ind S).set k 1 = ind ((k : Int) :: S) := by
  apply List.ext_getElem
  · simp [ind]
  · intro i h1 h2
    simp only [ind, List.length_set, List.length_map, List.length_range] at h1
    rw [List.getElem_set]
    simp only [ind, List.getElem_map, List.getElem_range, List.mem_cons]
    by_cases h : k = i
    · subst h; simp
    · rw [if_neg h]
      have : ¬ ((i : Int) = (k : Int)) := by omega
      simp [this]
theorem ind_set0 (S : List Int) (k : Nat) (hk : (k : Int) ∉ S) : (ind ((k : Int) :: S)).set k 0 = ind S := by
  apply List.ext_getElem
  · simp [ind]
  · intro i h1 h2
    simp only [ind, List.length_set, List.length_map, List.length_range] at h1
    rw [List.getElem_set]
    simp only [ind, List.getElem_map, List.getElem_range, List.mem_cons]
    by_cases h : k = i
    · subst h; simp [hk]
    · rw [if_neg h]
      have : ¬ ((i : Int) = (k : Int)) := by omega
      simp [this]
theorem ind_nil : ind [] = List.replicate 1024 0 := by
  unfold ind
  simp only [List.not_mem_nil, if_false]
  rw [List.map_const', List.length_range]
theorem sum_set : ∀ (l : List Int) (k : Nat) (v : Int), k < l.length → (l.set k v).sum + nth l k = l.sum + v
  | [], k, _, h => by simp at h
  | x :: t, 0, v, _ => by rw [nth_eq (by simp)]; simp; omega
  | x :: t, k + 1, v, h => by
    have h' : k < t.length := by simpa using h
    have := sum_set t k v h'
    rw [nth_eq h'] at this
    rw [nth_eq (by simpa using h)]
    simp only [List.getElem_cons_succ, List.set_cons_succ, List.sum_cons]
    omega
theorem sum_rep0 : ∀ n, (List.replicate n (0 : Int)).sum = 0
  | 0 => rfl
  | n + 1 => by rw [List.replicate_succ, List.sum_cons, sum_rep0 n]; rfl
theorem ind_sum : ∀ (S : List Int), S.Nodup → (∀ x ∈ S, 0 ≤ x ∧ x < 1024) → (ind S).sum = S.length
  | [], _, _ => by rw [ind_nil, sum_rep0]; rfl
  | x :: S, hn, hr => by
    obtain ⟨h0, h1⟩ := hr x (by simp)
    rw [List.nodup_cons] at hn
    obtain ⟨k, rfl⟩ : ∃ k : Nat, x = (k : Int) := ⟨x.toNat, by omega⟩
    have ih := ind_sum S hn.2 (fun y hy => hr y (by simp [hy]))
    rw [← ind_set1]
    have := sum_set (ind S) k 1 (by rw [ind_len]; omega)
    rw [ind_get S (by omega), if_neg hn.1] at this
    simp only [List.length_cons]
    omega
theorem sum_take_succ {l : List Int} {k : Nat} (h : k < l.length) : (l.take (k + 1)).sum = (l.take k).sum + nth l k := by
  rw [take_nth h, List.sum_append]; simp
theorem ind_take_bd (S : List Int) : ∀ k, 0 ≤ ((ind S).take k).sum ∧ ((ind S).take k).sum ≤ k
  | 0 => by simp
  | k + 1 => by
    have := ind_take_bd S k
    by_cases h : k < 1024
    · rw [sum_take_succ (by rw [ind_len]; exact h), ind_get S h]
      split <;> omega
    · rw [List.take_of_length_le (by rw [ind_len]; omega)] at this ⊢
      omega
def flen (ll : List (List Int)) : Nat := ll.flatten.length
theorem flat_take_succ {ll : List (List Int)} {k : Nat} (h : k < ll.length) : (flen (ll.take (k + 1)) : Int) = flen (ll.take k) + (nth ll k).length := by
  unfold flen; rw [take_nth h]; simp
theorem flat_le {ll : List (List Int)} {cap : Int} (h : NOk ll cap) : ∀ k, ((flen (ll.take k) : Nat) : Int) ≤ k * 64
  | 0 => by simp [flen]
  | k + 1 => by
    have ih := flat_le h k
    by_cases hk : k < ll.length
    · rw [flat_take_succ hk]
      have := h.lens _ (nth_mem hk)
      have := h.cap1
      omega
    · rw [List.take_of_length_le (by omega)] at ih ⊢
      omega
theorem bring_id (w : World) (x n : Int) (h1 : 1 ≤ n) (h2 : n ≤ 4096) (h3 : 0 ≤ x) (h4 : x < n) :
    Calls Try.prog 39 #[.int .i64 x, .int .i64 n] w fun e w' => e = .returned (.int .i64 x) ∧ w = w' := by
  have := bring_spec w x n h1 h2
  rw [Int.emod_eq_of_lt h3 h4] at this
  exact this
end Go.Proofs.Ytjkknjohmekeiaa
/- Plain: a zone's pages, those that are near, and the caches of single pages that are out. No condition. -/
namespace Go.Proofs.Ytjkknjohmekeiaa
open Go.Maps

abbrev Dm := DataW Unit
def key (h : Int) : Lit := .int .i64 h
def dat (c : Int) : Dm := .lit (.int .i64 c)
def cval : Dm → Int
  | .lit (.int _ c) => c
  | _ => 0
/-- The cache that a zone tells of a page. -/
def tagF (D : Dm) (l : List T3) (h : Nat) : Int := if Maps.has D (key h) then cval (D.atKey (key h) (dat 0)) else (nth l h).c
theorem key_ne {a b : Int} (h : a ≠ b) : key a ≠ key b := fun e => h (by injection e)
theorem key_is (a : Int) : WideAt.IsKeyLit (key a) := trivial
theorem tag_put {D : Dm} (h : IsMap D) (l : List T3) (p : Nat) (c : Int) : tagF (D.put (key p) (dat c)) l p = c := by
  unfold tagF
  rw [if_pos (has_put_same h (key_is _) _), atKey_put_same h (key_is _)]; rfl
theorem tag_put_ne {D : Dm} (l : List T3) {p h : Nat} (hne : h ≠ p) (c : Int) : tagF (D.put (key p) (dat c)) l h = tagF D l h := by
  unfold tagF
  have hk := key_ne (show (h : Int) ≠ p by omega)
  rw [has_put_other hk, atKey_put_other hk]
theorem tag_del_ne {D : Dm} (l : List T3) {p h : Nat} (hne : h ≠ p) : tagF (D.del (key p)) l h = tagF D l h := by
  unfold tagF
  have hk := key_ne (show (h : Int) ≠ p by omega)
  rw [has_del_other hk, atKey_del_other hk]
theorem tag_no {D : Dm} {l : List T3} {h : Nat} (hn : Maps.has D (key h) = false) : tagF D l h = (nth l h).c := by unfold tagF; rw [if_neg (by rw [hn]; decide)]
theorem tag_same {D : Dm} {l l' : List T3} {h : Nat} (he : nth l' h = nth l h) : tagF D l' h = tagF D l h := by unfold tagF; rw [he]

/-- A single page that is out. -/
def Sg (l : List T3) (x : Int) : Prop := ∃ i : Nat, x = i ∧ i < l.length ∧ (nth l i).a = 2 ∧ (nth l i).b = 0
theorem Sg.is {l : List T3} {i : Nat} (h : Sg l i) : i < l.length ∧ (nth l i).a = 2 ∧ (nth l i).b = 0 := by
  obtain ⟨j, e, h1, h2, h3⟩ := h
  obtain rfl : i = j := by omega
  exact ⟨h1, h2, h3⟩
theorem outAt_iff {l : List T3} {x : Int} : outAt l x = true ↔ ∃ i : Nat, x = i ∧ i < l.length ∧ (nth l i).a = 2 := by
  unfold outAt
  simp only [Bool.and_eq_true, decide_eq_true_eq]
  constructor
  · rintro ⟨h1, h2, h3⟩; exact ⟨x.toNat, by omega, by omega, h3⟩
  · rintro ⟨i, rfl, h2, h3⟩; exact ⟨by omega, by omega, by simpa using h3⟩
/-- A page given back, if it is out. -/
def fstep (l : List T3) (x : Int) : List T3 := if outAt l x then freeT l x.toNat else l
def backL (l : List T3) (A : List Int) : List T3 := A.foldl fstep l
theorem fstep_out {l : List T3} {i : Nat} (hi : i < l.length) (ha : (nth l i).a = 2) : fstep l i = freeT l i := by
  unfold fstep
  rw [if_pos (outAt_iff.2 ⟨i, rfl, hi, ha⟩), Int.toNat_natCast]
theorem fstep_no {l : List T3} {x : Int} (h : outAt l x = false) : fstep l x = l := by unfold fstep; rw [if_neg (by rw [h]; decide)]
theorem backL_app (l : List T3) (A B : List Int) : backL l (A ++ B) = backL (backL l A) B := List.foldl_append
theorem backL_snoc (l : List T3) (A : List Int) (x : Int) : backL l (A ++ [x]) = fstep (backL l A) x := by rw [backL_app]; rfl
theorem E_outAt (l : List T3) (x : Int) : outAt (E l) x = outAt l x := by
  unfold outAt
  rw [E_len]
  by_cases h : x.toNat < l.length
  · rw [E_out h]
  · by_cases h0 : 0 ≤ x
    · rw [decide_eq_false (show ¬ x < l.length by omega)]; simp
    · rw [decide_eq_false h0]; simp
theorem E_fstep (l : List T3) (x : Int) : E (fstep l x) = fstep (E l) x := by
  unfold fstep
  rw [E_outAt]
  cases h : outAt l x
  · rfl
  · obtain ⟨i, rfl, hi, _⟩ := outAt_iff.1 h
    simp only [if_true, Int.toNat_natCast]
    exact E_freeT hi
theorem E_backL : ∀ (A : List Int) (l : List T3), E (backL l A) = backL (E l) A
  | [], _ => rfl
  | x :: A, l => by
    show E (backL (fstep l x) A) = backL (fstep (E l) x) A
    rw [E_backL A, E_fstep]
theorem fstep_bi {l : List T3} (h : BI l) (x : Int) : BI (fstep l x) ∧ (fstep l x).length = l.length := by
  cases ho : outAt l x
  · rw [fstep_no ho]; exact ⟨h, rfl⟩
  · obtain ⟨i, rfl, hi, ha⟩ := outAt_iff.1 ho
    obtain ⟨k, c, _, he⟩ := out_is h.va hi ha
    obtain ⟨hp, hb⟩ := h.free hi he
    rw [fstep_out hi ha]; exact ⟨hb, hp.len⟩
theorem backL_bi : ∀ (A : List Int) {l : List T3}, BI l → BI (backL l A) ∧ (backL l A).length = l.length
  | [], _, h => ⟨h, rfl⟩
  | x :: A, l, h => by
    obtain ⟨h1, h2⟩ := fstep_bi h x
    obtain ⟨h3, h4⟩ := backL_bi A h1
    exact ⟨h3, by show (backL (fstep l x) A).length = _; rw [h4, h2]⟩

/-- What is so of a table to which single pages are given back. -/
structure BkP (l l' : List T3) (A : List Int) : Prop where
  len : l'.length = l.length
  bi : BI l'
  fr : frS l' = frS l + A.length
  out : ∀ x : Nat, x < l.length → ((nth l' x).a = 2 ↔ (x : Int) ∉ A ∧ (nth l x).a = 2)
  keep : ∀ x : Nat, x < l.length → (nth l' x).a = 2 → nth l' x = nth l x
theorem backP : ∀ (A : List Int) {l : List T3}, BI l → A.Nodup → (∀ x ∈ A, Sg l x) → BkP l (backL l A) A
  | [], l, h, _, _ => ⟨rfl, h, by show frS l = _; simp, fun x _ => by show (nth l x).a = 2 ↔ _; simp, fun _ _ _ => rfl⟩
  | y :: A, l, h, hn, hs => by
    obtain ⟨i, rfl, hi, ha, hb⟩ := hs y (List.mem_cons_self ..)
    obtain ⟨k, c, hk, he⟩ := out_is h.va hi ha
    have hk0 : k = 0 := by rw [he] at hb; have : ((k : Nat) : Int) = 0 := hb; omega
    subst hk0
    obtain ⟨hp, hbi⟩ := h.free hi he
    have hkeep : ∀ x : Nat, x < l.length → (nth (freeT l i) x).a = 2 → nth (freeT l i) x = nth l x := fun x hx hx2 => freeT_keep h hi he hx hx2
    rw [List.nodup_cons] at hn
    have hst : backL l ((i : Int) :: A) = backL (freeT l i) A := by show backL (fstep l i) A = _; rw [fstep_out hi ha]
    have ih := backP A (l := freeT l i) hbi hn.2 (fun x hx => by
      obtain ⟨j, rfl, hj, ja, jb⟩ := hs x (List.mem_cons_of_mem _ hx)
      have hji : j ≠ i := fun e => hn.1 (by rw [← e]; exact hx)
      have h2 := (hp.out j hj).2 ⟨hji, ja⟩
      exact ⟨j, rfl, by rw [hp.len]; exact hj, h2, by rw [hkeep j hj h2]; exact jb⟩)
    rw [hst]
    refine ⟨by rw [ih.len, hp.len], ih.bi, ?_, fun x hx => ?_, fun x hx hx2 => ?_⟩
    · have : pw 0 = 1 := rfl
      rw [ih.fr, hp.fr, this, List.length_cons]; omega
    · rw [ih.out x (by rw [hp.len]; exact hx), hp.out x hx, List.mem_cons]
      constructor
      · rintro ⟨h1, h2, h3⟩
        exact ⟨fun e => by rcases e with e | e; exact h2 (by omega); exact h1 e, h3⟩
      · rintro ⟨h1, h2⟩; exact ⟨fun e => h1 (.inr e), fun e => h1 (.inl (by rw [e])), h2⟩
    · have h3 := ih.keep x (by rw [hp.len]; exact hx) hx2
      rw [h3] at hx2 ⊢
      exact hkeep x hx hx2

/-! ### What is so of a zone -/
/-- The pages, those that are near (in whatever order), and the caches of single pages. -/
structure ZI (l : List T3) (N : List Int) (D : Dm) : Prop where
  bi : BI l
  nd : N.Nodup
  sg : ∀ x ∈ N, Sg l x
  im : IsMap D
  ky : ∀ h : Int, Maps.has D (key h) = true → Sg l h ∧ h ∉ N
section
variable {l l' : List T3} {N M A : List Int} {D : Dm}
theorem ZI.perm (h : ZI l N D) (hp : N.Perm M) : ZI l M D :=
  ⟨h.bi, hp.nodup_iff.1 h.nd, fun x hx => h.sg x (hp.mem_iff.2 hx), h.im, fun k hk => ⟨(h.ky k hk).1, fun hm => (h.ky k hk).2 (hp.mem_iff.2 hm)⟩⟩
theorem sg_keep (hl : l'.length = l.length) {x : Int} (hs : Sg l x) (ho : ∀ i : Nat, x = i → i < l.length → (nth l i).a = 2 → nth l' i = nth l i) : Sg l' x := by
  obtain ⟨i, rfl, h1, h2, h3⟩ := hs
  have e := ho i rfl h1 h2
  exact ⟨i, rfl, by omega, by rw [e]; exact h2, by rw [e]; exact h3⟩
theorem BkP.sg (h : BkP l l' A) {x : Int} (hs : Sg l x) (hn : x ∉ A) : Sg l' x :=
  sg_keep h.len hs (fun i e hi ha => by subst e; exact h.keep i hi ((h.out i hi).2 ⟨hn, ha⟩))
theorem nodup_app {A N : List Int} (h : (A ++ N).Nodup) : A.Nodup ∧ N.Nodup ∧ ∀ x ∈ N, x ∉ A := by
  rw [List.nodup_append] at h
  exact ⟨h.1, h.2.1, fun x hx hxa => h.2.2 x hxa x hx rfl⟩
theorem ZI.bkp (h : ZI l (A ++ N) D) : BkP l (backL l A) A :=
  backP A h.bi (nodup_app h.nd).1 (fun x hx => h.sg x (List.mem_append_left _ hx))
theorem ZI.back (h : ZI l (A ++ N) D) : ZI (backL l A) N D := by
  obtain ⟨n1, n2, n3⟩ := nodup_app h.nd
  have hb := h.bkp
  refine ⟨hb.bi, n2, fun x hx => hb.sg (h.sg x (List.mem_append_right _ hx)) (n3 x hx), h.im, fun k hk => ?_⟩
  obtain ⟨h1, h2⟩ := h.ky k hk
  rw [List.mem_append] at h2
  exact ⟨hb.sg h1 (fun e => h2 (.inl e)), fun e => h2 (.inr e)⟩
theorem ZI.near (h : ZI l N D) {p : Nat} (hp : Sg l p) (hn : (p : Int) ∉ N) : ZI l ((p : Int) :: N) (D.del (key p)) := by
  refine ⟨h.bi, List.nodup_cons.2 ⟨hn, h.nd⟩, fun x hx => ?_, h.im.del _, fun k hk => ?_⟩
  · rcases List.mem_cons.1 hx with rfl | hx
    · exact hp
    · exact h.sg x hx
  · by_cases hkp : k = p
    · rw [hkp, has_del_same] at hk; cases hk
    · rw [has_del_other (key_ne hkp)] at hk
      obtain ⟨h1, h2⟩ := h.ky k hk
      exact ⟨h1, fun hm => by rcases List.mem_cons.1 hm with e | e; exact hkp e; exact h2 e⟩
theorem ZI.take {p : Nat} (h : ZI l ((p : Int) :: N) D) (c : Int) : ZI l N (D.put (key p) (dat c)) := by
  have hnd := List.nodup_cons.1 h.nd
  refine ⟨h.bi, hnd.2, fun x hx => h.sg x (List.mem_cons_of_mem _ hx), h.im.put _ _, fun k hk => ?_⟩
  by_cases hkp : k = p
  · subst hkp; exact ⟨h.sg _ (List.mem_cons_self ..), hnd.1⟩
  · rw [has_put_other (key_ne hkp)] at hk
    obtain ⟨h1, h2⟩ := h.ky k hk
    exact ⟨h1, fun hm => h2 (List.mem_cons_of_mem _ hm)⟩
theorem free_ne {i o x : Nat} (hf : freeB l i o = true) (ha : (nth l x).a = 2) : x ≠ i := by
  rintro rfl
  rw [(free_is.1 hf).2] at ha
  exact absurd ha (by show ¬ (0 : Int) = 2; decide)
theorem least_free {o : Nat} {b : Bk} (hb : leastL l o = some b) : freeB l b.i b.o = true ∧ b.i < l.length := by
  obtain ⟨_, _, _, h4, h5⟩ := least_some (11 - o) o (Nat.le_refl _) b hb
  exact ⟨h5, h4⟩
theorem alloc_same (h : BI l) {o c : Nat} {b : Bk} (hc : c ≤ 8) (hb : leastL l o = some b) {x : Nat} (hx : x < l.length) (ha : (nth l x).a = 2) : nth (allocL l o c) x = nth l x :=
  alloc_keep h hb hx (free_ne (least_free hb).1 ha) (((h.alloc hc hb).1.out x hx).2 (.inr ha))
theorem ZI.alloc (h : ZI l N D) {o c : Nat} (hc : c ≤ 8) {b : Bk} (hb : leastL l o = some b) : ZI (allocL l o c) N (if o = 0 then D.put (key b.i) (dat c) else D) := by
  obtain ⟨hp, hbi⟩ := h.bi.alloc hc hb
  have hs : ∀ x : Int, Sg l x → Sg (allocL l o c) x := fun x hx => sg_keep hp.len hx (fun i _ hi ha => alloc_same h.bi hc hb hi ha)
  have hni : (b.i : Int) ∉ N := fun hm => free_ne (least_free hb).1 ((h.sg _ hm).is).2.1 rfl
  refine ⟨hbi, h.nd, fun x hx => hs x (h.sg x hx), by split; exact h.im.put _ _; exact h.im, fun k hk => ?_⟩
  by_cases ho : o = 0
  · subst ho
    rw [if_pos rfl] at hk
    by_cases hkb : k = b.i
    · subst hkb
      refine ⟨⟨b.i, rfl, by rw [hp.len]; exact (least_free hb).2, by rw [hp.at0], by rw [hp.at0]; rfl⟩, hni⟩
    · rw [has_put_other (key_ne hkb)] at hk
      exact ⟨hs k (h.ky k hk).1, (h.ky k hk).2⟩
  · rw [if_neg ho] at hk
    exact ⟨hs k (h.ky k hk).1, (h.ky k hk).2⟩
theorem free_same (h : BI l) {i k : Nat} {c : Int} (hi : i < l.length) (he : nth l i = ⟨2, k, c⟩) {x : Nat} (hx : x < l.length) (hne : x ≠ i) (ha : (nth l x).a = 2) : nth (freeT l i) x = nth l x :=
  freeT_keep h hi he hx (((h.free hi he).1.out x hx).2 ⟨hne, ha⟩)
theorem ZI.big (h : ZI l N D) {i k : Nat} {c : Int} (hi : i < l.length) (he : nth l i = ⟨2, k, c⟩) (hk : 0 < k) : ZI (freeT l i) N D := by
  obtain ⟨hp, hbi⟩ := h.bi.free hi he
  have hs : ∀ x : Int, Sg l x → Sg (freeT l i) x := fun x hx => sg_keep hp.len hx (fun j e hj ha => by
    refine free_same h.bi hi he hj (fun ej => ?_) ha
    subst e; subst ej
    have := hx.is.2.2
    rw [he] at this
    have h0 : ((k : Nat) : Int) = 0 := this
    omega)
  exact ⟨hbi, h.nd, fun x hx => hs x (h.sg x hx), h.im, fun k hk => ⟨hs k (h.ky k hk).1, (h.ky k hk).2⟩⟩
theorem ZI.has_free (h : ZI l N D) {i o : Nat} (hf : freeB l i o = true) : Maps.has D (key i) = false := by
  cases hk : Maps.has D (key i)
  · rfl
  · exact absurd rfl (free_ne hf (h.ky i hk).1.is.2.1)
theorem ZI.has_big (h : ZI l N D) {i k : Nat} {c : Int} (he : nth l i = ⟨2, k, c⟩) (hk : 0 < k) : Maps.has D (key i) = false := by
  cases hh : Maps.has D (key i)
  · rfl
  · have := (h.ky i hh).1.is.2.2
    rw [he] at this
    have h0 : ((k : Nat) : Int) = 0 := this
    omega
end

/-! ### The document's zone beside it -/
def setC (l : List T3) (p : Nat) (c : Int) : List T3 := l.set p ⟨2, 0, c⟩
section
variable {l l' : List T3} {N M A : List Int} {D : Dm}
theorem setC_len (l : List T3) (p : Nat) (c : Int) : (setC l p c).length = l.length := by simp [setC]
theorem setC_eq {p : Nat} (c : Int) (hp : p < l.length) : setL l p ⟨2, 0, c⟩ = setC l p c := by
  have hs : sz ⟨2, 0, c⟩ = 1 := rfl
  unfold setL setC
  rw [hs, List.set_eq_take_append_cons_drop, if_pos hp]; simp
theorem setC_nth {p x : Nat} (c : Int) (hx : x < l.length) : nth (setC l p c) x = if x = p then ⟨2, 0, c⟩ else nth l x := by
  unfold setC
  by_cases e : x = p
  · subst e; rw [if_pos rfl]; exact nth_set_eq _ hx
  · rw [if_neg e]; exact nth_set_ne _ hx e
theorem setC_E {p : Nat} (c : Int) (hs : Sg l p) : E (setC l p c) = E l := by
  obtain ⟨hp, ha, hb⟩ := hs.is
  apply ext_nth (by rw [E_len, E_len, setC_len])
  intro j hj
  rw [E_len, setC_len] at hj
  rw [E_nth (by rw [setC_len]; exact hj), E_nth hj, setC_nth c hj]
  by_cases e : j = p
  · subst e; rw [if_pos rfl]; unfold er; rw [if_pos rfl, if_pos ha, hb]
  · rw [if_neg e]
theorem setC_bi {p : Nat} {c : Int} (h : BI l) (hs : Sg l p) (h0 : 0 ≤ c) (h8 : c ≤ 8) : BI (setC l p c) := by
  obtain ⟨hp, ha, hb⟩ := hs.is
  have hr := hd_of_kind h.va hp (by rw [ha]; decide)
  have hsz : sz (nth l p) = 1 := by unfold sz; rw [hb]; rfl
  have hm : May l p ⟨2, 0, c⟩ := by
    have h1 : sz ⟨2, 0, c⟩ = 1 := rfl
    refine ⟨?_, by rw [h1]; exact Nat.mod_one _, by rw [h1]; omega, fun q hq => ?_⟩
    · unfold headB; simp [h0, h8]
    · rw [hq.uniq (Hd.start hr), hsz, h1]; exact Nat.le_refl _
  have hv := hm.va h.va
  rw [setC_eq c hp] at hv
  refine ⟨tab_iff.2 ⟨by rw [setC_len]; exact h.pos, by rw [setC_len]; exact h.le, hv⟩, fun x o ho hx => ?_⟩
  have hE := setC_E c hs
  rw [← E_free, hE, E_free] at hx ⊢
  exact h.np x o ho hx
structure ZR (l : List T3) (N : List Int) (D : Dm) (l' : List T3) : Prop where
  e : E l = E l'
  bi : BI l'
  ca : ∀ h : Nat, h < l.length → (nth l h).a = 2 → (h : Int) ∉ N → tagF D l h = (nth l' h).c
theorem ZR.len (h : ZR l N D l') : l'.length = l.length := by rw [← E_len l', ← h.e, E_len]
theorem ZR.ab (h : ZR l N D l') {x : Nat} (hx : x < l.length) : (nth l' x).a = (nth l x).a ∧ (nth l' x).b = (nth l x).b := by
  have h1 := E_nth (l := l) hx
  have h2 := E_nth (l := l') (i := x) (by rw [h.len]; exact hx)
  rw [← h.e, h1] at h2
  exact ⟨by rw [← er_a (nth l' x), ← h2, er_a], by rw [← er_b (nth l' x), ← h2, er_b]⟩
theorem ZR.sg (h : ZR l N D l') {x : Int} (hs : Sg l x) : Sg l' x := by
  obtain ⟨i, rfl, h1, h2, h3⟩ := hs
  obtain ⟨a, b⟩ := h.ab h1
  exact ⟨i, rfl, by rw [h.len]; exact h1, by rw [a]; exact h2, by rw [b]; exact h3⟩
theorem ZR.perm (h : ZR l N D l') (hp : N.Perm M) : ZR l M D l' := ⟨h.e, h.bi, fun x hx ha hn => h.ca x hx ha (fun hm => hn (hp.mem_iff.1 hm))⟩
theorem ZR.near (h : ZR l N D l') {p : Nat} (hp : Sg l p) : ZR l ((p : Int) :: N) (D.del (key p)) (setC l' p 0) := by
  refine ⟨by rw [setC_E 0 (h.sg hp)]; exact h.e, setC_bi h.bi (h.sg hp) (by decide) (by decide), fun x hx ha hn => ?_⟩
  have hne : x ≠ p := fun e => hn (by rw [e]; exact List.mem_cons_self ..)
  rw [tag_del_ne l hne, setC_nth 0 (by rw [h.len]; exact hx), if_neg hne]
  exact h.ca x hx ha (fun hm => hn (List.mem_cons_of_mem _ hm))
theorem ZR.take {p : Nat} (h : ZR l ((p : Int) :: N) D l') (hi : ZI l ((p : Int) :: N) D) {c : Int} (h0 : 0 ≤ c) (h8 : c ≤ 8) : ZR l N (D.put (key p) (dat c)) (setC l' p c) := by
  have hp := hi.sg _ (List.mem_cons_self ..)
  refine ⟨by rw [setC_E c (h.sg hp)]; exact h.e, setC_bi h.bi (h.sg hp) h0 h8, fun x hx ha hn => ?_⟩
  rw [setC_nth c (by rw [h.len]; exact hx)]
  by_cases hne : x = p
  · subst hne; rw [if_pos rfl, tag_put hi.im]
  · rw [tag_put_ne l hne, if_neg hne]
    exact h.ca x hx ha (fun hm => by rcases List.mem_cons.1 hm with e | e; exact hne (by omega); exact hn e)
theorem ZR.back (h : ZR l (A ++ N) D l') (hi : ZI l (A ++ N) D) : ZR (backL l A) N D (backL l' A) := by
  have hb := hi.bkp
  have hb' : BkP l' (backL l' A) A := backP A h.bi (nodup_app hi.nd).1 (fun x hx => h.sg (hi.sg x (List.mem_append_left _ hx)))
  refine ⟨by rw [E_backL, E_backL, h.e], hb'.bi, fun x hx ha hn => ?_⟩
  rw [hb.len] at hx
  obtain ⟨h1, h2⟩ := (hb.out x hx).1 ha
  have hx' : x < l'.length := by rw [h.len]; exact hx
  have ha' := (hb'.out x hx').2 ⟨h1, by rw [(h.ab hx).1]; exact h2⟩
  rw [tag_same (hb.keep x hx ha), hb'.keep x hx' ha']
  exact h.ca x hx h2 (fun hm => by rcases List.mem_append.1 hm with e | e; exact h1 e; exact hn e)
theorem ZR.least (h : ZR l N D l') (o : Nat) : leastL l' o = leastL l o := by rw [← E_least l', ← h.e, E_least]
theorem ZR.alloc (h : ZR l N D l') (hi : ZI l N D) {o c : Nat} (hc : c ≤ 8) {b : Bk} (hb : leastL l o = some b) : ZR (allocL l o c) N (if o = 0 then D.put (key b.i) (dat c) else D) (allocL l' o c) := by
  have hb' : leastL l' o = some b := by rw [h.least]; exact hb
  obtain ⟨hp, _⟩ := hi.bi.alloc hc hb
  obtain ⟨hp', hbi'⟩ := h.bi.alloc hc hb'
  refine ⟨by rw [E_allocL, E_allocL, h.e], hbi', fun x hx ha hn => ?_⟩
  rw [hp.len] at hx
  by_cases e : x = b.i
  · subst e
    rw [hp'.at0]
    by_cases ho : o = 0
    · subst ho; rw [if_pos rfl, tag_put hi.im]
    · rw [if_neg ho, tag_no (hi.has_free (least_free hb).1), hp.at0]
  · have h2 : (nth l x).a = 2 := ((hp.out x hx).1 ha).resolve_left e
    have e2 : tagF (if o = 0 then D.put (key b.i) (dat c) else D) (allocL l o c) x = tagF D l x := by
      rw [← tag_same (D := D) (alloc_same hi.bi hc hb hx h2)]
      split
      · exact tag_put_ne _ e _
      · rfl
    rw [e2, alloc_same h.bi hc hb' (by rw [h.len]; exact hx) (by rw [(h.ab hx).1]; exact h2)]
    exact h.ca x hx h2 hn
theorem ZR.big (h : ZR l N D l') (hi : ZI l N D) {i k : Nat} {c : Int} (hl : i < l.length) (he : nth l i = ⟨2, k, c⟩) : ZR (freeT l i) N D (freeT l' i) := by
  obtain ⟨hp, _⟩ := hi.bi.free hl he
  have hl' : i < l'.length := by rw [h.len]; exact hl
  have he' : nth l' i = ⟨2, k, (nth l' i).c⟩ := by
    obtain ⟨a, b⟩ := h.ab hl
    rw [he] at a b
    exact T3.ext3 a b rfl
  obtain ⟨hp', hbi'⟩ := h.bi.free hl' he'
  refine ⟨by rw [E_freeT hl, E_freeT hl', h.e], hbi', fun x hx ha hn => ?_⟩
  rw [hp.len] at hx
  obtain ⟨h1, h2⟩ := (hp.out x hx).1 ha
  rw [tag_same (free_same hi.bi hl he hx h1 h2), free_same h.bi hl' he' (by rw [h.len]; exact hx) h1 (by rw [(h.ab hx).1]; exact h2)]
  exact h.ca x hx h2 hn
end
end Go.Proofs.Ytjkknjohmekeiaa
/- Buddies and the document's beside them, call by call. No condition. -/
namespace Go.Proofs.Ytjkknjohmekeiaa
open Go.RowKit

def okA (o c : Int) : Bool := decide ((0 ≤ o ∧ o ≤ 10) ∧ 0 ≤ c ∧ c ≤ 8)
def aX (l : List T3) (o c : Int) : Int := if okA o c then allocX l o.toNat else 0
def aE (l : List T3) (o c : Int) : Int := if okA o c then allocE l o.toNat else 2
def aL (l : List T3) (o c : Int) : List T3 := if okA o c then allocL l o.toNat c.toNat else l
def fE (l : List T3) (page : Int) : Int := if outAt l page then 0 else 60
section
variable {w0 w : World} {p : Nat} {v : Value} {l : List T3}
theorem okA_yes {o c : Int} (h : okA o c = true) : ∃ o' c' : Nat, o = o' ∧ c = c' ∧ o' ≤ 10 ∧ c' ≤ 8 := by
  have hb := of_decide_eq_true h
  exact ⟨o.toNat, c.toNat, by omega, by omega, by omega, by omega⟩
theorem bt_allocA (h : BT w0 w p v l) (o c : Int) :
    Calls Try.prog 72 #[.pointer (some ⟨p, 0, none⟩), .int .i64 o, .int .i64 c] w fun e w' => e = .returned (.tuple #[.int .i64 (aX l o c), .int .i64 (aE l o c)]) ∧ BT w0 w' p v (aL l o c) ∧ Ext (OwnOf v) w w' := by
  cases hk : okA o c
  · obtain ⟨base, hr⟩ := h.r
    refine (alloc72_bad w p base v l hr h.i.pos o c (of_decide_eq_false hk)).mono ?_
    rintro e w' ⟨he, rfl⟩
    unfold aX aE aL
    rw [hk]
    exact ⟨he, h, Ext.refl _ _⟩
  · obtain ⟨o, c, rfl, rfl, h1, h2⟩ := okA_yes hk
    refine (bt_alloc h o c h1 h2 rfl rfl rfl).mono ?_
    rintro e w' ⟨he, hB, hx⟩
    unfold aX aE aL
    rw [hk]
    exact ⟨he, hB, hx⟩
theorem bt_freeA (h : BT w0 w p v l) (page : Int) :
    Calls Try.prog 69 #[.pointer (some ⟨p, 0, none⟩), .int .i64 page] w fun e w' => e = .returned (.int .i64 (fE l page)) ∧ BT w0 w' p v (fstep l page) ∧ Ext (OwnOf v) w w' := by
  cases hk : outAt l page
  · refine (bt_bad h page hk).mono ?_
    rintro e w' ⟨he, rfl⟩
    unfold fE
    rw [hk, fstep_no hk]
    exact ⟨he, h, Ext.refl _ _⟩
  · obtain ⟨i, rfl, hi, ha⟩ := outAt_iff.1 hk
    refine (bt_free h i hi ha rfl).mono ?_
    rintro e w' ⟨he, hB, hx⟩
    unfold fE
    rw [hk, fstep_out hi ha]
    exact ⟨he, hB, hx⟩
theorem rt_allocA (h : BT w0 w p v l 122) (o c : Int) :
    Calls Try.prog 75 #[.pointer (some ⟨p, 0, none⟩), .int .i64 o, .int .i64 c] w fun e w' => e = .returned (.tuple #[.int .i64 (aX l o c), .int .i64 (aE l o c)]) ∧ BT w0 w' p v (aL l o c) 122 ∧ Ext (OwnOf v) w w' := by
  cases hk : okA o c
  · refine (alloc75_bad w _ o c (of_decide_eq_false hk)).mono ?_
    rintro e w' ⟨he, rfl⟩
    unfold aX aE aL
    rw [hk]
    exact ⟨he, h, Ext.refl _ _⟩
  · obtain ⟨o, c, rfl, rfl, h1, h2⟩ := okA_yes hk
    obtain ⟨base, hr⟩ := h.r
    refine (alloc75_spec w p base v l hr h.i.va o c h1 h2).mono ?_
    rintro e w' ⟨he, hB, hx⟩
    unfold aX aE aL
    rw [hk]
    refine ⟨he, ⟨h.x.transNew hx h.vn, ⟨base, hB⟩, ?_, h.pn, h.vn⟩, hx⟩
    show BI (allocL l o c)
    cases hb : leastL l o with
    | none => rw [BI.none c hb]; exact h.i
    | some b => exact (h.i.alloc h2 hb).2
theorem rt_freeA (h : BT w0 w p v l 122) (page : Int) :
    Calls Try.prog 77 #[.pointer (some ⟨p, 0, none⟩), .int .i64 page] w fun e w' => e = .returned (.int .i64 (fE l page)) ∧ BT w0 w' p v (fstep l page) 122 ∧ Ext (OwnOf v) w w' := by
  obtain ⟨base, hr⟩ := h.r
  cases hk : outAt l page
  · refine (free77_bad w p base v l hr page hk).mono ?_
    rintro e w' ⟨he, rfl⟩
    unfold fE
    rw [hk, fstep_no hk]
    exact ⟨he, h, Ext.refl _ _⟩
  · have hbi := fstep_bi h.i page
    obtain ⟨i, rfl, hi, ha⟩ := outAt_iff.1 hk
    refine (free77_spec w p base v l hr h.i.va i hi ha).mono ?_
    rintro e w' ⟨he, hB, hx⟩
    unfold fE
    rw [hk]
    rw [fstep_out hi ha] at hbi ⊢
    exact ⟨he, ⟨h.x.transNew hx h.vn, ⟨base, hB⟩, hbi.1, h.pn, h.vn⟩, hx⟩
end

/-- Buddies, and the document's beside them. -/
structure PB (w0 w : World) (p q : Nat) (v u : Value) (l : List T3) : Prop where
  b : BT w0 w p v l
  m : BT w0 w q u l 122
  d1 : ¬ OwnOf v q
  d2 : ¬ OwnOf u p
  d3 : ∀ x, OwnOf v x → ¬ OwnOf u x
section
variable {w0 w w' w'' : World} {p q : Nat} {v u : Value} {l L : List T3}
theorem PB.extNo (h : PB w0 w p q v u l) (hx : Ext No w w') : PB w0 w' p q v u l := ⟨h.b.extNo hx, h.m.extNo hx, h.d1, h.d2, h.d3⟩
/-- Behind the program's call. -/
theorem PB.mid (h : PB w0 w p q v u l) (hx : Ext (OwnOf v) w w') : BT w0 w' q u l 122 := h.m.ext hx h.d1 (fun x h1 h2 => h.d3 x h2 h1) h.b.vn
/-- Behind both. -/
theorem PB.two (h : PB w0 w p q v u l) (hb : BT w0 w' p v L) (hm : BT w0 w'' q u L 122) (hx : Ext (OwnOf u) w' w'') : PB w0 w'' p q v u L :=
  ⟨hb.ext hx h.d2 h.d3 h.m.vn, hm, h.d1, h.d2, h.d3⟩
end
end Go.Proofs.Ytjkknjohmekeiaa
/- Buddies to which calls are done: the walk. No condition. -/
namespace Go.Proofs.Ytjkknjohmekeiaa
open Go.RowKit

theorem modn (x n : Int) (h : 0 < n) : ∃ k : Nat, x % n = k ∧ (k : Int) < n := ⟨(x % n).toNat, by have := Int.emod_nonneg x (by omega : n ≠ 0); omega, by have := Int.emod_lt_of_pos x h; have := Int.emod_nonneg x (by omega : n ≠ 0); omega⟩

set_option maxRecDepth 100000 in
set_option maxHeartbeats 6400000 in
theorem played66_spec (w : World) (pages : Int) (vd : Value) (ds : List T3) (G : Nat → Prop) (hv : RdT G w vd ds) :
    Calls Try.prog 66 #[.int .i64 pages, vd] w fun e w' => ∃ p v l vo out, e = .returned (.tuple #[.pointer (some ⟨p, 0, none⟩), vo]) ∧ PS w w' p v l vo out ∧ (l.length : Int) = 1 + pages % 300 := by
  obtain ⟨ad, cd, rfl, hcd, hcd2⟩ := hv.val
  obtain ⟨m, hm, hm2⟩ := modn pages 300 (by decide)
  go_enter Try.func66, Try.ntmps66
  go_wp2_with fail
  refine (bring_spec w pages 300 (by decide) (by decide)).mono ?_
  rintro e w1 ⟨rfl, rfl⟩
  rw [hm]
  have hw1 : IntKind.i64.wrap (1 + (m : Int)) = ((1 + m : Nat) : Int) := by rw [IntKind.wrap_i64]; omega
  go_wp2_with fail
  refine (bt_new w w (Ext.refl _ _) (1 + m) (by omega) (by omega) rfl).mono ?_
  rintro e w1 ⟨p, v, rfl, hB, hvn, hpn, hx1⟩
  have hl0 : (full (1 + m)).length = 1 + m := full_len _
  have hP0 : PS w w1 p v (full (1 + m)) (.slice none 0 0) [] := ⟨hB, ⟨w1.heap.size, hx1.size, Nat.le_refl _, World.ownsRow_nil _ _ _ _⟩, fun x h => by simp [OwnOf, Value.ownBlock] at h, List.nodup_nil, fun x => by
    constructor
    · intro h; cases h
    · rintro ⟨h1, h2⟩; rw [hl0] at h1; exact absurd h2 (full_out h1), by simp⟩
  clear hB hx1
  go_wp2_with fail
  go_loopg [8, 9] 60 (fun g vo i wr => ∃ (k : Nat) (l : List T3) (out : List Nat), 60 - k ≤ g ∧ k ≤ ds.length ∧ k ≤ 60 ∧ i = .int .i64 k ∧ PS w wr p v l vo out ∧ out.length ≤ k ∧ l.length = 1 + m)
  case atStart => exact ⟨0, _, [], by omega, by omega, by omega, rfl, hP0, by simp, hl0⟩
  case round =>
    clear hP0 hl0
    obtain ⟨k, l, out, hg, hk1, hk2, rfl, hP, hol, hll⟩ := hrel
    obtain ⟨wz, hwz⟩ : ∃ wz, wr = wz := ⟨_, rfl⟩
    rw [hwz] at hP ⊢
    clear hwz
    have hg' := Lib.hid hg
    clear hg
    obtain ⟨ao, co, rfl, hco⟩ := hP.val
    by_cases hlt : k < ds.length ∧ k < 60
    · obtain ⟨hlt1, hlt2⟩ := hlt
      have hd1 : decide ((k : Int) < ds.length) = true := decide_eq_true (by omega)
      have hd2 : decide ((k : Int) < 60) = true := decide_eq_true (by omega)
      obtain ⟨b, off, rfl, hbl, _, x0, x1, x2⟩ := hv.at hlt1
      have y0 := hP.b.x.cell x0 id
      have y1 := hP.b.x.cell x1 id
      have y2 := hP.b.x.cell x2 id
      have hnv : ¬ OwnOf v b := fun ho => by have := hP.b.vn b ho; omega
      clear x0 x1 x2
      go_wp2_with fail
      refine (bring_spec wz (nth ds k).a 2 (by decide) (by decide)).mono ?_
      rintro e w2 ⟨rfl, rfl⟩
      obtain ⟨q, hq⟩ : ∃ q : Bool, ((nth ds k).a % 2 == 0) = q := ⟨_, rfl⟩
      by_cases hal : q = true ∨ out.length = 0
      · obtain ⟨o, ho, ho2⟩ := modn (nth ds k).b 6 (by decide)
        obtain ⟨c, hc, hc2⟩ := modn (nth ds k).c 9 (by decide)
        obtain ⟨base, hb1, hb2, hown⟩ := hP.o
        have hdis := hP.d
        have hPB := hP.b
        have hnd := hP.nd
        have hmem := hP.mem
        obtain ⟨X, hX⟩ : ∃ X, allocX l o = X := ⟨_, rfl⟩
        obtain ⟨E, hE⟩ : ∃ E, allocE l o = E := ⟨_, rfl⟩
        have hXE : Hid (match leastL l o with | some b => X = (b.i : Int) ∧ E = 0 | none => X = 0 ∧ E = 7) := by
          show (match leastL l o with | some b => X = (b.i : Int) ∧ E = 0 | none => X = 0 ∧ E = 7)
          unfold allocX at hX; unfold allocE at hE
          cases hls : leastL l o with
          | none => rw [hls] at hX hE; exact ⟨hX.symm, hE.symm⟩
          | some b => rw [hls] at hX hE; exact ⟨hX.symm, hE.symm⟩
        have hX' := Lib.hid hX
        have hE' := Lib.hid hE
        clear hX hE hP
        have hxd : Ext No wz wz.drew := (Ext.refl No wz).drew
        have hBd := hPB.extNo hxd
        have hr : Hid (q = true ∨ (q = false ∧ ((out.length : Int) == 0) = true)) := by
          show _ ∨ _
          cases q with
          | true => exact .inl rfl
          | false => exact .inr ⟨rfl, by rw [beq_iff_eq]; rcases hal with h | h; cases h; omega⟩
        clear hal
        rcases hr.out with hqt | ⟨hqt, h0⟩
        all_goals
          subst hqt
          go_wp2_with fail
          refine anyZ_begin 19 (fun w' => w'.cell? ⟨b, off + k * 3 + 1, none⟩ = some (.int .i64 (nth ds k).b) ∧ w'.cell? ⟨b, off + k * 3 + 2, none⟩ = some (.int .i64 (nth ds k).c)) (by kernel_rfl) ?_
          have hC : (fun w' : World => w'.cell? ⟨b, off + k * 3 + 1, none⟩ = some (.int .i64 (nth ds k).b) ∧ w'.cell? ⟨b, off + k * 3 + 2, none⟩ = some (.int .i64 (nth ds k).c)) wz.drew := ⟨y1, y2⟩
          refine anyZ_take 0 (v := ?_) rfl (by kernel_rfl) (by kernel_rfl) (by kernel_rfl) (by kernel_rfl) (fun _ _ _ h => h) hC (Or.inl ⟨by rfl, ?_⟩) ?_
          rotate_left
          · (intro wq hq; (try dsimp only at hq); go_simp; with_reducible rfl)
          simp only [Act.put, List.setIfInBounds_toArray, List.set_cons_zero, List.set_cons_succ]
          refine anyZ_take 1 (v := ?_) rfl (by kernel_rfl) (by kernel_rfl) (by kernel_rfl) (by kernel_rfl) (fun _ _ _ h => h) hC (Or.inl ⟨by rfl, ?_⟩) ?_
          rotate_left
          · (intro wq hq; (try dsimp only at hq); go_simp; with_reducible rfl)
          simp only [Act.put, List.setIfInBounds_toArray, List.set_cons_zero, List.set_cons_succ]
          refine anyZ_take 2 (v := ?_) rfl (by kernel_rfl) (by kernel_rfl) (by kernel_rfl) (by kernel_rfl) (fun _ _ _ h => h) hC (Or.inl ⟨by rfl, ?_⟩) ?_
          rotate_left
          · (intro wq hq; (try dsimp only at hq); go_simp; with_reducible rfl)
          simp only [Act.put, List.setIfInBounds_toArray, List.set_cons_zero, List.set_cons_succ]
          refine anyZ_take 3 (v := ?_) rfl (by kernel_rfl) (by kernel_rfl) (by kernel_rfl) (by kernel_rfl) (fun _ _ _ h => h) hC (Or.inl ⟨by rfl, ?_⟩) ?_
          rotate_left
          · (intro wq hq; (try dsimp only at hq); go_simp; with_reducible rfl)
          simp only [Act.put, List.setIfInBounds_toArray, List.set_cons_zero, List.set_cons_succ]
          refine anyZ_take 4 (v := ?_) rfl (by kernel_rfl) (by kernel_rfl) (by kernel_rfl) (by kernel_rfl) (fun _ _ _ h => h) hC (Or.inl ⟨by rfl, ?_⟩) ?_
          rotate_left
          · (intro wq hq; (try dsimp only at hq); go_simp; with_reducible rfl)
          simp only [Act.put, List.setIfInBounds_toArray, List.set_cons_zero, List.set_cons_succ]
          refine anyZ_take 5 (v := ?_) rfl (by kernel_rfl) (by kernel_rfl) (by kernel_rfl) (by kernel_rfl) (fun _ _ _ h => h) hC (Or.inl ⟨by rfl, ?_⟩) ?_
          rotate_left
          · (intro wq hq; (try dsimp only at hq); go_simp; with_reducible rfl)
          simp only [Act.put, List.setIfInBounds_toArray, List.set_cons_zero, List.set_cons_succ]
          refine anyZ_take 7 (v := ?_) rfl (by kernel_rfl) (by kernel_rfl) (by kernel_rfl) (by kernel_rfl) (fun _ _ _ h => h) hC (Or.inl ⟨by rfl, ?_⟩) ?_
          rotate_left
          · (intro wq hq; (try dsimp only at hq); go_simp; with_reducible rfl)
          simp only [Act.put, List.setIfInBounds_toArray, List.set_cons_zero, List.set_cons_succ]
          refine anyZ_take 8 (v := ?_) rfl (by kernel_rfl) (by kernel_rfl) (by kernel_rfl) (by kernel_rfl) (fun _ _ _ h => h) hC (Or.inl ⟨by rfl, ?_⟩) ?_
          rotate_left
          · (intro wq hq; (try dsimp only at hq); go_simp; with_reducible rfl)
          simp only [Act.put, List.setIfInBounds_toArray, List.set_cons_zero, List.set_cons_succ]
          refine anyZ_take 9 (v := ?_) rfl (by kernel_rfl) (by kernel_rfl) (by kernel_rfl) (by kernel_rfl) (fun _ _ _ h => h) hC (Or.inl ⟨by rfl, ?_⟩) ?_
          rotate_left
          · (intro wq hq; (try dsimp only at hq); go_simp; with_reducible rfl)
          simp only [Act.put, List.setIfInBounds_toArray, List.set_cons_zero, List.set_cons_succ]
          refine anyZ_take 10 (v := ?_) rfl (by kernel_rfl) (by kernel_rfl) (by kernel_rfl) (by kernel_rfl) (fun _ _ _ h => h) hC (Or.inl ⟨by rfl, ?_⟩) ?_
          rotate_left
          · (intro wq hq; (try dsimp only at hq); go_simp; with_reducible rfl)
          simp only [Act.put, List.setIfInBounds_toArray, List.set_cons_zero, List.set_cons_succ]
          refine anyZ_take 11 (v := ?_) rfl (by kernel_rfl) (by kernel_rfl) (by kernel_rfl) (by kernel_rfl) (fun _ _ _ h => h) hC (Or.inl ⟨by rfl, ?_⟩) ?_
          rotate_left
          · (intro wq hq; (try dsimp only at hq); go_simp; with_reducible rfl)
          simp only [Act.put, List.setIfInBounds_toArray, List.set_cons_zero, List.set_cons_succ]
          refine anyZ_step 6 rfl (by kernel_rfl) (fun K hK => ?_)
          go_simp
          refine (bring_spec _ (nth ds k).b 6 (by decide) (by decide)).mono ?_
          rintro e w2 ⟨rfl, rfl⟩
          rw [ho]
          refine hK _ _ hC ?_
          clear hK K
          try simp only [Act.put, List.setIfInBounds_toArray, List.set_cons_zero, List.set_cons_succ]
          refine anyZ_step 12 rfl (by kernel_rfl) (fun K hK => ?_)
          go_simp
          refine (bring_spec _ (nth ds k).c 9 (by decide) (by decide)).mono ?_
          rintro e w2 ⟨rfl, rfl⟩
          rw [hc]
          refine hK _ _ hC ?_
          clear hK K
          try simp only [Act.put, List.setIfInBounds_toArray, List.set_cons_zero, List.set_cons_succ]
          refine anyZ_step 13 rfl (by kernel_rfl) (fun K hK => ?_)
          go_simp
          refine (bt_alloc hBd o c (by omega) (by omega) hX'.out hE'.out rfl).mono ?_
          rintro e w3 ⟨rfl, hB3, hx3⟩
          have hC3 : (fun w' : World => w'.cell? ⟨b, off + k * 3 + 1, none⟩ = some (.int .i64 (nth ds k).b) ∧ w'.cell? ⟨b, off + k * 3 + 2, none⟩ = some (.int .i64 (nth ds k).c)) w3 := ⟨hx3.cell (w := wz.drew) y1 hnv, hx3.cell (w := wz.drew) y2 hnv⟩
          refine hK _ _ hC3 ?_
          clear hK K
          try simp only [Act.put, List.setIfInBounds_toArray, List.set_cons_zero, List.set_cons_succ]
          refine anyZ_take 14 (v := ?_) rfl (by kernel_rfl) (by kernel_rfl) (by kernel_rfl) (by kernel_rfl) (fun _ _ _ h => h) hC3 (Or.inl ⟨by rfl, ?_⟩) ?_
          rotate_left
          · (intro wq hq; (try dsimp only at hq); go_simp; with_reducible rfl)
          simp only [Act.put, List.setIfInBounds_toArray, List.set_cons_zero, List.set_cons_succ]
          refine anyZ_take 15 (v := ?_) rfl (by kernel_rfl) (by kernel_rfl) (by kernel_rfl) (by kernel_rfl) (fun _ _ _ h => h) hC3 (Or.inl ⟨by rfl, ?_⟩) ?_
          rotate_left
          · (intro wq hq; (try dsimp only at hq); go_simp; with_reducible rfl)
          simp only [Act.put, List.setIfInBounds_toArray, List.set_cons_zero, List.set_cons_succ]
          refine anyZ_take 16 (v := ?_) rfl (by kernel_rfl) (by kernel_rfl) (by kernel_rfl) (by kernel_rfl) (fun _ _ _ h => h) hC3 (Or.inl ⟨by rfl, ?_⟩) ?_
          rotate_left
          · (intro wq hq; (try dsimp only at hq); go_simp; with_reducible rfl)
          simp only [Act.put, List.setIfInBounds_toArray, List.set_cons_zero, List.set_cons_succ]
          refine anyZ_take 17 (v := ?_) rfl (by kernel_rfl) (by kernel_rfl) (by kernel_rfl) (by kernel_rfl) (fun _ _ _ h => h) hC3 (Or.inl ⟨by rfl, ?_⟩) ?_
          rotate_left
          · (intro wq hq; (try dsimp only at hq); go_simp; with_reducible rfl)
          simp only [Act.put, List.setIfInBounds_toArray, List.set_cons_zero, List.set_cons_succ]
          refine anyZ_take 18 (v := ?_) rfl (by kernel_rfl) (by kernel_rfl) (by kernel_rfl) (by kernel_rfl) (fun _ _ _ h => h) hC3 (Or.inl ⟨by rfl, ?_⟩) ?_
          rotate_left
          · (intro wq hq; (try dsimp only at hq); go_simp; with_reducible rfl)
          simp only [Act.put, List.setIfInBounds_toArray, List.set_cons_zero, List.set_cons_succ]
          refine anyZ_done (by kernel_rfl) ?_ _
          have hx3' : Ext (OwnOf v) wz w3 := (hxd.of_no).transSame hx3
          have hown3 := ownsRow_ext hown hx3' (fun x hx => (hdis x hx).2)
          have hb3 : base ≤ w3.heap.size := Nat.le_trans hb2 hx3'.size
          have hXE' := hXE.out
          cases hls : leastL l o with
          | none =>
            rw [hls] at hXE'
            obtain ⟨rfl, rfl⟩ := hXE'
            have hA := BI.none c hls
            have hP3 : PS w w3 p v l (.slice ao out.length co) out := ⟨by rw [hA] at hB3; exact hB3, ⟨base, hb1, hb3, hown3⟩, hdis, hnd, hmem, by omega⟩
            clear hls hA hB3 hx3 hx3' hown3 hown hC hC3 hBd hPB hXE hX' hE' y0 y1 y2
            go_wp2_with fail
            go_roundg (60 - (k + 1))
            case measure => have := hg'.out; omega
            case rel => exact ⟨k + 1, l, out, by omega, by omega, by omega, by go_num, hP3, by omega, hll⟩
          | some bk =>
            rw [hls] at hXE'
            obtain ⟨rfl, rfl⟩ := hXE'
            obtain ⟨q1, q2, q3⟩ := out_alloc hPB.i (by omega : c ≤ 8) hls hmem hnd
            clear hls hx3 hx3' hown hC hC3 hBd hXE hX' hE' y0 y1 y2
            go_wp2_with (at_builtin; refine stop_here ?_)
            refine Stop.mk ?_
            have hxa : Ext No w3 (w3.alloc (.cells #[.int .i64 bk.i] 3)) := (Ext.refl _ _).alloc _
            refine wpList_app (v := .slice ao out.length co) (m := 1) ty_int rfl _ _ rfl rfl (ownsRow_ext hown3 hxa (fun _ _ => id)) rfl (Rd.of_blk (n := 1) (Blk.new' rfl) rfl (by decide)) (by simp [Value.oneCell']) (by omega) (by unfold maxLen; omega) (by simp only [World.size_alloc]; omega) ?_
            intro v' w4 hown4 hx4 _ hfr4
            have hown4' : w4.ownsRow base 3 1 v' (out ++ [bk.i]).length ((toI (out ++ [bk.i])).map int) := by
              rw [toI_snoc, List.length_append]; exact hown4
            have hlt3 := hB3.lt
            have hB4 := (hB3.extNo hxa).ext hx4 (fun h => (hdis p h).1 rfl) (fun x hx h => (hdis x h).2 hx) (fun x h => by have := (hown3.lt x h).1; omega)
            have hP4 : PS w w4 p v (allocL l o c) v' (out ++ [bk.i]) := ⟨hB4, ⟨base, hb1, by have := hx4.size; simp only [World.size_alloc] at this; omega, hown4'⟩, fun x hx => by
              rcases hfr4 x hx with h | h
              · exact hdis x h
              · simp only [World.size_alloc] at h
                exact ⟨fun e => by have := hlt3.1; omega, fun ho => by have := hlt3.2 x ho; omega⟩, q1, q2, by simp; omega⟩
            clear hown4 hown4' hx4 hfr4 hB4 hB3 hown3 hxa
            go_wp2_with fail
            go_roundg (60 - (k + 1))
            case measure => have := hg'.out; omega
            case rel => exact ⟨k + 1, _, _, by omega, by omega, by omega, by go_num, hP4, by simp; omega, by rw [q3]; exact hll⟩
      · have hqf : q = false := by cases q; rfl; exact absurd (.inl rfl) hal
        have hne : out.length ≠ 0 := fun h => hal (.inr h)
        subst hqf
        clear hal
        have h0 : ((out.length : Int) == 0) = false := by rw [beq_eq_false_iff_ne]; omega
        obtain ⟨j, hj, hj2⟩ := modn (nth ds k).b out.length (by omega)
        have hjl : j < out.length := by omega
        obtain ⟨base, hb1, hb2, hown⟩ := hP.o
        have hdis := hP.d
        have hPB := hP.b
        have hmemj := (hP.mem _).1 (nth_mem hjl)
        obtain ⟨q1, q2, q3, q4⟩ := out_free hPB.i hjl hP.mem hP.nd
        obtain ⟨bo, co', e, _, _, hob, hbol, cj, _, _⟩ := own_at hown hjl
        cases e
        rw [toI_nth hjl] at cj
        clear hP
        go_wp2_with fail
        refine (bring_spec wz (nth ds k).b out.length (by omega) (by omega)).mono ?_
        rintro e w2 ⟨rfl, rfl⟩
        rw [hj]
        go_wp2_with fail
        refine (bt_free hPB (nth out j) hmemj.1 hmemj.2 rfl).mono ?_
        rintro e w3 ⟨rfl, hB3, hx3⟩
        have hown3 := ownsRow_ext hown hx3 (fun x hx => (hdis x hx).2)
        have hb3 : base ≤ w3.heap.size := Nat.le_trans hb2 hx3.size
        clear cj hown hx3 y0 y1 y2
        obtain ⟨bo2, co2, e, _, _, _, hbol3, cj, fj, hst⟩ := own_at hown3 hjl
        cases e
        obtain ⟨bo3, co3, e, _, _, _, _, cl, _, _⟩ := own_at (k := out.length - 1) hown3 (by omega)
        cases e
        rw [toI_nth hjl] at cj
        rw [toI_nth (by omega)] at cl
        have hset := hst (.int .i64 ((nth out (out.length - 1) : Nat) : Int))
        rw [toI_set] at hset
        have hstx : Ext (One bo) w3 (w3.setCell ⟨bo, j, none⟩ (.int .i64 ((nth out (out.length - 1) : Nat) : Int))) := Ext.set1 _ _ _ _
        have hB4 := hB3.ext hstx (fun e : p = bo => (hdis bo hob).1 e.symm) (fun x hx (e : x = bo) => (hdis bo hob).2 (e ▸ hx)) (fun x (e : x = bo) => by have := (hown3.lt bo hob).1; omega)
        have htk := own_take hset (m := out.length - 1) (by omega) (by omega)
        rw [toI_take] at htk
        have hP4 : PS w (w3.setCell ⟨bo, j, none⟩ (.int .i64 ((nth out (out.length - 1) : Nat) : Int))) p v (freeT l (nth out j)) (.slice (some ⟨bo, 0, none⟩) (out.length - 1) co) (rmv out j) :=
          ⟨hB4, ⟨base, hb1, by simpa using hb3, by rw [rmv_len hjl]; exact htk⟩, fun x hx => hdis x hx, q1, q2, by rw [rmv_len hjl]; omega⟩
        have hl1 : IntKind.i64.wrap ((out.length : Int) - 1) = ((out.length - 1 : Nat) : Int) := by rw [IntKind.wrap_i64]; omega
        have hrl := rmv_len hjl
        clear hst hset hstx hB4 htk hB3 hown3
        go_wp2_with fail
        go_roundg (60 - (k + 1))
        case measure => have := hg'.out; omega
        case rel => exact ⟨k + 1, _, rmv out j, by omega, by omega, by omega, by go_num, hP4, by omega, by rw [q3]; exact hll⟩
    · have hex : ¬ k < ds.length ∨ (k < ds.length ∧ ¬ k < 60) := by omega
      rcases hex with h1 | ⟨h1, h2⟩
      · have hd1 : decide ((k : Int) < ds.length) = false := decide_eq_false (by omega)
        go_wp2_with fail
        go_ret2
        exact ⟨p, v, l, _, out, rfl, hP, by omega⟩
      · have hd1 : decide ((k : Int) < ds.length) = true := decide_eq_true (by omega)
        have hd2 : decide ((k : Int) < 60) = false := decide_eq_false (by omega)
        go_wp2_with fail
        go_ret2
        exact ⟨p, v, l, _, out, rfl, hP, by omega⟩
end Go.Proofs.Ytjkknjohmekeiaa
