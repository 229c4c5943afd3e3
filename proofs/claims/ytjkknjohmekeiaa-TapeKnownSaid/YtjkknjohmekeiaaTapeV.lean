/- Rows of like cells; what the statement TapeKnown makes. No condition. -/
import Derived.Test.YtjkknjohmekeiaaTapeU
import Derived.Test.YtjkknjohmekeiaaTapeF
namespace Go.Proofs.Ytjkknjohmekeiaa
open Go.RowKit

/-- n times v, as a word that no simp opens. -/
def rep {α : Type} (n : Nat) (v : α) : List α := List.replicate n v
theorem rep_len {α : Type} (n : Nat) (v : α) : (rep n v).length = n := by simp [rep]
theorem mkr {t e size bytes : Nat} {z0 : Value} (T : MkTy t e size bytes z0) (n m : Nat) (hb : bytes * n ≤ 281474976710656) (h63 : n ≤ 9223372036854775807) (hm : n * size = m) (w : World) :
    (Instr.makeSlice t (.int .i64 (n : Int)) (.int .i64 (n : Int))).run Try.prog w = .ok (.slice (some ⟨w.heap.size, 0, none⟩) n n) (w.alloc (.cells (rep m z0).toArray e)) := by
  subst hm
  exact mk_run T n hb h63 w
theorem mk_call : MkTy 42 44 4 32 (.int .i64 0) := .mk' (z := .agg #[.int .i64 0, .int .i64 0, .int .i64 0, .int .i64 0]) (by kernel_rfl) Try.underlying42 rfl (by decide)
theorem mk_int : MkTy 25 3 1 8 (.int .i64 0) := .mk' (z := .int .i64 0) (by kernel_rfl) Try.underlying25 rfl (by decide)
theorem mk_byte : MkTy 22 5 1 1 (.int .u8 0) := .mk' (z := .int .u8 0) (by kernel_rfl) Try.underlying22 rfl (by decide)

def cl0 : Cl := ⟨0, 0, 0, 0⟩
theorem cls_rep (n m : Nat) (h : n * 4 = m) : rep m (Value.int .i64 0) = clsCells (rep n cl0) := by
  subst h
  induction n with
  | zero => rfl
  | succ n ih =>
    have e : rep (n + 1) cl0 = cl0 :: rep n cl0 := rfl
    rw [e]
    show _ = clCells cl0 ++ clsCells (rep n cl0)
    rw [← ih]
    have e2 : (n + 1) * 4 = n * 4 + 1 + 1 + 1 + 1 := by omega
    rw [e2]
    rfl
theorem int_rep (n : Nat) : rep n (Value.int .i64 0) = (rep n (0 : Int)).map int := by simp [rep, int]
theorem byt_rep (n : Nat) : rep n (Value.int .u8 0) = (rep n (0 : Nat)).map byt := by simp [rep, byt]

/-- Any block. -/
def Tr : Nat → Prop := fun _ => True
theorem rdC_blk {w : World} {b m : Nat} {l : List Cl} {cs : List Value} (h : Blk w b cs 44) (hc : cs = clsCells l) (hl : l.length = m) (hm : m ≤ maxLen) : RdC Tr w (.slice (some ⟨b, 0, none⟩) m m) l := by
  subst hc hl
  exact (Rd.of_blk h (clsCells_len l) hm).mono (fun _ _ _ => trivial)
theorem rdI_blk {w : World} {b m : Nat} {l : List Int} {cs : List Value} (h : Blk w b cs 3) (hc : cs = l.map int) (hl : l.length = m) (hm : m ≤ maxLen) : RdI Tr w (.slice (some ⟨b, 0, none⟩) m m) l := by
  subst hc hl
  exact (Rd.of_blk h (by simp) hm).mono (fun _ _ _ => trivial)
theorem rdCC_blk {w : World} {b m : Nat} {ll : List (List Cl)} {vs : List Value} (h : Blk w b vs 42) (hl : vs.length = m) (hll : ll.length = m) (hm : m ≤ maxLen) (hv : ∀ i, i < m → RdC Tr w (nth vs i) (nth ll i)) : RdCC Tr Tr w (.slice (some ⟨b, 0, none⟩) m m) ll := by
  subst hll
  exact ⟨vs, hl, (Rd.of_blk h (by omega) hm).mono (fun _ _ _ => trivial), hv⟩
theorem rdC_nil (w : World) : RdC Tr w (.slice none 0 0) [] := Rd.nil _ _ _
theorem rdCC_nil (w : World) : RdCC Tr Tr w (.slice none 0 0) [] := ⟨[], rfl, Rd.nil _ _ _, fun i hi => by simp at hi⟩
theorem rdI_nil (w : World) : RdI Tr w (.slice none 0 0) [] := Rd.nil _ _ _
theorem rdCC_nils {w : World} {b m : Nat} (h : Blk w b (rep m (.slice none 0 0)) 42) (hm : m ≤ maxLen) : RdCC Tr Tr w (.slice (some ⟨b, 0, none⟩) m m) (rep m []) :=
  rdCC_blk h (rep_len _ _) (rep_len _ _) hm (fun i hi => by
    rw [nth_eq (by rw [rep_len]; exact hi), nth_eq (by rw [rep_len]; exact hi)]
    simp only [rep, List.getElem_replicate]
    exact rdC_nil w)
theorem rdCC_one {w : World} {b : Nat} {v : Value} {l : List Cl} (h : Blk w b [v] 42) (hv : RdC Tr w v l) : RdCC Tr Tr w (.slice (some ⟨b, 0, none⟩) 1 1) [l] :=
  rdCC_blk h rfl rfl (by decide) (fun i hi => by
    have e : i = 0 := by omega
    subst e
    exact hv)
theorem RdS.x {w w' : World} {v : Value} {s : Scr} (h : RdS Tr w v s) (hx : Ext No w w') : RdS Tr w' v s := h.ext hx (fun _ _ => id)
theorem RdCC.x {w w' : World} {v : Value} {s : List (List Cl)} (h : RdCC Tr Tr w v s) (hx : Ext No w w') : RdCC Tr Tr w' v s := h.ext hx (fun _ _ => id) (fun _ _ => id)
theorem RdC.x {w w' : World} {v : Value} {s : List Cl} (h : RdC Tr w v s) (hx : Ext No w w') : RdC Tr w' v s := h.ext hx (fun _ _ => id)
theorem RdI.x {w w' : World} {v : Value} {s : List Int} (h : RdI Tr w v s) (hx : Ext No w w') : RdI Tr w' v s := RdI.ext h hx (fun _ _ => id)
theorem RdS.iv {w : World} {v : Value} {s : Scr} (h : RdS Tr w v s) : RdS (Iv 0 w.heap.size) w v s := h.mono (fun _ _ h => ⟨Nat.zero_le _, h⟩)
theorem whole_tr (w : World) (v : Value) (s : Scr) (hv : RdS Tr w v s) : Calls Try.prog 6 #[v] w fun e w' => e = .returned (.bool true) ∧ Ext No w w' := tapeWhole_core w v s _ hv.iv (fun _ h => h.2)
theorem bytes_tr (w : World) (v : Value) (s : Scr) (hv : RdS Tr w v s) (hf : ScrFit s) : Calls Try.prog 4 #[v] w fun e w' => e = .returned (.bool true) ∧ Ext No w w' := tapeBytes_core w v s _ hv.iv (fun _ h => h.2) hf
theorem apart_tr (w : World) (va vb : Value) (s t : Scr) (hva : RdS Tr w va s) (hvb : RdS Tr w vb t) : Calls Try.prog 7 #[va, vb, .int .u8 3] w fun e w' => e = .returned (.bool true) ∧ Ext No w w' :=
  tapeApart_core w va vb s t 3 (by decide) _ hva.iv hvb.iv (fun _ h => h.2)

/-- The script at the borders. -/
def last63 : List Cl := (rep 64 cl0).set 63 ⟨13, 255, 65535, 255⟩
theorem last63_cells : ((((rep 256 (Value.int .i64 0)).set 252 (.int .i64 13)).set 253 (.int .i64 255)).set 254 (.int .i64 65535)).set 255 (.int .i64 255) = clsCells last63 := by kernel_rfl
def fullOf (x : Nat) (bs : List Nat) : Scr := ⟨8, 1024, bs.map (fun y => if y = x then last63 else rep 64 cl0), (rep 4096 0).set 4095 255⟩
theorem fullOf_fit (x : Nat) (bs : List Nat) (h : bs.length = 8) : ScrFit (fullOf x bs) := by
  refine ⟨?_, fun k hk => ?_, ?_⟩
  · simp [fullOf, h]
  · have hk' : k < bs.length := by simpa [fullOf] using hk
    have e : nth (fullOf x bs).calls k = if bs[k] = x then last63 else rep 64 cl0 := by
      rw [nth_eq hk]; simp [fullOf]
    rw [e]
    split <;> simp [last63, rep]
  · show ((rep 4096 (0 : Int)).set 4095 255).length * 8 ≤ _
    rw [List.length_set, rep_len]; decide

def ls (l : List Value) (i : Nat) : Value := l.getD i undef
def sl64 (x : Nat) : Value := .slice (some ⟨x, 0, none⟩) 64 64
def rows8 (bs : List Nat) : List Value := bs.map sl64 ++ rep (8 - bs.length) (.slice none 0 0)
theorem rows8_set (bs : List Nat) (h : bs.length < 8) (x : Nat) : (rows8 bs).set bs.length (sl64 x) = rows8 (bs ++ [x]) := by
  unfold rows8
  have e : 8 - bs.length = (8 - (bs ++ [x]).length) + 1 := by simp; omega
  rw [e, List.set_append_right _ _ (by simp)]
  simp [rep, List.replicate_succ]
theorem rows8_at (bs : List Nat) (h : bs.length < 8) : (rows8 bs)[bs.length]? = some (.slice none 0 0) := by
  unfold rows8 rep
  rw [List.getElem?_append_right (by simp)]
  simp only [List.length_map, Nat.sub_self]
  rw [List.getElem?_replicate, if_pos (by omega)]
theorem rows8_len {bs : List Nat} (h : bs.length = 8) : (rows8 bs).length = 8 := by
  unfold rows8
  rw [List.length_append, List.length_map, rep_len]
  omega
theorem rows8_nth {bs : List Nat} {i : Nat} (h : i < bs.length) : (rows8 bs)[i]? = some (sl64 (nth bs i)) := by
  unfold rows8
  rw [List.getElem?_append_left (by simp; omega), List.getElem?_map, nth_some h]
  rfl
theorem Blk.ne {w : World} {b c S T : Nat} {xs ys : List Value} (h : Blk w b xs S) (h2 : Blk w c ys T) (hn : S ≠ T) : b ≠ c := fun e => by
  subst e
  unfold Blk at h h2
  rw [h] at h2
  cases h2
  exact hn rfl

def full4 (w : World) (x c : Nat) : World := ((((w.setCell ⟨x, 252, none⟩ (.int .i64 13)).setCell ⟨x, 253, none⟩ (.int .i64 255)).setCell ⟨x, 254, none⟩ (.int .i64 65535)).setCell ⟨x, 255, none⟩ (.int .i64 255)).setCell ⟨c, 4095, none⟩ (.int .i64 255)
theorem full4_other {w : World} {x c b T : Nat} {cs : List Value} (h : Blk w b cs T) (hx : b ≠ x) (hc : b ≠ c) : Blk (full4 w x c) b cs T :=
  ((((h.setOther _ _ hx).setOther _ _ hx).setOther _ _ hx).setOther _ _ hx).setOther _ _ hc
theorem full4_ext (w : World) (x c : Nat) : Ext (fun y => y = x ∨ y = c) w (full4 w x c) :=
  (((((Ext.set1 _ _ _ _).trans (Ext.set1 _ _ _ _) (fun _ _ h => h)).trans (Ext.set1 _ _ _ _) (fun _ _ h => h)).trans (Ext.set1 _ _ _ _) (fun _ _ h => h)).mono (fun _ _ h => .inl h)).trans (Ext.set1 _ _ _ _) (fun _ _ h => .inr h)
theorem full_rd {w : World} {b c x : Nat} {bs : List Nat} (hB : Blk w b (rows8 bs) 42) (hC : Blk w c (rep 4096 (.int .i64 0)) 3) (hbs : ∀ y ∈ bs, Blk w y (rep 256 (.int .i64 0)) 44) (hl : bs.length = 8) (hx : x ∈ bs) :
    RdS Tr (full4 w x c) (.agg #[.int .i64 8, .int .i64 1024, .slice (some ⟨b, 0, none⟩) 8 8, .slice (some ⟨c, 0, none⟩) 4096 4096]) (fullOf x bs) := by
  have hX := hbs x hx
  have hcx : c ≠ x := hC.ne hX (by decide)
  have hB' := full4_other hB (hB.ne hX (by decide)) (hB.ne hC (by decide))
  have hC' : Blk (full4 w x c) c ((rep 4096 (.int .i64 0)).set 4095 (.int .i64 255)) 3 := ((((hC.setOther ⟨x, 252, none⟩ (.int .i64 13) hcx).setOther ⟨x, 253, none⟩ (.int .i64 255) hcx).setOther ⟨x, 254, none⟩ (.int .i64 65535) hcx).setOther ⟨x, 255, none⟩ (.int .i64 255) hcx).set 4095 _
  have hX' : Blk (full4 w x c) x (clsCells last63) 44 := by
    rw [← last63_cells]
    exact ((((hX.set 252 _).set 253 _).set 254 _).set 255 _).setOther _ _ (Ne.symm hcx)
  refine ⟨_, _, rfl, rdCC_blk hB' (rows8_len hl) (by simp [fullOf, hl]) (by decide) (fun i hi => ?_), rdI_blk hC' ?_ ?_ (by decide)⟩
  · have hi' : i < bs.length := by omega
    have e1 : nth (rows8 bs) i = sl64 (nth bs i) := by
      have := rows8_nth hi'
      rw [nth_some (by rw [rows8_len hl]; omega)] at this
      exact Option.some.inj this
    have e2 : nth (fullOf x bs).calls i = if nth bs i = x then last63 else rep 64 cl0 := by
      rw [nth_eq (by simp [fullOf]; omega), nth_eq hi']; simp [fullOf]
    rw [e1, e2]
    have hm : nth bs i ∈ bs := by rw [nth_eq hi']; exact List.getElem_mem _
    split
    · rename_i e
      rw [e]
      exact rdC_blk hX' rfl (by simp [last63, rep_len]) (by decide)
    · rename_i e
      exact rdC_blk (full4_other (hbs _ hm) e ((hbs _ hm).ne hC (by decide))) (cls_rep 64 256 rfl) (rep_len _ _) (by decide)
  · show _ = ((rep 4096 (0 : Int)).set 4095 255).map int
    rw [List.map_set, ← int_rep]; rfl
  · show ((rep 4096 (0 : Int)).set 4095 255).length = _
    rw [List.length_set, rep_len]

/-- The scripts that are none. -/
def bads : List Scr := [⟨0, 0, [], []⟩, ⟨1, 1, [], []⟩, ⟨9, 1, rep 9 [], []⟩, ⟨1, 0, rep 1 [], []⟩, ⟨1, 1025, rep 1 [], []⟩, ⟨1, 1, [rep 65 cl0], []⟩,
  ⟨1, 1, [[⟨14, 0, 0, 0⟩]], []⟩, ⟨1, 1, [[⟨-1, 0, 0, 0⟩]], []⟩, ⟨1, 1, [[⟨0, 256, 0, 0⟩]], []⟩, ⟨1, 1, [[⟨0, 0, 65536, 0⟩]], []⟩, ⟨1, 1, [[⟨0, 0, 0, -1⟩]], []⟩,
  ⟨1, 1, rep 1 [], [256]⟩, ⟨1, 1, rep 1 [], [-1]⟩, ⟨1, 1, rep 1 [], rep 4097 0⟩]
theorem forall14 {p : Nat → Prop} (h0 : p 0) (h1 : p 1) (h2 : p 2) (h3 : p 3) (h4 : p 4) (h5 : p 5) (h6 : p 6) (h7 : p 7) (h8 : p 8) (h9 : p 9) (h10 : p 10) (h11 : p 11) (h12 : p 12) (h13 : p 13) (i : Nat) (hi : i < 14) : p i := by
  obtain rfl | rfl | rfl | rfl | rfl | rfl | rfl | rfl | rfl | rfl | rfl | rfl | rfl | rfl : i = 0 ∨ i = 1 ∨ i = 2 ∨ i = 3 ∨ i = 4 ∨ i = 5 ∨ i = 6 ∨ i = 7 ∨ i = 8 ∨ i = 9 ∨ i = 10 ∨ i = 11 ∨ i = 12 ∨ i = 13 := by omega
  all_goals assumption
theorem bad_err (i : Nat) (hi : i < 14) : errOf (okB (nth bads i)) = 2 :=
  forall14 (p := fun i => errOf (okB (nth bads i)) = 2) (by kernel_rfl) (by kernel_rfl) (by kernel_rfl) (by kernel_rfl) (by kernel_rfl) (by kernel_rfl) (by kernel_rfl) (by kernel_rfl) (by kernel_rfl) (by kernel_rfl) (by kernel_rfl) (by kernel_rfl) (by kernel_rfl)
    (by
      have e : nth bads 13 = ⟨1, 1, rep 1 [], rep 4097 0⟩ := rfl
      rw [e]
      have h : headOk ⟨1, 1, rep 1 [], rep 4097 0⟩ = false := by
        simp only [headOk, rep_len]
        decide
      exact okB_head h) i hi
theorem fit_small {s : Scr} (h1 : s.calls.length ≤ 100) (h2 : ∀ l ∈ s.calls, l.length ≤ 100) (h3 : s.picks.length ≤ 5000) : ScrFit s :=
  ⟨by omega, fun k hk => by have := h2 (nth s.calls k) (by rw [nth_eq hk]; exact List.getElem_mem _); omega, by omega⟩
theorem bad_fit (i : Nat) (hi : i < 14) : ScrFit (nth bads i) :=
  forall14 (p := fun i => ScrFit (nth bads i)) (fit_small (by decide) (by decide) (by decide)) (fit_small (by decide) (by decide) (by decide)) (fit_small (by decide) (by decide) (by decide)) (fit_small (by decide) (by decide) (by decide))
    (fit_small (by decide) (by decide) (by decide)) (fit_small (by decide) (by decide) (by decide)) (fit_small (by decide) (by decide) (by decide)) (fit_small (by decide) (by decide) (by decide)) (fit_small (by decide) (by decide) (by decide))
    (fit_small (by decide) (by decide) (by decide)) (fit_small (by decide) (by decide) (by decide)) (fit_small (by decide) (by decide) (by decide)) (fit_small (by decide) (by decide) (by decide))
    (by
      have e : nth bads 13 = ⟨1, 1, rep 1 [], rep 4097 0⟩ := rfl
      rw [e]
      exact fit_small (by decide) (by decide) (by rw [rep_len]; decide)) i hi

/-- The ten bytes of a round. -/
def tenOf (k : Nat) : List Nat := [k, k * 3 % 256, k, k, k, 1, 2, 3, 4, k]
theorem ten_cells (k : Nat) : [Value.int .u8 (k : Int), .int .u8 ((k : Int) * 3 % 256), .int .u8 (k : Int), .int .u8 (k : Int), .int .u8 (k : Int), .int .u8 1, .int .u8 2, .int .u8 3, .int .u8 4, .int .u8 (k : Int)] = (tenOf k).map byt := by
  simp [tenOf, byt]
theorem ten_lt {k : Nat} (h : k < 256) : ∀ x ∈ tenOf k, x < 256 := by
  intro x hx
  simp only [tenOf, List.mem_cons, List.not_mem_nil, or_false] at hx
  omega
theorem rdB_cut {w : World} {b : Nat} {l : List Nat} {cs : List Value} (h : Blk w b cs 5) (hc : cs = l.map byt) (hlt : ∀ x ∈ l, x < 256) (n m : Nat) (hl : l.length = n) (hm : m ≤ n) (hn : n ≤ maxLen) :
    RdB (Iv 0 w.heap.size) w (.slice (some ⟨b, 0, none⟩) m n) (l.take m) := by
  subst hc
  have e : (l.take m).length = m := by simp; omega
  refine ⟨⟨_, n, by rw [e], by simp, by omega, hn, fun _ => ⟨b, 0, rfl, ⟨Nat.zero_le _, h.lt⟩, h.lt, fun i u hu => ?_⟩⟩, fun x hx => hlt x (List.mem_of_mem_take hx)⟩
  rw [Nat.zero_add]
  refine h.cell' ?_
  rw [List.map_take, List.getElem?_take] at hu
  split at hu
  · exact hu
  · cases hu
theorem scripts_ten (w : World) (b k m : Nat) (h : Blk w b ((tenOf k).map byt) 5) (hk : k < 256) (hm : m ≤ 10) : Calls Try.prog 3 #[.slice (some ⟨b, 0, none⟩) m 10] w fun e w' => e = .returned (.bool true) ∧ Ext No w w' :=
  (tapeScripts_walk w _ _ (rdB_cut h rfl (ten_lt hk) 10 m rfl hm (by decide)) (by
    have e : ((tenOf k).take m).length ≤ 10 := by simp [tenOf]; omega
    exact Nat.le_trans e (by decide))).mono fun _ _ h => ⟨h.1, .of_below h.2⟩
theorem back_ten (w : World) (b k m : Nat) (h : Blk w b ((tenOf k).map byt) 5) (hk : k < 256) (hm : m ≤ 10) : Calls Try.prog 5 #[.slice (some ⟨b, 0, none⟩) m 10] w fun e w' => e = .returned (.bool true) ∧ Ext No w w' :=
  tapeBack_core w _ _ (rdB_cut h rfl (ten_lt hk) 10 m rfl hm (by decide))
theorem back_zeros (w : World) (b : Nat) (h : Blk w b (rep 9000 (.int .u8 0)) 5) : Calls Try.prog 5 #[.slice (some ⟨b, 0, none⟩) 9000 9000] w fun e w' => e = .returned (.bool true) ∧ Ext No w w' :=
  tapeBack_core w _ _ (rdB_cut h (byt_rep _) (fun x hx => by have := List.eq_of_mem_replicate hx; omega) 9000 9000 (rep_len _ _) (Nat.le_refl _) (by decide))
/-- The script of one processor. -/
theorem one_rd {w : World} {ab : Nat} (h : Blk w ab (rep 1 (.slice none 0 0)) 42) : RdS Tr w (.agg #[.int .i64 1, .int .i64 1, .slice (some ⟨ab, 0, none⟩) 1 1, .slice none 0 0]) ⟨1, 1, rep 1 [], []⟩ :=
  ⟨_, _, rfl, rdCC_nils h (by decide), rdI_nil _⟩
end Go.Proofs.Ytjkknjohmekeiaa
