/- The bytes of a script: the program's Bytes. No condition. -/
import Derived.Test.YtjkknjohmekeiaaTapeI
import Derived.Laws.EntriesVeiled
namespace Go.Proofs.Ytjkknjohmekeiaa
open Go.RowKit

def callBytes (c : Cl) : List Nat := [byteOf c.op, byteOf c.a, byteOf (c.b / 256), byteOf c.b, byteOf c.c]
def listBytes (l : List Cl) : List Nat := byteOf l.length :: l.flatMap callBytes
def headBytes (s : Scr) : List Nat := [byteOf (s.cpus - 1), byteOf ((s.pages - 1) / 256), byteOf (s.pages - 1)]
def bytesOf (s : Scr) : List Nat := headBytes s ++ s.calls.flatMap listBytes ++ s.picks.map byteOf

theorem okB_facts {s : Scr} (h : okB s = true) : (1 ≤ s.cpus ∧ s.cpus ≤ 8 ∧ 1 ≤ s.pages ∧ s.pages ≤ 1024 ∧ (s.calls.length : Int) = s.cpus ∧ s.picks.length ≤ 4096) ∧
    (∀ k, k < s.calls.length → (nth s.calls k).length ≤ 64 ∧ ∀ j, j < (nth s.calls k).length → callOk (nth (nth s.calls k) j) = true) ∧ ∀ n ∈ s.picks, 0 ≤ n ∧ n ≤ 255 := by
  simp only [okB, headOk, Bool.and_eq_true, decide_eq_true_eq, List.all_eq_true] at h
  obtain ⟨⟨h1, h2, h3, h4⟩, h5, h6⟩ := h
  refine ⟨⟨(wtn_iff.1 h1).1, (wtn_iff.1 h1).2, (wtn_iff.1 h2).1, (wtn_iff.1 h2).2, h3, h4⟩, fun k hk => ?_, fun n hn => wtn_iff.1 (h6 n hn)⟩
  have := h5 (nth s.calls k) (by rw [nth_eq hk]; exact List.getElem_mem _)
  simp only [listOk, Bool.and_eq_true, decide_eq_true_eq, List.all_eq_true] at this
  exact ⟨this.1, fun j hj => this.2 _ (by rw [nth_eq hj]; exact List.getElem_mem _)⟩
theorem callOk_facts {c : Cl} (h : callOk c = true) : (0 ≤ c.op ∧ c.op ≤ 13) ∧ (0 ≤ c.a ∧ c.a ≤ 255) ∧ (0 ≤ c.b ∧ c.b ≤ 65535) ∧ 0 ≤ c.c ∧ c.c ≤ 255 := by
  simp only [callOk, Bool.and_eq_true] at h
  exact ⟨wtn_iff.1 h.1, wtn_iff.1 h.2.1, wtn_iff.1 h.2.2.1, wtn_iff.1 h.2.2.2⟩

set_option maxRecDepth 100000 in
set_option maxHeartbeats 1600000 in
theorem bytes_bad (w : World) (v : Value) (s : Scr) (F : Nat → Prop) (hv : RdS F w v s) (hb : okB s = false) :
    Calls Try.prog 31 #[v] w fun e w' => e = .returned (.tuple #[.slice none 0 0, .int .i64 2]) ∧ Ext No w w' := by
  have hchk := fun w' (hx : Ext No w w') => check_spec w' v s F (hv.ext hx (fun _ _ => id))
  obtain ⟨ac, kc, ap, kp, rfl, hc, hp⟩ := hv.openR
  have hX : Ext No w (w.alloc (.cells #[.int .i64 s.cpus, .int .i64 s.pages, .slice ac s.calls.length kc, .slice ap s.picks.length kp] 27)) := (Ext.refl _ _).alloc _
  rw [hb] at hchk
  go_enter Try.func31, Try.ntmps31
  go_wp2_with fail
  refine (hchk _ hX).mono ?_
  rintro e w1 ⟨rfl, hx1⟩
  go_wp2_with fail
  go_ret2
  exact ⟨rfl, hX.transNo hx1⟩

theorem RdCC.at2 {F G : Nat → Prop} {w : World} {a : Option Addr} {n cap : Nat} {ll : List (List Cl)} (h : RdCC F G w (.slice a n cap) ll) {i : Nat} (hi : i < ll.length) :
    ∃ b off ai ci, a = some ⟨b, off, none⟩ ∧ F b ∧ w.cell? ⟨b, off + i, none⟩ = some (.slice ai (nth ll i).length ci) ∧ RdC G w (.slice ai (nth ll i).length ci) (nth ll i) ∧ (nth ll i).length ≤ ci ∧ ci ≤ 9223372036854775807 := by
  obtain ⟨vs, h1, h2, h3⟩ := h
  have hn : n = ll.length := by obtain ⟨_, _, e, _⟩ := h2; cases e; rfl
  subst hn
  obtain ⟨b, off, e, hf, _, hc⟩ := h2.at1 hi
  have hr := h3 i hi
  obtain ⟨ai, ci, e2, h5, h6⟩ := Rd.val hr
  refine ⟨b, off, ai, ci, e, hf, ?_, e2 ▸ hr, h5, h6⟩
  rw [hc, nth_some (by omega), e2]

section
variable {W w w' : World} {ob tb base : Nat} {out : List Nat} {vo : Value}
theorem Clo.keep (hc : Clo w ob tb base out vo) (hb : base = W.heap.size) (hx : Ext (One ob) W w) (h : Ext (fun x => x = ob ∨ OwnOf vo x) w w') : Ext (One ob) W w' :=
  hx.trans h (fun x hx' hs => by
    rcases hs with h | h
    · exact h
    · have := (hc.row.lt _ h).1; omega)
theorem Clo.keep2 {vo' : Value} (h4 : ∀ x, OwnOf vo' x → OwnOf vo x ∨ w.heap.size ≤ x) (h : Ext (fun x => x = ob ∨ OwnOf vo x) w w') (cb : Nat) (cs : List Value) (T : Nat) (hB : Blk w cb cs T) (h1 : cb ≠ ob) (h2 : ¬ OwnOf vo cb) :
    Blk w' cb cs T ∧ ¬ OwnOf vo' cb :=
  ⟨hB.ext h (fun hs => hs.elim h1 h2), fun ho => (h4 cb ho).elim h2 (fun hh => by have := hB.lt; omega)⟩
theorem one_new' (hc : Clo w ob tb base out vo) (hb : base = W.heap.size) (hx : Ext (One ob) W w) (xs : List Int) (hlen : out.length + xs.length ≤ 140737488355328) (n : Nat) (hn : n = xs.length) :
    Calls Try.prog 86 #[.slice (some ⟨w.heap.size, 0, none⟩) n n, .pointer (some ⟨ob, 0, none⟩)] (w.alloc (.cells (xs.map int).toArray 3)) fun e w' => e = .returned (.tuple #[]) ∧ ∃ vo', Clo w' ob tb base (out ++ xs.map byteOf) vo' ∧ Ext (One ob) W w' ∧ ∀ cb cs T, Blk w cb cs T → cb ≠ ob → ¬ OwnOf vo cb → Blk w' cb cs T ∧ ¬ OwnOf vo' cb :=
  (one_new w vo xs ob tb base out hc hlen _ rfl n hn).mono fun e w' ⟨h1, ⟨vo', h2, h4⟩, h3⟩ => ⟨h1, vo', h2, hc.keep hb hx h3, Clo.keep2 h4 h3⟩
theorem one_old' (hc : Clo w ob tb base out vo) (hb : base = W.heap.size) (hx : Ext (One ob) W w) (v : Value) (xs : List Int) (F : Nat → Prop) (hv : RdI F w v xs) (hF : ∀ x, F x → x < base ∧ x ≠ ob) (hlen : out.length + xs.length ≤ 140737488355328) :
    Calls Try.prog 86 #[v, .pointer (some ⟨ob, 0, none⟩)] w fun e w' => e = .returned (.tuple #[]) ∧ ∃ vo', Clo w' ob tb base (out ++ xs.map byteOf) vo' ∧ Ext (One ob) W w' ∧ ∀ cb cs T, Blk w cb cs T → cb ≠ ob → ¬ OwnOf vo cb → Blk w' cb cs T ∧ ¬ OwnOf vo' cb :=
  (one_clo w v vo xs F ob tb base out hc hv (fun x hf => ⟨by have := hF x hf; have := hc.nums; omega, (hF x hf).2, fun h => by have := (hc.row.lt _ h).1; have := hF x hf; omega⟩) hlen).mono fun e w' ⟨h1, ⟨vo', h2, h4⟩, h3⟩ => ⟨h1, vo', h2, hc.keep hb hx h3, Clo.keep2 h4 h3⟩
theorem two' (hc : Clo w ob tb base out vo) (hb : base = W.heap.size) (hx : Ext (One ob) W w) (n : Int) (hn0 : 0 ≤ n) (hn1 : n < 4611686018427387904) (hlen : out.length + 2 ≤ 140737488355328) :
    Calls Try.prog 87 #[.int .i64 n, .pointer (some ⟨tb, 0, none⟩)] w fun e w' => e = .returned (.tuple #[]) ∧ ∃ vo', Clo w' ob tb base (out ++ [byteOf (n / 256), byteOf n]) vo' ∧ Ext (One ob) W w' ∧ ∀ cb cs T, Blk w cb cs T → cb ≠ ob → ¬ OwnOf vo cb → Blk w' cb cs T ∧ ¬ OwnOf vo' cb :=
  (two_clo w n vo ob tb base out hc hn0 hn1 hlen).mono fun e w' ⟨h1, ⟨vo', h2, h4⟩, h3⟩ => ⟨h1, vo', h2, hc.keep hb hx h3, Clo.keep2 h4 h3⟩
end

set_option maxRecDepth 100000 in
set_option maxHeartbeats 1600000 in
theorem bytes_good (w : World) (v : Value) (s : Scr) (F : Nat → Prop) (hv : RdS F w v s) (hF : ∀ x, F x → x < w.heap.size) (hb : okB s = true) :
    Calls Try.prog 31 #[v] w fun e w' => (∃ vo, e = .returned (.tuple #[vo, .int .i64 0]) ∧ w'.ownsRow w.heap.size 5 1 vo (bytesOf s).length ((bytesOf s).map byt)) ∧ Ext No w w' := by
  have hchk := fun w' (hx : Ext No w w') => check_spec w' v s F (hv.ext hx (fun _ _ => id))
  obtain ⟨ac, kc, ap, kp, rfl, hc, hp⟩ := hv.openR
  have hX : Ext No w (w.alloc (.cells #[.int .i64 s.cpus, .int .i64 s.pages, .slice ac s.calls.length kc, .slice ap s.picks.length kp] 27)) := (Ext.refl _ _).alloc _
  have hA0 : Blk (w.alloc (.cells #[.int .i64 s.cpus, .int .i64 s.pages, .slice ac s.calls.length kc, .slice ap s.picks.length kp] 27)) w.heap.size [.int .i64 s.cpus, .int .i64 s.pages, .slice ac s.calls.length kc, .slice ap s.picks.length kp] 27 := Blk.new _ _ _
  have hmf : ∀ (fn : Fn) (first cap : Array Value) (w : World), (Instr.makeFunc fn first cap).run Try.prog w = .ok (.func fn first cap) w := fun _ _ _ _ => rfl
  rw [hb] at hchk
  obtain ⟨⟨c1, c2, c3, c4, c5, c6⟩, hl, hpk⟩ := okB_facts hb
  have hlH := Lib.hid hl
  have hpkH := Lib.hid hpk
  have c5H := Lib.hid c5
  clear hl hpk c5
  go_enter Try.func31, Try.ntmps31
  go_wp2_with fail
  refine (hchk _ hX).mono ?_
  rintro e w1 ⟨rfl, hx1⟩
  have hA := hA0.extNo hx1
  have a0 := hA.cell' (i := 0) rfl
  have a1 := hA.cell' (i := 1) rfl
  have a2 := hA.cell' (i := 2) rfl
  have a3 := hA.cell' (i := 3) rfl
  have hlt := hA.lt
  go_wp2_with fail
  have hC0 : Clo ((w1.alloc (.cells #[.slice none 0 0] 22)).alloc (.cells #[.func (Fn.func 86) #[] #[.pointer (some ⟨w1.heap.size, 0, none⟩)]] 140)) w1.heap.size (w1.heap.size + 1) (w1.heap.size + 1 + 1) [] (.slice none 0 0) :=
    ⟨(Blk.new _ _ _).extNo ((Ext.refl _ _).alloc _), ⟨rfl, .inl ⟨rfl, rfl⟩⟩, by have := Blk.new (w1.alloc (.cells #[.slice none 0 0] 22)) [Value.func (Fn.func 86) #[] #[.pointer (some ⟨w1.heap.size, 0, none⟩)]] 140; simpa using this, by simp only [World.size_alloc]; omega⟩
  have hX5 : Ext No w ((w1.alloc (.cells #[.slice none 0 0] 22)).alloc (.cells #[.func (Fn.func 86) #[] #[.pointer (some ⟨w1.heap.size, 0, none⟩)]] 140)) := ((hX.transNo hx1).alloc _).alloc _
  have hA5 := hA.extNo (((Ext.refl No w1).alloc (.cells #[.slice none 0 0] 22)).alloc (.cells #[.func (Fn.func 86) #[] #[.pointer (some ⟨w1.heap.size, 0, none⟩)]] 140))
  obtain ⟨W, hW⟩ : ∃ W, (w1.alloc (.cells #[.slice none 0 0] 22)).alloc (.cells #[.func (Fn.func 86) #[] #[.pointer (some ⟨w1.heap.size, 0, none⟩)]] 140) = W := ⟨_, rfl⟩
  have hsz : w1.heap.size + 1 + 1 = W.heap.size := by rw [← hW]; simp
  rw [hW] at hC0 hX5 hA5 ⊢
  clear hW
  rw [hsz] at hC0 ⊢
  clear a0 a1 a2 a3 hA hX hA0 hchk
  obtain ⟨ob, hob⟩ : ∃ ob, w1.heap.size = ob := ⟨_, rfl⟩
  rw [hob] at hC0 hlt hsz ⊢
  have hc := hc.ext hX5 (fun _ _ => id) (fun _ _ => id)
  have hp := hp.extNo hX5
  have hFH := Lib.hid hF
  have hF1 : ∀ x, F x → ¬ x = ob := fun x hf e => by have := hF x hf; omega
  clear hF hv hx1 hob
  refine (one_new' hC0 rfl (Ext.refl _ _) [s.cpus - 1] (by simp) 1 rfl).mono ?_
  rintro e w2 ⟨rfl, vo2, hC2, hx2, _⟩
  have hA2 := hA5.extOne hx2 (by omega)
  have a0 := hA2.cell' (i := 0) rfl
  have a1 := hA2.cell' (i := 1) rfl
  have a2 := hA2.cell' (i := 2) rfl
  have a3 := hA2.cell' (i := 3) rfl
  have t0 := hC2.t.cell' (i := 0) rfl
  go_wp2_with fail
  refine (two' hC2 rfl hx2 (s.pages - 1) (by omega) (by omega) (by simp)).mono ?_
  rintro e w3 ⟨rfl, vo3, hC3, hx3, _⟩
  clear a0 a1 a2 a3 t0 hA2
  have hA3 := hA5.extOne hx3 (by omega)
  have a2 := hA3.cell' (i := 2) rfl
  go_wp2_with fail
  clear a2
  have hh : [] ++ List.map byteOf [s.cpus - 1] ++ [byteOf ((s.pages - 1) / 256), byteOf (s.pages - 1)] = headBytes s := rfl
  rw [hh] at hC3
  clear hh hC2 hx2 hA3 hC0
  go_loopg [33] s.calls.length (fun g i wr => ∃ (k : Nat) (out : List Nat) (vo : Value), k + g = s.calls.length ∧ i = .int .i64 k ∧ out = headBytes s ++ (s.calls.take k).flatMap listBytes ∧ out.length ≤ 3 + k * 321 ∧ Clo wr ob (ob + 1) W.heap.size out vo ∧ Ext (One ob) W wr)
  case atStart => exact ⟨0, headBytes s, vo3, by omega, rfl, by simp, by simp [headBytes], hC3, hx3⟩
  case round =>
    obtain ⟨k, out, vo, hk, rfl, hout, hlen, hclo, hx⟩ := hrel
    have hk' := Lib.hid hk; have hout' := Lib.hid hout
    have hkn : k ≤ s.calls.length := by omega
    clear hk hout
    have h8 : s.calls.length ≤ 8 := by have := c5H.out; omega
    by_cases hlt2 : k < s.calls.length
    · obtain ⟨b1, o1, ai, ci, rfl, f1, r0, q1, _, _⟩ := hc.at2 hlt2
      have r1 := hx.cell r0 (fun e : b1 = ob => hF1 b1 f1 e)
      clear r0
      have t0 := hclo.t.cell' (i := 0) rfl
      have hl64 := (hlH.out k hlt2).1
      go_wp2_with fail
      clear t0 r1
      have hout1 := Lib.hid hlen
      refine (one_new' hclo rfl hx [((nth s.calls k).length : Int)] (by simp; omega) 1 rfl).mono ?_
      rintro e w4 ⟨rfl, vo4, hC4, hx4, _⟩
      go_wp2_with fail
      go_loopg [44] (nth s.calls k).length (fun g j wr => ∃ (m : Nat) (out2 : List Nat) (vo : Value), m + g = (nth s.calls k).length ∧ j = .int .i64 m ∧ out2 = (out ++ [byteOf (nth s.calls k).length]) ++ ((nth s.calls k).take m).flatMap callBytes ∧ out2.length ≤ 4 + k * 321 + m * 5 ∧ Clo wr ob (ob + 1) W.heap.size out2 vo ∧ Ext (One ob) W wr)
      case atStart => exact ⟨0, _, vo4, by omega, rfl, by simp, by simp; omega, hC4, hx4⟩
      case round =>
        obtain ⟨m, out2, vo5, hm, rfl, hout2, hlen2, hclo2, hxr⟩ := hrel
        have hm' := Lib.hid hm; have hout2' := Lib.hid hout2
        have hmn : m ≤ (nth s.calls k).length := by omega
        clear hm hout2
        by_cases hlt3 : m < (nth s.calls k).length
        · have hok := callOk_facts ((hlH.out k hlt2).2 m hlt3)
          obtain ⟨bc, oc, rfl, _, fc, x0, x1, x2, x3⟩ := (q1.ext hxr hF1).at hlt3
          have t0 := hclo2.t.cell' (i := 0) rfl
          have tlt := hclo2.t.lt
          go_wp2_with fail
          clear t0 tlt x0 x1 x2 x3
          obtain ⟨c, hcdef⟩ : ∃ c, nth (nth s.calls k) m = c := ⟨_, rfl⟩
          have hcdef' := Lib.hid hcdef
          rw [hcdef] at hok ⊢
          clear hcdef
          have hB : Blk (wr.alloc (.cells #[.int .i64 c.op, .int .i64 c.a, .int .i64 c.b, .int .i64 c.c] 44)) wr.heap.size [.int .i64 c.op, .int .i64 c.a, .int .i64 c.b, .int .i64 c.c] 44 := Blk.new _ _ _
          have hxa : Ext No wr (wr.alloc (.cells #[.int .i64 c.op, .int .i64 c.a, .int .i64 c.b, .int .i64 c.c] 44)) := (Ext.refl _ _).alloc _
          have hCa := hclo2.extNo hxa
          have hXa := hxr.transNo hxa
          have hcb : wr.heap.size ≠ ob := by have := hclo2.o.lt; omega
          have hco : ¬ OwnOf vo5 wr.heap.size := fun h => by have := (hclo2.row.lt _ h).2; omega
          obtain ⟨Wa, hWa⟩ : ∃ W, wr.alloc (.cells #[.int .i64 c.op, .int .i64 c.a, .int .i64 c.b, .int .i64 c.c] 44) = W := ⟨_, rfl⟩
          have hsa : wr.heap.size + 1 = Wa.heap.size := by rw [← hWa]; simp
          obtain ⟨cb, hcbe⟩ : ∃ cb, wr.heap.size = cb := ⟨_, rfl⟩
          rw [hWa] at hB hCa hXa ⊢
          rw [hsa]
          rw [hcbe] at hB hcb hco hsa ⊢
          clear hWa hxa hcbe
          refine (one_new' hCa rfl hXa [c.op, c.a] (by simp; omega) 2 rfl).mono ?_
          rintro e w5 ⟨rfl, vo6, hC5, hx5, hk5⟩
          obtain ⟨hB5, hO5⟩ := hk5 cb _ _ hB hcb hco
          clear hk5
          have x2 := hB5.cell' (i := 2) rfl
          go_wp2_with fail
          refine (two' hC5 rfl hx5 c.b (by omega) (by omega) (by simp; omega)).mono ?_
          rintro e w6 ⟨rfl, vo7, hC6, hx6, hk6⟩
          obtain ⟨hB6, hO6⟩ := hk6 cb _ _ hB5 hcb hO5
          clear hk6 x2
          have x3 := hB6.cell' (i := 3) rfl
          have t0 := hC6.t.cell' (i := 0) rfl
          have tlt := hC6.t.lt
          go_wp2_with fail
          clear t0 x3 tlt
          refine (one_new' hC6 rfl hx6 [c.c] (by simp; omega) 1 rfl).mono ?_
          rintro e w7 ⟨rfl, vo8, hC7, hx7, hk7⟩
          go_wp2_with fail
          go_roundg ((nth s.calls k).length - (m + 1))
          case measure => have := hm'.out; omega
          case rel =>
            refine ⟨m + 1, _, vo8, by omega, by go_num, ?_, ?_, hC7, hx7⟩
            · rw [take_nth hlt3, hcdef'.out, hout2'.out]
              simp [callBytes]
            · simp
              omega
        · go_wp2_with fail
          have e : (nth s.calls k).take m = nth s.calls k := List.take_of_length_le (by omega)
          have hout3 := hout2'.out
          rw [e] at hout3
          go_roundg (s.calls.length - (k + 1))
          case measure => have := hk'.out; omega
          case rel =>
            refine ⟨k + 1, out2, vo5, by omega, by go_num, ?_, by omega, hclo2, hxr⟩
            rw [take_nth hlt2, hout3, hout'.out]
            simp [listBytes]
    · have hAr := hA5.extOne hx (by omega)
      have a3 := hAr.cell' (i := 3) rfl
      have t0 := hclo.t.cell' (i := 0) rfl
      go_wp2_with fail
      refine (one_old' hclo rfl hx _ s.picks F (hp.ext hx hF1) (fun x hf => ⟨by have := hFH.out x hf; omega, hF1 x hf⟩) (by omega)).mono ?_
      rintro e w5 ⟨rfl, vo5, hC5, hx5, _⟩
      obtain ⟨ao, co, rfl, _⟩ := ownsRow_val hC5.row
      have o0 := hC5.o.cell' (i := 0) rfl
      go_wp2_with fail
      go_ret2
      have e : s.calls.take k = s.calls := List.take_of_length_le (by omega)
      have hrow := hC5.row
      have he : out ++ s.picks.map byteOf = bytesOf s := by rw [hout'.out, e]; rfl
      rw [he] at hrow
      have e3 : out.length + s.picks.length = (bytesOf s).length := by rw [← he]; simp
      refine ⟨⟨.slice ao (bytesOf s).length co, ?_, ownsRow_base hrow (by omega)⟩, hX5.trans hx5 (fun x hx' e => by have : x = ob := e; omega)⟩
      rw [← e3]
      rfl

theorem bytes_spec (w : World) (v : Value) (s : Scr) (F : Nat → Prop) (hv : RdS F w v s) (hF : ∀ x, F x → x < w.heap.size) :
    Calls Try.prog 31 #[v] w fun e w' => (∃ vo, e = .returned (.tuple #[vo, .int .i64 (errOf (okB s))]) ∧ w'.ownsRow w.heap.size 5 1 vo (if okB s then bytesOf s else []).length ((if okB s then bytesOf s else []).map byt)) ∧ Ext No w w' := by
  cases hb : okB s
  · exact (bytes_bad w v s F hv hb).mono fun e w' ⟨h1, h2⟩ => ⟨⟨_, h1, rfl, .inl ⟨rfl, rfl⟩⟩, h2⟩
  · exact bytes_good w v s F hv hF hb
end Go.Proofs.Ytjkknjohmekeiaa
