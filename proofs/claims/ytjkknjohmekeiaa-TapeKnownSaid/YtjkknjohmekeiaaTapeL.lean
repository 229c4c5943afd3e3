/- The document's bytes of a script. No condition. -/
import Derived.Test.YtjkknjohmekeiaaTapeJ
import Derived.Test.YtjkknjohmekeiaaTapeK
namespace Go.Proofs.Ytjkknjohmekeiaa
open Go.RowKit

theorem own_new {w : World} {base e b n : Nat} {cs : List Value} (h : Blk w b cs e) (hb : base ≤ b) (hl : cs.length = n) (hm : n ≤ maxLen) : w.ownsRow base e 1 (.slice (some ⟨b, 0, none⟩) n n) n cs := by
  subst hl
  exact ⟨by omega, .inr ⟨b, cs.length, cs.toArray, rfl, hb, h, Nat.le_refl _, hm, by simp, by simp⟩⟩
theorem byt_in {x : Int} (h0 : 0 ≤ x) (h1 : x < 256) : byt (byteOf x) = .int .u8 x := by
  have e : ((byteOf x : Nat) : Int) = x := by unfold byteOf; omega
  simp [byt, e]
theorem byt_mod (x : Int) : byt (byteOf x) = .int .u8 (x % 256) := by
  have e : ((byteOf x : Nat) : Int) = x % 256 := by unfold byteOf; omega
  simp [byt, e]
theorem Ext.own {w w1 w2 : World} {base e sz n : Nat} {v : Value} {xs : List Value} (h1 : Ext No w w1) (ho : w1.ownsRow base e sz v n xs) (hb : w.heap.size ≤ base) (h2 : Ext (OwnOf v) w1 w2) : Ext No w w2 :=
  h1.trans h2 (fun x hx hs => by have := (ho.lt x hs).1; omega)

set_option maxRecDepth 100000 in
set_option maxHeartbeats 1600000 in
theorem bytes2_bad (w : World) (v : Value) (s : Scr) (F : Nat → Prop) (hv : RdS F w v s) (hb : okB s = false) :
    Calls Try.prog 32 #[v] w fun e w' => e = .returned (.tuple #[.slice none 0 0, .int .i64 2]) ∧ Ext No w w' := by
  have hchk := fun w' (hx : Ext No w w') => check34_spec w' v s F (hv.ext hx (fun _ _ => id))
  obtain ⟨ac, kc, ap, kp, rfl, hc, hp⟩ := hv.openR
  have hX : Ext No w (w.alloc (.cells #[.int .i64 s.cpus, .int .i64 s.pages, .slice ac s.calls.length kc, .slice ap s.picks.length kp] 27)) := (Ext.refl _ _).alloc _
  rw [hb] at hchk
  go_enter Try.func32, Try.ntmps32
  go_wp2_with fail
  refine (hchk _ hX).mono ?_
  rintro e w1 ⟨rfl, hx1⟩
  go_wp2_with fail
  go_ret2
  exact ⟨rfl, hX.transNo hx1⟩

set_option maxRecDepth 100000 in
set_option maxHeartbeats 1600000 in
theorem bytes2_good (w : World) (v : Value) (s : Scr) (F : Nat → Prop) (hv : RdS F w v s) (hb : okB s = true) :
    Calls Try.prog 32 #[v] w fun e w' => (∃ vo, e = .returned (.tuple #[vo, .int .i64 0]) ∧ w'.ownsRow w.heap.size 5 1 vo (bytesOf s).length ((bytesOf s).map byt)) ∧ Ext No w w' := by
  have hchk := fun w' (hx : Ext No w w') => check34_spec w' v s F (hv.ext hx (fun _ _ => id))
  obtain ⟨ac, kc, ap, kp, rfl, hc, hp⟩ := hv.openR
  have hX : Ext No w (w.alloc (.cells #[.int .i64 s.cpus, .int .i64 s.pages, .slice ac s.calls.length kc, .slice ap s.picks.length kp] 27)) := (Ext.refl _ _).alloc _
  have hA0 : Blk (w.alloc (.cells #[.int .i64 s.cpus, .int .i64 s.pages, .slice ac s.calls.length kc, .slice ap s.picks.length kp] 27)) w.heap.size [.int .i64 s.cpus, .int .i64 s.pages, .slice ac s.calls.length kc, .slice ap s.picks.length kp] 27 := Blk.new _ _ _
  rw [hb] at hchk
  obtain ⟨⟨c1, c2, c3, c4, c5, c6⟩, hl, hpk⟩ := okB_facts hb
  have hlH := Lib.hid hl
  have hpkH := Lib.hid hpk
  have c5H := Lib.hid c5
  clear hl hpk c5
  go_enter Try.func32, Try.ntmps32
  go_wp2_with fail
  refine (hchk _ hX).mono ?_
  rintro e w1 ⟨rfl, hx1⟩
  have hA := hA0.extNo hx1
  have a0 := hA.cell' (i := 0) rfl
  have a1 := hA.cell' (i := 1) rfl
  have a2 := hA.cell' (i := 2) rfl
  go_wp2_with fail
  have hX1 := hX.transNo hx1
  have hc := hc.ext hX1 (fun _ _ => id) (fun _ _ => id)
  have hp := hp.extNo hX1
  have hlt := hA.lt
  clear a0 a1 a2 hA0 hX hchk hv hx1
  have hown0 : (w1.alloc (.cells #[.int .u8 (s.cpus - 1), .int .u8 ((s.pages - 1) / 256), .int .u8 ((s.pages - 1) % 256)] 5)).ownsRow w1.heap.size 5 1 (.slice (some ⟨w1.heap.size, 0, none⟩) 3 3) (headBytes s).length ((headBytes s).map byt) := by
    refine own_new ?_ (Nat.le_refl _) rfl (by simp [headBytes, maxLen])
    have e : (headBytes s).map byt = [.int .u8 (s.cpus - 1), .int .u8 ((s.pages - 1) / 256), .int .u8 ((s.pages - 1) % 256)] := by
      simp only [headBytes, List.map_cons, List.map_nil]
      rw [byt_in (by omega) (by omega), byt_in (by omega) (by omega), byt_mod]
    rw [e]
    exact Blk.new _ _ _
  have hx0 : Ext No w1 (w1.alloc (.cells #[.int .u8 (s.cpus - 1), .int .u8 ((s.pages - 1) / 256), .int .u8 ((s.pages - 1) % 256)] 5)) := (Ext.refl _ _).alloc _
  go_loopg [5, 6] s.calls.length (fun g ov i wr => ∃ (k : Nat) (out : List Nat), k + g = s.calls.length ∧ i = .int .i64 k ∧ out = headBytes s ++ (s.calls.take k).flatMap listBytes ∧ out.length ≤ 3 + k * 321 ∧ wr.ownsRow w1.heap.size 5 1 ov out.length (out.map byt) ∧ Ext No w1 wr)
  case atStart => exact ⟨0, headBytes s, by omega, rfl, by simp, by simp [headBytes], hown0, hx0⟩
  case round =>
    clear hown0 hx0
    obtain ⟨k, out, hk, rfl, hout, hlen, hown, hx⟩ := hrel
    have hk' := Lib.hid hk; have hout' := Lib.hid hout; have hownH := Lib.hid hown
    have hkn : k ≤ s.calls.length := by omega
    have hsz := hx.size
    obtain ⟨ao, co, rfl, hco⟩ := ownsRow_val hown
    clear hk hout hown
    have h8 : s.calls.length ≤ 8 := by have := c5H.out; omega
    have hAr := hA.extNo hx
    have a2 := hAr.cell' (i := 2) rfl
    have a3 := hAr.cell' (i := 3) rfl
    by_cases hlt2 : k < s.calls.length
    · obtain ⟨b1, o1, ai, ci, rfl, f1, r0, q1, _, _⟩ := hc.at2 hlt2
      have r1 := hx.cell r0 (fun e => e)
      have hl64 := (hlH.out k hlt2).1
      go_wp2_with (at_builtin; refine stop_here ?_)
      refine Stop.mk ?_
      have hxa : Ext No wr (wr.alloc (.cells #[.int .u8 ((nth s.calls k).length : Int)] 5)) := (Ext.refl _ _).alloc _
      have hBa : Blk (wr.alloc (.cells #[.int .u8 ((nth s.calls k).length : Int)] 5)) wr.heap.size [.int .u8 ((nth s.calls k).length : Int)] 5 := Blk.new _ _ _
      have howna := ownsRow_ext hownH.out hxa (fun _ _ => id)
      refine wpList_app (v := .slice ao out.length co) (m := 1) ty_byte rfl _ _ rfl rfl howna rfl (Rd.of_blk (n := 1) hBa rfl (by decide)) (by simp [Value.oneCell']) (by omega) (by unfold maxLen; omega) (by simp only [World.size_alloc]; omega) ?_
      intro v' w4 hown4 hx4 _ _
      have hX4 := (hx.transNo hxa).own howna (Nat.le_refl _) hx4
      have e4 : out.map byt ++ [.int .u8 ((nth s.calls k).length : Int)] = (out ++ [byteOf (nth s.calls k).length]).map byt := by
        rw [List.map_append, List.map_cons, List.map_nil, byt_in (by omega) (by omega)]
      rw [e4] at hown4
      have hown4H := Lib.hid hown4
      clear e4 hown4 hx4 howna hxa hBa a2 a3 r1
      go_wp2_with fail
      go_loopg [5, 7] (nth s.calls k).length (fun g ov j wr => ∃ (m : Nat) (out2 : List Nat), m + g = (nth s.calls k).length ∧ j = .int .i64 m ∧ out2 = (out ++ [byteOf (nth s.calls k).length]) ++ ((nth s.calls k).take m).flatMap callBytes ∧ out2.length ≤ 4 + k * 321 + m * 5 ∧ wr.ownsRow w1.heap.size 5 1 ov out2.length (out2.map byt) ∧ Ext No w1 wr)
      case atStart => exact ⟨0, out ++ [byteOf (nth s.calls k).length], by omega, rfl, by simp, by simp; omega, by have := hown4H.out; simpa using this, hX4⟩
      case round =>
        clear hown4H hX4
        obtain ⟨m, out2, hm, rfl, hout2, hlen2, hown2, hxr⟩ := hrel
        have hm' := Lib.hid hm; have hout2' := Lib.hid hout2; have hown2H := Lib.hid hown2
        have hmn : m ≤ (nth s.calls k).length := by omega
        have hsz2 := hxr.size
        obtain ⟨ao2, co2, rfl, hco2⟩ := ownsRow_val hown2
        clear hm hout2 hown2
        have hAs := hA.extNo hxr
        have a2 := hAs.cell' (i := 2) rfl
        have r1 := hxr.cell r0 (fun e => e)
        by_cases hlt3 : m < (nth s.calls k).length
        · have hok := callOk_facts ((hlH.out k hlt2).2 m hlt3)
          obtain ⟨bc, oc, rfl, _, fc, x0, x1, x2, x3⟩ := (q1.ext hxr (fun _ _ => id)).at hlt3
          obtain ⟨c, hcdef⟩ : ∃ c, nth (nth s.calls k) m = c := ⟨_, rfl⟩
          have hcdef' := Lib.hid hcdef
          rw [hcdef] at hok x0 x1 x2 x3
          clear hcdef
          go_wp2_with (at_builtin; refine stop_here ?_)
          refine Stop.mk ?_
          obtain ⟨Wa, hWa⟩ : ∃ W, wr.alloc (.cells #[.int .i64 c.op, .int .i64 c.a, .int .i64 c.b, .int .i64 c.c] 44) = W := ⟨_, rfl⟩
          have hxw : Ext No wr Wa := by rw [← hWa]; exact (Ext.refl _ _).alloc _
          have hsw : wr.heap.size + 1 = Wa.heap.size := by rw [← hWa]; simp
          rw [hWa, hsw]
          have hxa : Ext No wr (Wa.alloc (.cells #[.int .u8 c.op, .int .u8 c.a, .int .u8 (c.b / 256), .int .u8 (c.b % 256), .int .u8 c.c] 5)) := hxw.alloc _
          have hBa : Blk (Wa.alloc (.cells #[.int .u8 c.op, .int .u8 c.a, .int .u8 (c.b / 256), .int .u8 (c.b % 256), .int .u8 c.c] 5)) Wa.heap.size [.int .u8 c.op, .int .u8 c.a, .int .u8 (c.b / 256), .int .u8 (c.b % 256), .int .u8 c.c] 5 := Blk.new _ _ _
          have howna := ownsRow_ext hown2H.out hxa (fun _ _ => id)
          refine wpList_app (v := .slice ao2 out2.length co2) (m := 5) ty_byte rfl _ _ rfl rfl howna rfl (Rd.of_blk (n := 5) hBa rfl (by decide)) (by simp [Value.oneCell']) (by omega) (by unfold maxLen; omega) (by simp only [World.size_alloc]; omega) ?_
          intro v' w5 hown5 hx5 _ _
          have hX5 := (hxr.transNo hxa).own howna (Nat.le_refl _) hx5
          have e5 : out2.map byt ++ [.int .u8 c.op, .int .u8 c.a, .int .u8 (c.b / 256), .int .u8 (c.b % 256), .int .u8 c.c] = (out2 ++ callBytes c).map byt := by
            rw [List.map_append]
            simp only [callBytes, List.map_cons, List.map_nil]
            rw [byt_in (by omega) (by omega), byt_in (by omega) (by omega), byt_in (by omega) (by omega), byt_mod, byt_in (by omega) (by omega)]
          rw [e5] at hown5
          have hown5H := Lib.hid hown5
          clear e5 hown5 hx5 howna hxa hBa hxw hWa
          go_wp2_with fail
          go_roundg ((nth s.calls k).length - (m + 1))
          case measure => have := hm'.out; omega
          case rel =>
            refine ⟨m + 1, out2 ++ callBytes c, by omega, by go_num, ?_, ?_, ?_, hX5⟩
            · rw [take_nth hlt3, hcdef'.out, hout2'.out]; simp
            · simp [callBytes]; omega
            · have := hown5H.out; simpa [callBytes] using this
        · go_wp2_with fail
          have e : (nth s.calls k).take m = nth s.calls k := List.take_of_length_le (by omega)
          have hout3 := hout2'.out
          rw [e] at hout3
          go_roundg (s.calls.length - (k + 1))
          case measure => have := hk'.out; omega
          case rel =>
            refine ⟨k + 1, out2, by omega, by go_num, ?_, by omega, hown2H.out, hxr⟩
            rw [take_nth hlt2, hout3, hout'.out]
            simp [listBytes]
    · go_wp2_with fail
      have e : s.calls.take k = s.calls := List.take_of_length_le (by omega)
      have hout1 := hout'.out
      rw [e] at hout1
      have hout1H := Lib.hid hout1
      clear e hout1 hout' hk' a2 a3
      go_loopg [5, 9] s.picks.length (fun g ov j wr => ∃ (m : Nat) (out2 : List Nat), m + g = s.picks.length ∧ j = .int .i64 m ∧ out2 = out ++ (s.picks.take m).map byteOf ∧ out2.length ≤ 2571 + m ∧ wr.ownsRow w1.heap.size 5 1 ov out2.length (out2.map byt) ∧ Ext No w1 wr)
      case atStart => exact ⟨0, out, by omega, rfl, by simp, by omega, hownH.out, hx⟩
      case round =>
        clear hownH hx
        obtain ⟨m, out2, hm, rfl, hout2, hlen2, hown2, hxr⟩ := hrel
        have hm' := Lib.hid hm; have hout2' := Lib.hid hout2; have hown2H := Lib.hid hown2
        have hmn : m ≤ s.picks.length := by omega
        have hsz2 := hxr.size
        obtain ⟨ao2, co2, rfl, hco2⟩ := ownsRow_val hown2
        clear hm hout2 hown2
        have hAs := hA.extNo hxr
        have a3 := hAs.cell' (i := 3) rfl
        by_cases hlt3 : m < s.picks.length
        · have hok := hpkH.out (nth s.picks m) (by rw [nth_eq hlt3]; exact List.getElem_mem _)
          obtain ⟨bx, ox, rfl, hfx, _, x0⟩ := (hp.extNo hxr).at1 hlt3
          rw [List.getElem?_map, nth_some hlt3] at x0
          simp only [Option.map_some, int] at x0
          obtain ⟨c, hcdef⟩ : ∃ c, nth s.picks m = c := ⟨_, rfl⟩
          have hcdef' := Lib.hid hcdef
          rw [hcdef] at hok x0
          clear hcdef
          go_wp2_with (at_builtin; refine stop_here ?_)
          refine Stop.mk ?_
          have hxa : Ext No wr (wr.alloc (.cells #[.int .u8 c] 5)) := (Ext.refl _ _).alloc _
          have hBa : Blk (wr.alloc (.cells #[.int .u8 c] 5)) wr.heap.size [.int .u8 c] 5 := Blk.new _ _ _
          have howna := ownsRow_ext hown2H.out hxa (fun _ _ => id)
          refine wpList_app (v := .slice ao2 out2.length co2) (m := 1) ty_byte rfl _ _ rfl rfl howna rfl (Rd.of_blk (n := 1) hBa rfl (by decide)) (by simp [Value.oneCell']) (by omega) (by unfold maxLen; omega) (by simp only [World.size_alloc]; omega) ?_
          intro v' w5 hown5 hx5 _ _
          have hX5 := (hxr.transNo hxa).own howna (Nat.le_refl _) hx5
          have e5 : out2.map byt ++ [.int .u8 c] = (out2 ++ [byteOf c]).map byt := by
            rw [List.map_append, List.map_cons, List.map_nil, byt_in (by omega) (by omega)]
          rw [e5] at hown5
          have hown5H := Lib.hid hown5
          clear e5 hown5 hx5 howna hxa hBa
          go_wp2_with fail
          go_roundg (s.picks.length - (m + 1))
          case measure => have := hm'.out; omega
          case rel =>
            refine ⟨m + 1, out2 ++ [byteOf c], by omega, by go_num, ?_, ?_, ?_, hX5⟩
            · rw [take_nth hlt3, hcdef'.out, hout2'.out]; simp
            · simp; omega
            · have := hown5H.out; simpa using this
        · go_wp2_with fail
          go_ret2
          have e : s.picks.take m = s.picks := List.take_of_length_le (by omega)
          have hrow := hown2H.out
          have he : out2 = bytesOf s := by rw [hout2'.out, e, hout1H.out]; rfl
          subst he
          exact ⟨⟨_, rfl, ownsRow_base hrow (by omega)⟩, hX1.transNo hxr⟩

theorem bytes2_spec (w : World) (v : Value) (s : Scr) (F : Nat → Prop) (hv : RdS F w v s) :
    Calls Try.prog 32 #[v] w fun e w' => (∃ vo, e = .returned (.tuple #[vo, .int .i64 (errOf (okB s))]) ∧ w'.ownsRow w.heap.size 5 1 vo (if okB s then bytesOf s else []).length ((if okB s then bytesOf s else []).map byt)) ∧ Ext No w w' := by
  cases hb : okB s
  · exact (bytes2_bad w v s F hv hb).mono fun e w' ⟨h1, h2⟩ => ⟨⟨_, h1, rfl, .inl ⟨rfl, rfl⟩⟩, h2⟩
  · exact bytes2_good w v s F hv hb
end Go.Proofs.Ytjkknjohmekeiaa
