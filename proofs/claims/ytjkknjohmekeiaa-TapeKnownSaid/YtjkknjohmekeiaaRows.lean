/-
  No cell of these rows narrows 'for every input' (looked for: loops, veiled, ifaces, maps, wideKeys, modest, calm, conditions, laid).
  DERIVED. THE GIVEN ROWS OF THIS SEAT. 21 by the template 'for every input the law returns true; each argument reads behind the call as it read before'; 0 by the template 'total and deterministic' (their statements: YtjkknjohmekeiaaTotals.lean).
  GIVEN WITH THE SEED: the statements are not yours to turn. If you find one false, say at which input.
  Laid BY PROGRAM, IN A SANDBOX (cutbox-rows.mjs): the forced cells as the released guide's own fill.sh prints them over the translation 931f56dde2dc28ff… (all of the seat's roots in one cut). By AI agents, Wed Nov 11 2026. No macro, syntax, notation, axiom, sorry.
-/
import Derived.Test.YtjkknjohmekeiaaChecked
import GoSem.Claim
import GoSem.ClaimJoined
import GoSem.ClaimMapViews
import Derived.JoinedTies
import Derived.KernelRfl
namespace Go.Proofs.Ytjkknjohmekeiaa
/- THE CELL 'sum', in the pinned program and in every row, IS THE sha256 OF THE DUMP (.gsa) THAT YtjkknjohmekeiaaProg.lean LOADS. Nothing in Lean hashes anything: it is a label: what it is worth is what the hold of that sum in a sandbox is worth. -/
noncomputable def Try.pinned : Pinned := { name := "ytjkknjohmekeiaa", sum := "931f56dde2dc28ff92e4b819c94be7771459e4ec2098f11693641bc7273188b4", checked := Try.checked }
namespace Rows
def none {H : Type} : Left H := { results := [], args := [] }

/-- 'wainscotlaw02.TapeScripts': WHATEVER THE INPUT: true; the input reads as it did. -/
def tapeScriptsSpec : ChangeSpec := { name := "tapeScripts", fn := fun _ => fun
  | [d] => { results := [.lit (.bool true)], args := [d] }
  | _ => none }
def tapeScriptsRow : OpenClaim := { program := "ytjkknjohmekeiaa", sum := "931f56dde2dc28ff92e4b819c94be7771459e4ec2098f11693641bc7273188b4", func := "wainscot/wainscotlaw02.TapeScripts", spec := "tapeScripts", unfollowed := true, recurses := true, apart := false }
def TapeScriptsSaid : Prop := tapeScriptsRow.holds Try.pinned (OpenSpec.ofChange tapeScriptsSpec)

/-- ITS FALSE NEIGHBOUR: 'it returns false'. Refute it at one input. -/
def tapeScriptsWrong : ChangeSpec := { name := "tapeScripts", fn := fun _ => fun
  | [d] => { results := [.lit (.bool false)], args := [d] }
  | _ => none }
def TapeScriptsWrongFalsely : Prop := tapeScriptsRow.holds Try.pinned (OpenSpec.ofChange tapeScriptsWrong)

/-- 'wainscotlaw02.TapeBytes': WHATEVER THE INPUT: true; the input reads as it did. -/
def tapeBytesSpec : ChangeSpec := { name := "tapeBytes", fn := fun _ => fun
  | [d] => { results := [.lit (.bool true)], args := [d] }
  | _ => none }
def tapeBytesRow : OpenClaim := { program := "ytjkknjohmekeiaa", sum := "931f56dde2dc28ff92e4b819c94be7771459e4ec2098f11693641bc7273188b4", func := "wainscot/wainscotlaw02.TapeBytes", spec := "tapeBytes", unfollowed := true, recurses := true, apart := false }
def TapeBytesSaid : Prop := tapeBytesRow.holds Try.pinned (OpenSpec.ofChange tapeBytesSpec)

/-- ITS FALSE NEIGHBOUR: 'it returns false'. Refute it at one input. -/
def tapeBytesWrong : ChangeSpec := { name := "tapeBytes", fn := fun _ => fun
  | [d] => { results := [.lit (.bool false)], args := [d] }
  | _ => none }
def TapeBytesWrongFalsely : Prop := tapeBytesRow.holds Try.pinned (OpenSpec.ofChange tapeBytesWrong)

/-- 'wainscotlaw02.TapeBack': WHATEVER THE INPUT: true; the input reads as it did. -/
def tapeBackSpec : ChangeSpec := { name := "tapeBack", fn := fun _ => fun
  | [d] => { results := [.lit (.bool true)], args := [d] }
  | _ => none }
def tapeBackRow : OpenClaim := { program := "ytjkknjohmekeiaa", sum := "931f56dde2dc28ff92e4b819c94be7771459e4ec2098f11693641bc7273188b4", func := "wainscot/wainscotlaw02.TapeBack", spec := "tapeBack", unfollowed := true, recurses := true, apart := false }
def TapeBackSaid : Prop := tapeBackRow.holds Try.pinned (OpenSpec.ofChange tapeBackSpec)

/-- ITS FALSE NEIGHBOUR: 'it returns false'. Refute it at one input. -/
def tapeBackWrong : ChangeSpec := { name := "tapeBack", fn := fun _ => fun
  | [d] => { results := [.lit (.bool false)], args := [d] }
  | _ => none }
def TapeBackWrongFalsely : Prop := tapeBackRow.holds Try.pinned (OpenSpec.ofChange tapeBackWrong)

/-- 'wainscotlaw02.TapeWhole': WHATEVER THE INPUT: true; the input reads as it did. -/
def tapeWholeSpec : ChangeSpec := { name := "tapeWhole", fn := fun _ => fun
  | [d] => { results := [.lit (.bool true)], args := [d] }
  | _ => none }
def tapeWholeRow : OpenClaim := { program := "ytjkknjohmekeiaa", sum := "931f56dde2dc28ff92e4b819c94be7771459e4ec2098f11693641bc7273188b4", func := "wainscot/wainscotlaw02.TapeWhole", spec := "tapeWhole", unfollowed := true, recurses := true, apart := false }
def TapeWholeSaid : Prop := tapeWholeRow.holds Try.pinned (OpenSpec.ofChange tapeWholeSpec)

/-- ITS FALSE NEIGHBOUR: 'it returns false'. Refute it at one input. -/
def tapeWholeWrong : ChangeSpec := { name := "tapeWhole", fn := fun _ => fun
  | [d] => { results := [.lit (.bool false)], args := [d] }
  | _ => none }
def TapeWholeWrongFalsely : Prop := tapeWholeRow.holds Try.pinned (OpenSpec.ofChange tapeWholeWrong)

/-- 'wainscotlaw02.TapeApart': WHATEVER THE INPUT: true; the input reads as it did. -/
def tapeApartSpec : ChangeSpec := { name := "tapeApart", fn := fun _ => fun
  | [d1, d2, d3] => { results := [.lit (.bool true)], args := [d1, d2, d3] }
  | _ => none }
def tapeApartRow : OpenClaim := { program := "ytjkknjohmekeiaa", sum := "931f56dde2dc28ff92e4b819c94be7771459e4ec2098f11693641bc7273188b4", func := "wainscot/wainscotlaw02.TapeApart", spec := "tapeApart", unfollowed := true, recurses := true, apart := false }
def TapeApartSaid : Prop := tapeApartRow.holds Try.pinned (OpenSpec.ofChange tapeApartSpec)

/-- ITS FALSE NEIGHBOUR: 'it returns false'. Refute it at one input. -/
def tapeApartWrong : ChangeSpec := { name := "tapeApart", fn := fun _ => fun
  | [d1, d2, d3] => { results := [.lit (.bool false)], args := [d1, d2, d3] }
  | _ => none }
def TapeApartWrongFalsely : Prop := tapeApartRow.holds Try.pinned (OpenSpec.ofChange tapeApartWrong)

/-- 'wainscotlaw02.TapeKnown': WHATEVER THE INPUT: true; the input reads as it did. -/
def tapeKnownSpec : ChangeSpec := { name := "tapeKnown", fn := fun _ => fun
  | [] => { results := [.lit (.bool true)], args := [] }
  | _ => none }
def tapeKnownRow : OpenClaim := { program := "ytjkknjohmekeiaa", sum := "931f56dde2dc28ff92e4b819c94be7771459e4ec2098f11693641bc7273188b4", func := "wainscot/wainscotlaw02.TapeKnown", spec := "tapeKnown", unfollowed := true, recurses := true, apart := false }
def TapeKnownSaid : Prop := tapeKnownRow.holds Try.pinned (OpenSpec.ofChange tapeKnownSpec)

/-- ITS FALSE NEIGHBOUR: 'it returns false'. Refute it at one input. -/
def tapeKnownWrong : ChangeSpec := { name := "tapeKnown", fn := fun _ => fun
  | [] => { results := [.lit (.bool false)], args := [] }
  | _ => none }
def TapeKnownWrongFalsely : Prop := tapeKnownRow.holds Try.pinned (OpenSpec.ofChange tapeKnownWrong)

/-- 'wainscotlaw08.ZoneFull': WHATEVER THE INPUT: true; the input reads as it did. -/
def zoneFullSpec : ChangeSpec := { name := "zoneFull", fn := fun _ => fun
  | [d1, d2, d3] => { results := [.lit (.bool true)], args := [d1, d2, d3] }
  | _ => none }
def zoneFullRow : OpenClaim := { program := "ytjkknjohmekeiaa", sum := "931f56dde2dc28ff92e4b819c94be7771459e4ec2098f11693641bc7273188b4", func := "wainscot/wainscotlaw08.ZoneFull", spec := "zoneFull", unfollowed := true, recurses := true, apart := false }
def ZoneFullSaid : Prop := zoneFullRow.holds Try.pinned (OpenSpec.ofChange zoneFullSpec)

/-- ITS FALSE NEIGHBOUR: 'it returns false'. Refute it at one input. -/
def zoneFullWrong : ChangeSpec := { name := "zoneFull", fn := fun _ => fun
  | [d1, d2, d3] => { results := [.lit (.bool false)], args := [d1, d2, d3] }
  | _ => none }
def ZoneFullWrongFalsely : Prop := zoneFullRow.holds Try.pinned (OpenSpec.ofChange zoneFullWrong)

/-- 'wainscotlaw07.NearPlays': WHATEVER THE INPUT: true; the input reads as it did. -/
def nearPlaysSpec : ChangeSpec := { name := "nearPlays", fn := fun _ => fun
  | [d1, d2, d3] => { results := [.lit (.bool true)], args := [d1, d2, d3] }
  | _ => none }
def nearPlaysRow : OpenClaim := { program := "ytjkknjohmekeiaa", sum := "931f56dde2dc28ff92e4b819c94be7771459e4ec2098f11693641bc7273188b4", func := "wainscot/wainscotlaw07.NearPlays", spec := "nearPlays", unfollowed := true, recurses := true, apart := false }
def NearPlaysSaid : Prop := nearPlaysRow.holds Try.pinned (OpenSpec.ofChange nearPlaysSpec)

/-- ITS FALSE NEIGHBOUR: 'it returns false'. Refute it at one input. -/
def nearPlaysWrong : ChangeSpec := { name := "nearPlays", fn := fun _ => fun
  | [d1, d2, d3] => { results := [.lit (.bool false)], args := [d1, d2, d3] }
  | _ => none }
def NearPlaysWrongFalsely : Prop := nearPlaysRow.holds Try.pinned (OpenSpec.ofChange nearPlaysWrong)

/-- 'wainscotlaw07.NearOnce': WHATEVER THE INPUT: true; the input reads as it did. -/
def nearOnceSpec : ChangeSpec := { name := "nearOnce", fn := fun _ => fun
  | [d1, d2, d3] => { results := [.lit (.bool true)], args := [d1, d2, d3] }
  | _ => none }
def nearOnceRow : OpenClaim := { program := "ytjkknjohmekeiaa", sum := "931f56dde2dc28ff92e4b819c94be7771459e4ec2098f11693641bc7273188b4", func := "wainscot/wainscotlaw07.NearOnce", spec := "nearOnce", unfollowed := true, recurses := true, apart := false }
def NearOnceSaid : Prop := nearOnceRow.holds Try.pinned (OpenSpec.ofChange nearOnceSpec)

/-- ITS FALSE NEIGHBOUR: 'it returns false'. Refute it at one input. -/
def nearOnceWrong : ChangeSpec := { name := "nearOnce", fn := fun _ => fun
  | [d1, d2, d3] => { results := [.lit (.bool false)], args := [d1, d2, d3] }
  | _ => none }
def NearOnceWrongFalsely : Prop := nearOnceRow.holds Try.pinned (OpenSpec.ofChange nearOnceWrong)

/-- 'wainscotlaw08.ZoneKnown': WHATEVER THE INPUT: true; the input reads as it did. -/
def zoneKnownSpec : ChangeSpec := { name := "zoneKnown", fn := fun _ => fun
  | [] => { results := [.lit (.bool true)], args := [] }
  | _ => none }
def zoneKnownRow : OpenClaim := { program := "ytjkknjohmekeiaa", sum := "931f56dde2dc28ff92e4b819c94be7771459e4ec2098f11693641bc7273188b4", func := "wainscot/wainscotlaw08.ZoneKnown", spec := "zoneKnown", unfollowed := true, recurses := true, apart := false }
def ZoneKnownSaid : Prop := zoneKnownRow.holds Try.pinned (OpenSpec.ofChange zoneKnownSpec)

/-- ITS FALSE NEIGHBOUR: 'it returns false'. Refute it at one input. -/
def zoneKnownWrong : ChangeSpec := { name := "zoneKnown", fn := fun _ => fun
  | [] => { results := [.lit (.bool false)], args := [] }
  | _ => none }
def ZoneKnownWrongFalsely : Prop := zoneKnownRow.holds Try.pinned (OpenSpec.ofChange zoneKnownWrong)

/-- 'wainscotlaw07.NearLast': WHATEVER THE INPUT: true; the input reads as it did. -/
def nearLastSpec : ChangeSpec := { name := "nearLast", fn := fun _ => fun
  | [d1, d2] => { results := [.lit (.bool true)], args := [d1, d2] }
  | _ => none }
def nearLastRow : OpenClaim := { program := "ytjkknjohmekeiaa", sum := "931f56dde2dc28ff92e4b819c94be7771459e4ec2098f11693641bc7273188b4", func := "wainscot/wainscotlaw07.NearLast", spec := "nearLast", unfollowed := true, recurses := true, apart := false }
def NearLastSaid : Prop := nearLastRow.holds Try.pinned (OpenSpec.ofChange nearLastSpec)

/-- ITS FALSE NEIGHBOUR: 'it returns false'. Refute it at one input. -/
def nearLastWrong : ChangeSpec := { name := "nearLast", fn := fun _ => fun
  | [d1, d2] => { results := [.lit (.bool false)], args := [d1, d2] }
  | _ => none }
def NearLastWrongFalsely : Prop := nearLastRow.holds Try.pinned (OpenSpec.ofChange nearLastWrong)

/-- 'wainscotlaw07.NearKnown': WHATEVER THE INPUT: true; the input reads as it did. -/
def nearKnownSpec : ChangeSpec := { name := "nearKnown", fn := fun _ => fun
  | [] => { results := [.lit (.bool true)], args := [] }
  | _ => none }
def nearKnownRow : OpenClaim := { program := "ytjkknjohmekeiaa", sum := "931f56dde2dc28ff92e4b819c94be7771459e4ec2098f11693641bc7273188b4", func := "wainscot/wainscotlaw07.NearKnown", spec := "nearKnown", unfollowed := true, recurses := true, apart := false }
def NearKnownSaid : Prop := nearKnownRow.holds Try.pinned (OpenSpec.ofChange nearKnownSpec)

/-- ITS FALSE NEIGHBOUR: 'it returns false'. Refute it at one input. -/
def nearKnownWrong : ChangeSpec := { name := "nearKnown", fn := fun _ => fun
  | [] => { results := [.lit (.bool false)], args := [] }
  | _ => none }
def NearKnownWrongFalsely : Prop := nearKnownRow.holds Try.pinned (OpenSpec.ofChange nearKnownWrong)

/-- 'wainscotlaw05.FrameStays': WHATEVER THE INPUT: true; the input reads as it did. -/
def frameStaysSpec : ChangeSpec := { name := "frameStays", fn := fun _ => fun
  | [d1, d2, d3] => { results := [.lit (.bool true)], args := [d1, d2, d3] }
  | _ => none }
def frameStaysRow : OpenClaim := { program := "ytjkknjohmekeiaa", sum := "931f56dde2dc28ff92e4b819c94be7771459e4ec2098f11693641bc7273188b4", func := "wainscot/wainscotlaw05.FrameStays", spec := "frameStays", unfollowed := true, recurses := true, apart := false }
def FrameStaysSaid : Prop := frameStaysRow.holds Try.pinned (OpenSpec.ofChange frameStaysSpec)

/-- ITS FALSE NEIGHBOUR: 'it returns false'. Refute it at one input. -/
def frameStaysWrong : ChangeSpec := { name := "frameStays", fn := fun _ => fun
  | [d1, d2, d3] => { results := [.lit (.bool false)], args := [d1, d2, d3] }
  | _ => none }
def FrameStaysWrongFalsely : Prop := frameStaysRow.holds Try.pinned (OpenSpec.ofChange frameStaysWrong)

/-- 'wainscotlaw05.FrameSum': WHATEVER THE INPUT: true; the input reads as it did. -/
def frameSumSpec : ChangeSpec := { name := "frameSum", fn := fun _ => fun
  | [d] => { results := [.lit (.bool true)], args := [d] }
  | _ => none }
def frameSumRow : OpenClaim := { program := "ytjkknjohmekeiaa", sum := "931f56dde2dc28ff92e4b819c94be7771459e4ec2098f11693641bc7273188b4", func := "wainscot/wainscotlaw05.FrameSum", spec := "frameSum", unfollowed := true, recurses := true, apart := false }
def FrameSumSaid : Prop := frameSumRow.holds Try.pinned (OpenSpec.ofChange frameSumSpec)

/-- ITS FALSE NEIGHBOUR: 'it returns false'. Refute it at one input. -/
def frameSumWrong : ChangeSpec := { name := "frameSum", fn := fun _ => fun
  | [d] => { results := [.lit (.bool false)], args := [d] }
  | _ => none }
def FrameSumWrongFalsely : Prop := frameSumRow.holds Try.pinned (OpenSpec.ofChange frameSumWrong)

/-- 'wainscotlaw06.BuddyBack': WHATEVER THE INPUT: true; the input reads as it did. -/
def buddyBackSpec : ChangeSpec := { name := "buddyBack", fn := fun _ => fun
  | [d1, d2, d3] => { results := [.lit (.bool true)], args := [d1, d2, d3] }
  | _ => none }
def buddyBackRow : OpenClaim := { program := "ytjkknjohmekeiaa", sum := "931f56dde2dc28ff92e4b819c94be7771459e4ec2098f11693641bc7273188b4", func := "wainscot/wainscotlaw06.BuddyBack", spec := "buddyBack", unfollowed := true, recurses := true, apart := false }
def BuddyBackSaid : Prop := buddyBackRow.holds Try.pinned (OpenSpec.ofChange buddyBackSpec)

/-- ITS FALSE NEIGHBOUR: 'it returns false'. Refute it at one input. -/
def buddyBackWrong : ChangeSpec := { name := "buddyBack", fn := fun _ => fun
  | [d1, d2, d3] => { results := [.lit (.bool false)], args := [d1, d2, d3] }
  | _ => none }
def BuddyBackWrongFalsely : Prop := buddyBackRow.holds Try.pinned (OpenSpec.ofChange buddyBackWrong)

/-- 'wainscotlaw06.BuddyFull': WHATEVER THE INPUT: true; the input reads as it did. -/
def buddyFullSpec : ChangeSpec := { name := "buddyFull", fn := fun _ => fun
  | [d1, d2, d3] => { results := [.lit (.bool true)], args := [d1, d2, d3] }
  | _ => none }
def buddyFullRow : OpenClaim := { program := "ytjkknjohmekeiaa", sum := "931f56dde2dc28ff92e4b819c94be7771459e4ec2098f11693641bc7273188b4", func := "wainscot/wainscotlaw06.BuddyFull", spec := "buddyFull", unfollowed := true, recurses := true, apart := false }
def BuddyFullSaid : Prop := buddyFullRow.holds Try.pinned (OpenSpec.ofChange buddyFullSpec)

/-- ITS FALSE NEIGHBOUR: 'it returns false'. Refute it at one input. -/
def buddyFullWrong : ChangeSpec := { name := "buddyFull", fn := fun _ => fun
  | [d1, d2, d3] => { results := [.lit (.bool false)], args := [d1, d2, d3] }
  | _ => none }
def BuddyFullWrongFalsely : Prop := buddyFullRow.holds Try.pinned (OpenSpec.ofChange buddyFullWrong)

/-- 'wainscotlaw06.BuddyPlays': WHATEVER THE INPUT: true; the input reads as it did. -/
def buddyPlaysSpec : ChangeSpec := { name := "buddyPlays", fn := fun _ => fun
  | [d1, d2] => { results := [.lit (.bool true)], args := [d1, d2] }
  | _ => none }
def buddyPlaysRow : OpenClaim := { program := "ytjkknjohmekeiaa", sum := "931f56dde2dc28ff92e4b819c94be7771459e4ec2098f11693641bc7273188b4", func := "wainscot/wainscotlaw06.BuddyPlays", spec := "buddyPlays", unfollowed := true, recurses := true, apart := false }
def BuddyPlaysSaid : Prop := buddyPlaysRow.holds Try.pinned (OpenSpec.ofChange buddyPlaysSpec)

/-- ITS FALSE NEIGHBOUR: 'it returns false'. Refute it at one input. -/
def buddyPlaysWrong : ChangeSpec := { name := "buddyPlays", fn := fun _ => fun
  | [d1, d2] => { results := [.lit (.bool false)], args := [d1, d2] }
  | _ => none }
def BuddyPlaysWrongFalsely : Prop := buddyPlaysRow.holds Try.pinned (OpenSpec.ofChange buddyPlaysWrong)

/-- 'wainscotlaw06.BuddyKnown': WHATEVER THE INPUT: true; the input reads as it did. -/
def buddyKnownSpec : ChangeSpec := { name := "buddyKnown", fn := fun _ => fun
  | [] => { results := [.lit (.bool true)], args := [] }
  | _ => none }
def buddyKnownRow : OpenClaim := { program := "ytjkknjohmekeiaa", sum := "931f56dde2dc28ff92e4b819c94be7771459e4ec2098f11693641bc7273188b4", func := "wainscot/wainscotlaw06.BuddyKnown", spec := "buddyKnown", unfollowed := true, recurses := true, apart := false }
def BuddyKnownSaid : Prop := buddyKnownRow.holds Try.pinned (OpenSpec.ofChange buddyKnownSpec)

/-- ITS FALSE NEIGHBOUR: 'it returns false'. Refute it at one input. -/
def buddyKnownWrong : ChangeSpec := { name := "buddyKnown", fn := fun _ => fun
  | [] => { results := [.lit (.bool false)], args := [] }
  | _ => none }
def BuddyKnownWrongFalsely : Prop := buddyKnownRow.holds Try.pinned (OpenSpec.ofChange buddyKnownWrong)

/-- 'wainscotlaw08.ZonePlays': WHATEVER THE INPUT: true; the input reads as it did. -/
def zonePlaysSpec : ChangeSpec := { name := "zonePlays", fn := fun _ => fun
  | [d1, d2, d3] => { results := [.lit (.bool true)], args := [d1, d2, d3] }
  | _ => none }
def zonePlaysRow : OpenClaim := { program := "ytjkknjohmekeiaa", sum := "931f56dde2dc28ff92e4b819c94be7771459e4ec2098f11693641bc7273188b4", func := "wainscot/wainscotlaw08.ZonePlays", spec := "zonePlays", unfollowed := true, recurses := true, apart := false }
def ZonePlaysSaid : Prop := zonePlaysRow.holds Try.pinned (OpenSpec.ofChange zonePlaysSpec)

/-- ITS FALSE NEIGHBOUR: 'it returns false'. Refute it at one input. -/
def zonePlaysWrong : ChangeSpec := { name := "zonePlays", fn := fun _ => fun
  | [d1, d2, d3] => { results := [.lit (.bool false)], args := [d1, d2, d3] }
  | _ => none }
def ZonePlaysWrongFalsely : Prop := zonePlaysRow.holds Try.pinned (OpenSpec.ofChange zonePlaysWrong)

/-- 'wainscotlaw08.ZoneStands': WHATEVER THE INPUT: true; the input reads as it did. -/
def zoneStandsSpec : ChangeSpec := { name := "zoneStands", fn := fun _ => fun
  | [d1, d2] => { results := [.lit (.bool true)], args := [d1, d2] }
  | _ => none }
def zoneStandsRow : OpenClaim := { program := "ytjkknjohmekeiaa", sum := "931f56dde2dc28ff92e4b819c94be7771459e4ec2098f11693641bc7273188b4", func := "wainscot/wainscotlaw08.ZoneStands", spec := "zoneStands", unfollowed := true, recurses := true, apart := false }
def ZoneStandsSaid : Prop := zoneStandsRow.holds Try.pinned (OpenSpec.ofChange zoneStandsSpec)

/-- ITS FALSE NEIGHBOUR: 'it returns false'. Refute it at one input. -/
def zoneStandsWrong : ChangeSpec := { name := "zoneStands", fn := fun _ => fun
  | [d1, d2] => { results := [.lit (.bool false)], args := [d1, d2] }
  | _ => none }
def ZoneStandsWrongFalsely : Prop := zoneStandsRow.holds Try.pinned (OpenSpec.ofChange zoneStandsWrong)

/-- 'wainscotlaw08.ZoneBack': WHATEVER THE INPUT: true; the input reads as it did. -/
def zoneBackSpec : ChangeSpec := { name := "zoneBack", fn := fun _ => fun
  | [d1, d2, d3] => { results := [.lit (.bool true)], args := [d1, d2, d3] }
  | _ => none }
def zoneBackRow : OpenClaim := { program := "ytjkknjohmekeiaa", sum := "931f56dde2dc28ff92e4b819c94be7771459e4ec2098f11693641bc7273188b4", func := "wainscot/wainscotlaw08.ZoneBack", spec := "zoneBack", unfollowed := true, recurses := true, apart := false }
def ZoneBackSaid : Prop := zoneBackRow.holds Try.pinned (OpenSpec.ofChange zoneBackSpec)

/-- ITS FALSE NEIGHBOUR: 'it returns false'. Refute it at one input. -/
def zoneBackWrong : ChangeSpec := { name := "zoneBack", fn := fun _ => fun
  | [d1, d2, d3] => { results := [.lit (.bool false)], args := [d1, d2, d3] }
  | _ => none }
def ZoneBackWrongFalsely : Prop := zoneBackRow.holds Try.pinned (OpenSpec.ofChange zoneBackWrong)

/- THE SECOND FORM. 'bulk': how many values and letters a reading holds, each counted each time it is reached (what is shared counts as often as it is met; a slice's spare places count too). A statement '..UptoSaid' is the law's where the arguments, and the package variables that the reading takes, are together of bulk at most 1048576: NARROWER than '..Said'. Prove '..Said' where nothing that the law and all that it calls make is longer than what came in: it says more and counts as full. Else prove '..UptoSaid'. A law counts once. -/
mutual
def uptoBulk {H : Type} : DataW H → Nat
  | .lit (.string bytes) => bytes.length + 1
  | .lit _ => 1
  | .nil => 1
  | .ptr d => uptoBulk d + 1
  | .slice elems spare => uptoBulkAll elems + uptoBulkAll spare + 1
  | .agg parts => uptoBulkAll parts + 1
  | .iface _ d => uptoBulk d + 1
  | .map entries => uptoBulkEntries entries + 1
  | .held _ => 1
def uptoBulkAll {H : Type} : List (DataW H) → Nat
  | [] => 0
  | d :: r => uptoBulk d + uptoBulkAll r
def uptoBulkEntries {H : Type} : List (Lit × DataW H) → Nat
  | [] => 0
  | x :: r => uptoBulkEntry x + uptoBulkEntries r
def uptoBulkEntry {H : Type} : Lit × DataW H → Nat
  | (.string bytes, d) => bytes.length + uptoBulk d + 1
  | (_, d) => uptoBulk d + 1
 end
def uptoSmall : (H : Type) → List (DataW H) → Bool := fun _ ds => decide (uptoBulkAll ds ≤ 1048576)
def OpenSpec.upto (s : _root_.Go.ChangeSpec) : _root_.Go.OpenSpec := { _root_.Go.OpenSpec.ofChange s with cond := some uptoSmall }

/-- 'wainscotlaw02.TapeScripts', WHERE WHAT IT READS IS OF BULK AT MOST 1048576: true; the input reads as it did. -/
def tapeScriptsUptoRow : OpenClaim := { program := "ytjkknjohmekeiaa", sum := "931f56dde2dc28ff92e4b819c94be7771459e4ec2098f11693641bc7273188b4", func := "wainscot/wainscotlaw02.TapeScripts", spec := "tapeScripts", unfollowed := true, recurses := true, apart := false, narrowed := true }
def TapeScriptsUptoSaid : Prop := tapeScriptsUptoRow.holds Try.pinned (OpenSpec.upto tapeScriptsSpec)

/-- 'wainscotlaw02.TapeBytes', WHERE WHAT IT READS IS OF BULK AT MOST 1048576: true; the input reads as it did. -/
def tapeBytesUptoRow : OpenClaim := { program := "ytjkknjohmekeiaa", sum := "931f56dde2dc28ff92e4b819c94be7771459e4ec2098f11693641bc7273188b4", func := "wainscot/wainscotlaw02.TapeBytes", spec := "tapeBytes", unfollowed := true, recurses := true, apart := false, narrowed := true }
def TapeBytesUptoSaid : Prop := tapeBytesUptoRow.holds Try.pinned (OpenSpec.upto tapeBytesSpec)

/-- 'wainscotlaw02.TapeBack', WHERE WHAT IT READS IS OF BULK AT MOST 1048576: true; the input reads as it did. -/
def tapeBackUptoRow : OpenClaim := { program := "ytjkknjohmekeiaa", sum := "931f56dde2dc28ff92e4b819c94be7771459e4ec2098f11693641bc7273188b4", func := "wainscot/wainscotlaw02.TapeBack", spec := "tapeBack", unfollowed := true, recurses := true, apart := false, narrowed := true }
def TapeBackUptoSaid : Prop := tapeBackUptoRow.holds Try.pinned (OpenSpec.upto tapeBackSpec)

/-- 'wainscotlaw02.TapeWhole', WHERE WHAT IT READS IS OF BULK AT MOST 1048576: true; the input reads as it did. -/
def tapeWholeUptoRow : OpenClaim := { program := "ytjkknjohmekeiaa", sum := "931f56dde2dc28ff92e4b819c94be7771459e4ec2098f11693641bc7273188b4", func := "wainscot/wainscotlaw02.TapeWhole", spec := "tapeWhole", unfollowed := true, recurses := true, apart := false, narrowed := true }
def TapeWholeUptoSaid : Prop := tapeWholeUptoRow.holds Try.pinned (OpenSpec.upto tapeWholeSpec)

/-- 'wainscotlaw02.TapeApart', WHERE WHAT IT READS IS OF BULK AT MOST 1048576: true; the input reads as it did. -/
def tapeApartUptoRow : OpenClaim := { program := "ytjkknjohmekeiaa", sum := "931f56dde2dc28ff92e4b819c94be7771459e4ec2098f11693641bc7273188b4", func := "wainscot/wainscotlaw02.TapeApart", spec := "tapeApart", unfollowed := true, recurses := true, apart := false, narrowed := true }
def TapeApartUptoSaid : Prop := tapeApartUptoRow.holds Try.pinned (OpenSpec.upto tapeApartSpec)

/-- 'wainscotlaw02.TapeKnown', WHERE WHAT IT READS IS OF BULK AT MOST 1048576: true; the input reads as it did. -/
def tapeKnownUptoRow : OpenClaim := { program := "ytjkknjohmekeiaa", sum := "931f56dde2dc28ff92e4b819c94be7771459e4ec2098f11693641bc7273188b4", func := "wainscot/wainscotlaw02.TapeKnown", spec := "tapeKnown", unfollowed := true, recurses := true, apart := false, narrowed := true }
def TapeKnownUptoSaid : Prop := tapeKnownUptoRow.holds Try.pinned (OpenSpec.upto tapeKnownSpec)

/-- 'wainscotlaw08.ZoneFull', WHERE WHAT IT READS IS OF BULK AT MOST 1048576: true; the input reads as it did. -/
def zoneFullUptoRow : OpenClaim := { program := "ytjkknjohmekeiaa", sum := "931f56dde2dc28ff92e4b819c94be7771459e4ec2098f11693641bc7273188b4", func := "wainscot/wainscotlaw08.ZoneFull", spec := "zoneFull", unfollowed := true, recurses := true, apart := false, narrowed := true }
def ZoneFullUptoSaid : Prop := zoneFullUptoRow.holds Try.pinned (OpenSpec.upto zoneFullSpec)

/-- 'wainscotlaw07.NearPlays', WHERE WHAT IT READS IS OF BULK AT MOST 1048576: true; the input reads as it did. -/
def nearPlaysUptoRow : OpenClaim := { program := "ytjkknjohmekeiaa", sum := "931f56dde2dc28ff92e4b819c94be7771459e4ec2098f11693641bc7273188b4", func := "wainscot/wainscotlaw07.NearPlays", spec := "nearPlays", unfollowed := true, recurses := true, apart := false, narrowed := true }
def NearPlaysUptoSaid : Prop := nearPlaysUptoRow.holds Try.pinned (OpenSpec.upto nearPlaysSpec)

/-- 'wainscotlaw07.NearOnce', WHERE WHAT IT READS IS OF BULK AT MOST 1048576: true; the input reads as it did. -/
def nearOnceUptoRow : OpenClaim := { program := "ytjkknjohmekeiaa", sum := "931f56dde2dc28ff92e4b819c94be7771459e4ec2098f11693641bc7273188b4", func := "wainscot/wainscotlaw07.NearOnce", spec := "nearOnce", unfollowed := true, recurses := true, apart := false, narrowed := true }
def NearOnceUptoSaid : Prop := nearOnceUptoRow.holds Try.pinned (OpenSpec.upto nearOnceSpec)

/-- 'wainscotlaw08.ZoneKnown', WHERE WHAT IT READS IS OF BULK AT MOST 1048576: true; the input reads as it did. -/
def zoneKnownUptoRow : OpenClaim := { program := "ytjkknjohmekeiaa", sum := "931f56dde2dc28ff92e4b819c94be7771459e4ec2098f11693641bc7273188b4", func := "wainscot/wainscotlaw08.ZoneKnown", spec := "zoneKnown", unfollowed := true, recurses := true, apart := false, narrowed := true }
def ZoneKnownUptoSaid : Prop := zoneKnownUptoRow.holds Try.pinned (OpenSpec.upto zoneKnownSpec)

/-- 'wainscotlaw07.NearLast', WHERE WHAT IT READS IS OF BULK AT MOST 1048576: true; the input reads as it did. -/
def nearLastUptoRow : OpenClaim := { program := "ytjkknjohmekeiaa", sum := "931f56dde2dc28ff92e4b819c94be7771459e4ec2098f11693641bc7273188b4", func := "wainscot/wainscotlaw07.NearLast", spec := "nearLast", unfollowed := true, recurses := true, apart := false, narrowed := true }
def NearLastUptoSaid : Prop := nearLastUptoRow.holds Try.pinned (OpenSpec.upto nearLastSpec)

/-- 'wainscotlaw07.NearKnown', WHERE WHAT IT READS IS OF BULK AT MOST 1048576: true; the input reads as it did. -/
def nearKnownUptoRow : OpenClaim := { program := "ytjkknjohmekeiaa", sum := "931f56dde2dc28ff92e4b819c94be7771459e4ec2098f11693641bc7273188b4", func := "wainscot/wainscotlaw07.NearKnown", spec := "nearKnown", unfollowed := true, recurses := true, apart := false, narrowed := true }
def NearKnownUptoSaid : Prop := nearKnownUptoRow.holds Try.pinned (OpenSpec.upto nearKnownSpec)

/-- 'wainscotlaw05.FrameStays', WHERE WHAT IT READS IS OF BULK AT MOST 1048576: true; the input reads as it did. -/
def frameStaysUptoRow : OpenClaim := { program := "ytjkknjohmekeiaa", sum := "931f56dde2dc28ff92e4b819c94be7771459e4ec2098f11693641bc7273188b4", func := "wainscot/wainscotlaw05.FrameStays", spec := "frameStays", unfollowed := true, recurses := true, apart := false, narrowed := true }
def FrameStaysUptoSaid : Prop := frameStaysUptoRow.holds Try.pinned (OpenSpec.upto frameStaysSpec)

/-- 'wainscotlaw05.FrameSum', WHERE WHAT IT READS IS OF BULK AT MOST 1048576: true; the input reads as it did. -/
def frameSumUptoRow : OpenClaim := { program := "ytjkknjohmekeiaa", sum := "931f56dde2dc28ff92e4b819c94be7771459e4ec2098f11693641bc7273188b4", func := "wainscot/wainscotlaw05.FrameSum", spec := "frameSum", unfollowed := true, recurses := true, apart := false, narrowed := true }
def FrameSumUptoSaid : Prop := frameSumUptoRow.holds Try.pinned (OpenSpec.upto frameSumSpec)

/-- 'wainscotlaw06.BuddyBack', WHERE WHAT IT READS IS OF BULK AT MOST 1048576: true; the input reads as it did. -/
def buddyBackUptoRow : OpenClaim := { program := "ytjkknjohmekeiaa", sum := "931f56dde2dc28ff92e4b819c94be7771459e4ec2098f11693641bc7273188b4", func := "wainscot/wainscotlaw06.BuddyBack", spec := "buddyBack", unfollowed := true, recurses := true, apart := false, narrowed := true }
def BuddyBackUptoSaid : Prop := buddyBackUptoRow.holds Try.pinned (OpenSpec.upto buddyBackSpec)

/-- 'wainscotlaw06.BuddyFull', WHERE WHAT IT READS IS OF BULK AT MOST 1048576: true; the input reads as it did. -/
def buddyFullUptoRow : OpenClaim := { program := "ytjkknjohmekeiaa", sum := "931f56dde2dc28ff92e4b819c94be7771459e4ec2098f11693641bc7273188b4", func := "wainscot/wainscotlaw06.BuddyFull", spec := "buddyFull", unfollowed := true, recurses := true, apart := false, narrowed := true }
def BuddyFullUptoSaid : Prop := buddyFullUptoRow.holds Try.pinned (OpenSpec.upto buddyFullSpec)

/-- 'wainscotlaw06.BuddyPlays', WHERE WHAT IT READS IS OF BULK AT MOST 1048576: true; the input reads as it did. -/
def buddyPlaysUptoRow : OpenClaim := { program := "ytjkknjohmekeiaa", sum := "931f56dde2dc28ff92e4b819c94be7771459e4ec2098f11693641bc7273188b4", func := "wainscot/wainscotlaw06.BuddyPlays", spec := "buddyPlays", unfollowed := true, recurses := true, apart := false, narrowed := true }
def BuddyPlaysUptoSaid : Prop := buddyPlaysUptoRow.holds Try.pinned (OpenSpec.upto buddyPlaysSpec)

/-- 'wainscotlaw06.BuddyKnown', WHERE WHAT IT READS IS OF BULK AT MOST 1048576: true; the input reads as it did. -/
def buddyKnownUptoRow : OpenClaim := { program := "ytjkknjohmekeiaa", sum := "931f56dde2dc28ff92e4b819c94be7771459e4ec2098f11693641bc7273188b4", func := "wainscot/wainscotlaw06.BuddyKnown", spec := "buddyKnown", unfollowed := true, recurses := true, apart := false, narrowed := true }
def BuddyKnownUptoSaid : Prop := buddyKnownUptoRow.holds Try.pinned (OpenSpec.upto buddyKnownSpec)

/-- 'wainscotlaw08.ZonePlays', WHERE WHAT IT READS IS OF BULK AT MOST 1048576: true; the input reads as it did. -/
def zonePlaysUptoRow : OpenClaim := { program := "ytjkknjohmekeiaa", sum := "931f56dde2dc28ff92e4b819c94be7771459e4ec2098f11693641bc7273188b4", func := "wainscot/wainscotlaw08.ZonePlays", spec := "zonePlays", unfollowed := true, recurses := true, apart := false, narrowed := true }
def ZonePlaysUptoSaid : Prop := zonePlaysUptoRow.holds Try.pinned (OpenSpec.upto zonePlaysSpec)

/-- 'wainscotlaw08.ZoneStands', WHERE WHAT IT READS IS OF BULK AT MOST 1048576: true; the input reads as it did. -/
def zoneStandsUptoRow : OpenClaim := { program := "ytjkknjohmekeiaa", sum := "931f56dde2dc28ff92e4b819c94be7771459e4ec2098f11693641bc7273188b4", func := "wainscot/wainscotlaw08.ZoneStands", spec := "zoneStands", unfollowed := true, recurses := true, apart := false, narrowed := true }
def ZoneStandsUptoSaid : Prop := zoneStandsUptoRow.holds Try.pinned (OpenSpec.upto zoneStandsSpec)

/-- 'wainscotlaw08.ZoneBack', WHERE WHAT IT READS IS OF BULK AT MOST 1048576: true; the input reads as it did. -/
def zoneBackUptoRow : OpenClaim := { program := "ytjkknjohmekeiaa", sum := "931f56dde2dc28ff92e4b819c94be7771459e4ec2098f11693641bc7273188b4", func := "wainscot/wainscotlaw08.ZoneBack", spec := "zoneBack", unfollowed := true, recurses := true, apart := false, narrowed := true }
def ZoneBackUptoSaid : Prop := zoneBackUptoRow.holds Try.pinned (OpenSpec.upto zoneBackSpec)

end Rows
end Go.Proofs.Ytjkknjohmekeiaa
