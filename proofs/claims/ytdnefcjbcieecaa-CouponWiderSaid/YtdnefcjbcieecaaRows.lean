/-
  No cell of these rows narrows 'for every input' (looked for: loops, veiled, ifaces, maps, wideKeys, modest, calm, conditions, laid).
  DERIVED. THE GIVEN ROWS OF THIS SEAT. 14 by the template 'for every input the law returns true; each argument reads behind the call as it read before'; 0 by the template 'total and deterministic' (their statements: YtdnefcjbcieecaaTotals.lean).
  GIVEN WITH THE SEED: the statements are not yours to turn. If you find one false, say at which input.
  Laid BY PROGRAM, IN A SANDBOX (cutbox-rows.mjs): the forced cells as the released guide's own fill.sh prints them over the translation 6e6754a44aef39bc… (all of the seat's roots in one cut). By AI agents, Wed Nov 11 2026. No macro, syntax, notation, axiom, sorry.
-/
import Derived.Test.YtdnefcjbcieecaaChecked
import GoSem.Claim
import GoSem.ClaimJoined
import GoSem.ClaimMapViews
import Derived.JoinedTies
import Derived.KernelRfl
namespace Go.Proofs.Ytdnefcjbcieecaa
/- THE CELL 'sum', in the pinned program and in every row, IS THE sha256 OF THE DUMP (.gsa) THAT YtdnefcjbcieecaaProg.lean LOADS. Nothing in Lean hashes anything: it is a label: what it is worth is what the hold of that sum in a sandbox is worth. -/
noncomputable def Try.pinned : Pinned := { name := "ytdnefcjbcieecaa", sum := "6e6754a44aef39bcf7f944698274846815b50fecaa006a834756a218dfd5d846", checked := Try.checked }
namespace Rows
def none {H : Type} : Left H := { results := [], args := [] }

/-- 'contangolaw07.CouponWhole': WHATEVER THE INPUT: true; the input reads as it did. -/
def couponWholeSpec : ChangeSpec := { name := "couponWhole", fn := fun _ => fun
  | [d1, d2, d3] => { results := [.lit (.bool true)], args := [d1, d2, d3] }
  | _ => none }
def couponWholeRow : OpenClaim := { program := "ytdnefcjbcieecaa", sum := "6e6754a44aef39bcf7f944698274846815b50fecaa006a834756a218dfd5d846", func := "contango/contangolaw07.CouponWhole", spec := "couponWhole", unfollowed := true, recurses := true, plainKeys := false, apart := false }
def CouponWholeSaid : Prop := couponWholeRow.holds Try.pinned (OpenSpec.ofChange couponWholeSpec)

/-- ITS FALSE NEIGHBOUR: 'it returns false'. Refute it at one input. -/
def couponWholeWrong : ChangeSpec := { name := "couponWhole", fn := fun _ => fun
  | [d1, d2, d3] => { results := [.lit (.bool false)], args := [d1, d2, d3] }
  | _ => none }
def CouponWholeWrongFalsely : Prop := couponWholeRow.holds Try.pinned (OpenSpec.ofChange couponWholeWrong)

/-- 'contangolaw07.CouponPays': WHATEVER THE INPUT: true; the input reads as it did. -/
def couponPaysSpec : ChangeSpec := { name := "couponPays", fn := fun _ => fun
  | [d1, d2, d3] => { results := [.lit (.bool true)], args := [d1, d2, d3] }
  | _ => none }
def couponPaysRow : OpenClaim := { program := "ytdnefcjbcieecaa", sum := "6e6754a44aef39bcf7f944698274846815b50fecaa006a834756a218dfd5d846", func := "contango/contangolaw07.CouponPays", spec := "couponPays", unfollowed := true, recurses := true, plainKeys := false, apart := false }
def CouponPaysSaid : Prop := couponPaysRow.holds Try.pinned (OpenSpec.ofChange couponPaysSpec)

/-- ITS FALSE NEIGHBOUR: 'it returns false'. Refute it at one input. -/
def couponPaysWrong : ChangeSpec := { name := "couponPays", fn := fun _ => fun
  | [d1, d2, d3] => { results := [.lit (.bool false)], args := [d1, d2, d3] }
  | _ => none }
def CouponPaysWrongFalsely : Prop := couponPaysRow.holds Try.pinned (OpenSpec.ofChange couponPaysWrong)

/-- 'contangolaw07.CouponBounds': WHATEVER THE INPUT: true; the input reads as it did. -/
def couponBoundsSpec : ChangeSpec := { name := "couponBounds", fn := fun _ => fun
  | [d1, d2] => { results := [.lit (.bool true)], args := [d1, d2] }
  | _ => none }
def couponBoundsRow : OpenClaim := { program := "ytdnefcjbcieecaa", sum := "6e6754a44aef39bcf7f944698274846815b50fecaa006a834756a218dfd5d846", func := "contango/contangolaw07.CouponBounds", spec := "couponBounds", unfollowed := true, recurses := true, plainKeys := false, apart := false }
def CouponBoundsSaid : Prop := couponBoundsRow.holds Try.pinned (OpenSpec.ofChange couponBoundsSpec)

/-- ITS FALSE NEIGHBOUR: 'it returns false'. Refute it at one input. -/
def couponBoundsWrong : ChangeSpec := { name := "couponBounds", fn := fun _ => fun
  | [d1, d2] => { results := [.lit (.bool false)], args := [d1, d2] }
  | _ => none }
def CouponBoundsWrongFalsely : Prop := couponBoundsRow.holds Try.pinned (OpenSpec.ofChange couponBoundsWrong)

/-- 'contangolaw07.CouponLeaves': WHATEVER THE INPUT: true; the input reads as it did. -/
def couponLeavesSpec : ChangeSpec := { name := "couponLeaves", fn := fun _ => fun
  | [d] => { results := [.lit (.bool true)], args := [d] }
  | _ => none }
def couponLeavesRow : OpenClaim := { program := "ytdnefcjbcieecaa", sum := "6e6754a44aef39bcf7f944698274846815b50fecaa006a834756a218dfd5d846", func := "contango/contangolaw07.CouponLeaves", spec := "couponLeaves", unfollowed := true, recurses := true, plainKeys := false, apart := false }
def CouponLeavesSaid : Prop := couponLeavesRow.holds Try.pinned (OpenSpec.ofChange couponLeavesSpec)

/-- ITS FALSE NEIGHBOUR: 'it returns false'. Refute it at one input. -/
def couponLeavesWrong : ChangeSpec := { name := "couponLeaves", fn := fun _ => fun
  | [d] => { results := [.lit (.bool false)], args := [d] }
  | _ => none }
def CouponLeavesWrongFalsely : Prop := couponLeavesRow.holds Try.pinned (OpenSpec.ofChange couponLeavesWrong)

/-- 'contangolaw07.CouponEnds': WHATEVER THE INPUT: true; the input reads as it did. -/
def couponEndsSpec : ChangeSpec := { name := "couponEnds", fn := fun _ => fun
  | [d1, d2, d3, d4, d5, d6] => { results := [.lit (.bool true)], args := [d1, d2, d3, d4, d5, d6] }
  | _ => none }
def couponEndsRow : OpenClaim := { program := "ytdnefcjbcieecaa", sum := "6e6754a44aef39bcf7f944698274846815b50fecaa006a834756a218dfd5d846", func := "contango/contangolaw07.CouponEnds", spec := "couponEnds", unfollowed := true, recurses := true, plainKeys := false, apart := false }
def CouponEndsSaid : Prop := couponEndsRow.holds Try.pinned (OpenSpec.ofChange couponEndsSpec)

/-- ITS FALSE NEIGHBOUR: 'it returns false'. Refute it at one input. -/
def couponEndsWrong : ChangeSpec := { name := "couponEnds", fn := fun _ => fun
  | [d1, d2, d3, d4, d5, d6] => { results := [.lit (.bool false)], args := [d1, d2, d3, d4, d5, d6] }
  | _ => none }
def CouponEndsWrongFalsely : Prop := couponEndsRow.holds Try.pinned (OpenSpec.ofChange couponEndsWrong)

/-- 'contangolaw07.CouponClosed': WHATEVER THE INPUT: true; the input reads as it did. -/
def couponClosedSpec : ChangeSpec := { name := "couponClosed", fn := fun _ => fun
  | [d1, d2, d3, d4, d5] => { results := [.lit (.bool true)], args := [d1, d2, d3, d4, d5] }
  | _ => none }
def couponClosedRow : OpenClaim := { program := "ytdnefcjbcieecaa", sum := "6e6754a44aef39bcf7f944698274846815b50fecaa006a834756a218dfd5d846", func := "contango/contangolaw07.CouponClosed", spec := "couponClosed", unfollowed := true, recurses := true, plainKeys := false, apart := false }
def CouponClosedSaid : Prop := couponClosedRow.holds Try.pinned (OpenSpec.ofChange couponClosedSpec)

/-- ITS FALSE NEIGHBOUR: 'it returns false'. Refute it at one input. -/
def couponClosedWrong : ChangeSpec := { name := "couponClosed", fn := fun _ => fun
  | [d1, d2, d3, d4, d5] => { results := [.lit (.bool false)], args := [d1, d2, d3, d4, d5] }
  | _ => none }
def CouponClosedWrongFalsely : Prop := couponClosedRow.holds Try.pinned (OpenSpec.ofChange couponClosedWrong)

/-- 'contangolaw07.CouponUnits': WHATEVER THE INPUT: true; the input reads as it did. -/
def couponUnitsSpec : ChangeSpec := { name := "couponUnits", fn := fun _ => fun
  | [d1, d2, d3, d4, d5, d6] => { results := [.lit (.bool true)], args := [d1, d2, d3, d4, d5, d6] }
  | _ => none }
def couponUnitsRow : OpenClaim := { program := "ytdnefcjbcieecaa", sum := "6e6754a44aef39bcf7f944698274846815b50fecaa006a834756a218dfd5d846", func := "contango/contangolaw07.CouponUnits", spec := "couponUnits", unfollowed := true, recurses := true, plainKeys := false, apart := false }
def CouponUnitsSaid : Prop := couponUnitsRow.holds Try.pinned (OpenSpec.ofChange couponUnitsSpec)

/-- ITS FALSE NEIGHBOUR: 'it returns false'. Refute it at one input. -/
def couponUnitsWrong : ChangeSpec := { name := "couponUnits", fn := fun _ => fun
  | [d1, d2, d3, d4, d5, d6] => { results := [.lit (.bool false)], args := [d1, d2, d3, d4, d5, d6] }
  | _ => none }
def CouponUnitsWrongFalsely : Prop := couponUnitsRow.holds Try.pinned (OpenSpec.ofChange couponUnitsWrong)

/-- 'contangolaw07.CouponLeft': WHATEVER THE INPUT: true; the input reads as it did. -/
def couponLeftSpec : ChangeSpec := { name := "couponLeft", fn := fun _ => fun
  | [d1, d2] => { results := [.lit (.bool true)], args := [d1, d2] }
  | _ => none }
def couponLeftRow : OpenClaim := { program := "ytdnefcjbcieecaa", sum := "6e6754a44aef39bcf7f944698274846815b50fecaa006a834756a218dfd5d846", func := "contango/contangolaw07.CouponLeft", spec := "couponLeft", unfollowed := true, recurses := true, plainKeys := false, apart := false }
def CouponLeftSaid : Prop := couponLeftRow.holds Try.pinned (OpenSpec.ofChange couponLeftSpec)

/-- ITS FALSE NEIGHBOUR: 'it returns false'. Refute it at one input. -/
def couponLeftWrong : ChangeSpec := { name := "couponLeft", fn := fun _ => fun
  | [d1, d2] => { results := [.lit (.bool false)], args := [d1, d2] }
  | _ => none }
def CouponLeftWrongFalsely : Prop := couponLeftRow.holds Try.pinned (OpenSpec.ofChange couponLeftWrong)

/-- 'contangolaw07.CouponNone': WHATEVER THE INPUT: true; the input reads as it did. -/
def couponNoneSpec : ChangeSpec := { name := "couponNone", fn := fun _ => fun
  | [d1, d2, d3, d4] => { results := [.lit (.bool true)], args := [d1, d2, d3, d4] }
  | _ => none }
def couponNoneRow : OpenClaim := { program := "ytdnefcjbcieecaa", sum := "6e6754a44aef39bcf7f944698274846815b50fecaa006a834756a218dfd5d846", func := "contango/contangolaw07.CouponNone", spec := "couponNone", unfollowed := true, recurses := true, plainKeys := false, apart := false }
def CouponNoneSaid : Prop := couponNoneRow.holds Try.pinned (OpenSpec.ofChange couponNoneSpec)

/-- ITS FALSE NEIGHBOUR: 'it returns false'. Refute it at one input. -/
def couponNoneWrong : ChangeSpec := { name := "couponNone", fn := fun _ => fun
  | [d1, d2, d3, d4] => { results := [.lit (.bool false)], args := [d1, d2, d3, d4] }
  | _ => none }
def CouponNoneWrongFalsely : Prop := couponNoneRow.holds Try.pinned (OpenSpec.ofChange couponNoneWrong)

/-- 'contangolaw07.CouponLater': WHATEVER THE INPUT: true; the input reads as it did. -/
def couponLaterSpec : ChangeSpec := { name := "couponLater", fn := fun _ => fun
  | [d1, d2, d3, d4] => { results := [.lit (.bool true)], args := [d1, d2, d3, d4] }
  | _ => none }
def couponLaterRow : OpenClaim := { program := "ytdnefcjbcieecaa", sum := "6e6754a44aef39bcf7f944698274846815b50fecaa006a834756a218dfd5d846", func := "contango/contangolaw07.CouponLater", spec := "couponLater", unfollowed := true, recurses := true, plainKeys := false, apart := false }
def CouponLaterSaid : Prop := couponLaterRow.holds Try.pinned (OpenSpec.ofChange couponLaterSpec)

/-- ITS FALSE NEIGHBOUR: 'it returns false'. Refute it at one input. -/
def couponLaterWrong : ChangeSpec := { name := "couponLater", fn := fun _ => fun
  | [d1, d2, d3, d4] => { results := [.lit (.bool false)], args := [d1, d2, d3, d4] }
  | _ => none }
def CouponLaterWrongFalsely : Prop := couponLaterRow.holds Try.pinned (OpenSpec.ofChange couponLaterWrong)

/-- 'contangolaw07.CouponRegisters': WHATEVER THE INPUT: true; the input reads as it did. -/
def couponRegistersSpec : ChangeSpec := { name := "couponRegisters", fn := fun _ => fun
  | [d1, d2, d3] => { results := [.lit (.bool true)], args := [d1, d2, d3] }
  | _ => none }
def couponRegistersRow : OpenClaim := { program := "ytdnefcjbcieecaa", sum := "6e6754a44aef39bcf7f944698274846815b50fecaa006a834756a218dfd5d846", func := "contango/contangolaw07.CouponRegisters", spec := "couponRegisters", unfollowed := true, recurses := true, plainKeys := false, apart := false }
def CouponRegistersSaid : Prop := couponRegistersRow.holds Try.pinned (OpenSpec.ofChange couponRegistersSpec)

/-- ITS FALSE NEIGHBOUR: 'it returns false'. Refute it at one input. -/
def couponRegistersWrong : ChangeSpec := { name := "couponRegisters", fn := fun _ => fun
  | [d1, d2, d3] => { results := [.lit (.bool false)], args := [d1, d2, d3] }
  | _ => none }
def CouponRegistersWrongFalsely : Prop := couponRegistersRow.holds Try.pinned (OpenSpec.ofChange couponRegistersWrong)

/-- 'contangolaw07.CouponNames': WHATEVER THE INPUT: true; the input reads as it did. -/
def couponNamesSpec : ChangeSpec := { name := "couponNames", fn := fun _ => fun
  | [] => { results := [.lit (.bool true)], args := [] }
  | _ => none }
def couponNamesRow : OpenClaim := { program := "ytdnefcjbcieecaa", sum := "6e6754a44aef39bcf7f944698274846815b50fecaa006a834756a218dfd5d846", func := "contango/contangolaw07.CouponNames", spec := "couponNames", unfollowed := true, recurses := true, plainKeys := false, apart := false }
def CouponNamesSaid : Prop := couponNamesRow.holds Try.pinned (OpenSpec.ofChange couponNamesSpec)

/-- ITS FALSE NEIGHBOUR: 'it returns false'. Refute it at one input. -/
def couponNamesWrong : ChangeSpec := { name := "couponNames", fn := fun _ => fun
  | [] => { results := [.lit (.bool false)], args := [] }
  | _ => none }
def CouponNamesWrongFalsely : Prop := couponNamesRow.holds Try.pinned (OpenSpec.ofChange couponNamesWrong)

/-- 'contangolaw07.CouponTruth': WHATEVER THE INPUT: true; the input reads as it did. -/
def couponTruthSpec : ChangeSpec := { name := "couponTruth", fn := fun _ => fun
  | [d1, d2, d3, d4] => { results := [.lit (.bool true)], args := [d1, d2, d3, d4] }
  | _ => none }
def couponTruthRow : OpenClaim := { program := "ytdnefcjbcieecaa", sum := "6e6754a44aef39bcf7f944698274846815b50fecaa006a834756a218dfd5d846", func := "contango/contangolaw07.CouponTruth", spec := "couponTruth", unfollowed := true, recurses := true, plainKeys := false, apart := false }
def CouponTruthSaid : Prop := couponTruthRow.holds Try.pinned (OpenSpec.ofChange couponTruthSpec)

/-- ITS FALSE NEIGHBOUR: 'it returns false'. Refute it at one input. -/
def couponTruthWrong : ChangeSpec := { name := "couponTruth", fn := fun _ => fun
  | [d1, d2, d3, d4] => { results := [.lit (.bool false)], args := [d1, d2, d3, d4] }
  | _ => none }
def CouponTruthWrongFalsely : Prop := couponTruthRow.holds Try.pinned (OpenSpec.ofChange couponTruthWrong)

/-- 'contangolaw07.CouponWider': WHATEVER THE INPUT: true; the input reads as it did. -/
def couponWiderSpec : ChangeSpec := { name := "couponWider", fn := fun _ => fun
  | [d1, d2, d3, d4, d5, d6, d7, d8] => { results := [.lit (.bool true)], args := [d1, d2, d3, d4, d5, d6, d7, d8] }
  | _ => none }
def couponWiderRow : OpenClaim := { program := "ytdnefcjbcieecaa", sum := "6e6754a44aef39bcf7f944698274846815b50fecaa006a834756a218dfd5d846", func := "contango/contangolaw07.CouponWider", spec := "couponWider", unfollowed := true, recurses := true, plainKeys := false, apart := false }
def CouponWiderSaid : Prop := couponWiderRow.holds Try.pinned (OpenSpec.ofChange couponWiderSpec)

/-- ITS FALSE NEIGHBOUR: 'it returns false'. Refute it at one input. -/
def couponWiderWrong : ChangeSpec := { name := "couponWider", fn := fun _ => fun
  | [d1, d2, d3, d4, d5, d6, d7, d8] => { results := [.lit (.bool false)], args := [d1, d2, d3, d4, d5, d6, d7, d8] }
  | _ => none }
def CouponWiderWrongFalsely : Prop := couponWiderRow.holds Try.pinned (OpenSpec.ofChange couponWiderWrong)

/- THE SECOND FORM. 'bulk': how many values and letters a reading holds, each counted each time it is reached (what is shared counts as often as it is met; a slice's spare places count too). A statement '..UptoSaid' is the law's where the arguments, and the package variables that the reading takes, are together of bulk at most 1048576: NARROWER than '..Said'. Prove '..Said' where nothing that the law and all that it calls make is longer than what came in: it says more and counts as full. Else prove '..UptoSaid'. A law counts once. -/
mutual
def uptoBulk {H : Type} : DataW H → Nat
  | .lit (.string bytes) => bytes.length + 1
  | .lit _ => 1
  | .nil => 1
  | .ptr d => uptoBulk d + 1
  | .slice elems spare => uptoBulkAll elems + uptoBulkAll spare + 1
  | .agg parts => uptoBulkAll parts + 1
  | .iface _ d => uptoBulk d + 1
  | .map entries => uptoBulkEntries entries + 1
  | .held _ => 1
def uptoBulkAll {H : Type} : List (DataW H) → Nat
  | [] => 0
  | d :: r => uptoBulk d + uptoBulkAll r
def uptoBulkEntries {H : Type} : List (Lit × DataW H) → Nat
  | [] => 0
  | x :: r => uptoBulkEntry x + uptoBulkEntries r
def uptoBulkEntry {H : Type} : Lit × DataW H → Nat
  | (.string bytes, d) => bytes.length + uptoBulk d + 1
  | (_, d) => uptoBulk d + 1
 end
def uptoSmall : (H : Type) → List (DataW H) → Bool := fun _ ds => decide (uptoBulkAll ds ≤ 1048576)
def OpenSpec.upto (s : _root_.Go.ChangeSpec) : _root_.Go.OpenSpec := { _root_.Go.OpenSpec.ofChange s with cond := some uptoSmall }

/-- 'contangolaw07.CouponWhole', WHERE WHAT IT READS IS OF BULK AT MOST 1048576: true; the input reads as it did. -/
def couponWholeUptoRow : OpenClaim := { program := "ytdnefcjbcieecaa", sum := "6e6754a44aef39bcf7f944698274846815b50fecaa006a834756a218dfd5d846", func := "contango/contangolaw07.CouponWhole", spec := "couponWhole", unfollowed := true, recurses := true, plainKeys := false, apart := false, narrowed := true }
def CouponWholeUptoSaid : Prop := couponWholeUptoRow.holds Try.pinned (OpenSpec.upto couponWholeSpec)

/-- 'contangolaw07.CouponPays', WHERE WHAT IT READS IS OF BULK AT MOST 1048576: true; the input reads as it did. -/
def couponPaysUptoRow : OpenClaim := { program := "ytdnefcjbcieecaa", sum := "6e6754a44aef39bcf7f944698274846815b50fecaa006a834756a218dfd5d846", func := "contango/contangolaw07.CouponPays", spec := "couponPays", unfollowed := true, recurses := true, plainKeys := false, apart := false, narrowed := true }
def CouponPaysUptoSaid : Prop := couponPaysUptoRow.holds Try.pinned (OpenSpec.upto couponPaysSpec)

/-- 'contangolaw07.CouponBounds', WHERE WHAT IT READS IS OF BULK AT MOST 1048576: true; the input reads as it did. -/
def couponBoundsUptoRow : OpenClaim := { program := "ytdnefcjbcieecaa", sum := "6e6754a44aef39bcf7f944698274846815b50fecaa006a834756a218dfd5d846", func := "contango/contangolaw07.CouponBounds", spec := "couponBounds", unfollowed := true, recurses := true, plainKeys := false, apart := false, narrowed := true }
def CouponBoundsUptoSaid : Prop := couponBoundsUptoRow.holds Try.pinned (OpenSpec.upto couponBoundsSpec)

/-- 'contangolaw07.CouponLeaves', WHERE WHAT IT READS IS OF BULK AT MOST 1048576: true; the input reads as it did. -/
def couponLeavesUptoRow : OpenClaim := { program := "ytdnefcjbcieecaa", sum := "6e6754a44aef39bcf7f944698274846815b50fecaa006a834756a218dfd5d846", func := "contango/contangolaw07.CouponLeaves", spec := "couponLeaves", unfollowed := true, recurses := true, plainKeys := false, apart := false, narrowed := true }
def CouponLeavesUptoSaid : Prop := couponLeavesUptoRow.holds Try.pinned (OpenSpec.upto couponLeavesSpec)

/-- 'contangolaw07.CouponEnds', WHERE WHAT IT READS IS OF BULK AT MOST 1048576: true; the input reads as it did. -/
def couponEndsUptoRow : OpenClaim := { program := "ytdnefcjbcieecaa", sum := "6e6754a44aef39bcf7f944698274846815b50fecaa006a834756a218dfd5d846", func := "contango/contangolaw07.CouponEnds", spec := "couponEnds", unfollowed := true, recurses := true, plainKeys := false, apart := false, narrowed := true }
def CouponEndsUptoSaid : Prop := couponEndsUptoRow.holds Try.pinned (OpenSpec.upto couponEndsSpec)

/-- 'contangolaw07.CouponClosed', WHERE WHAT IT READS IS OF BULK AT MOST 1048576: true; the input reads as it did. -/
def couponClosedUptoRow : OpenClaim := { program := "ytdnefcjbcieecaa", sum := "6e6754a44aef39bcf7f944698274846815b50fecaa006a834756a218dfd5d846", func := "contango/contangolaw07.CouponClosed", spec := "couponClosed", unfollowed := true, recurses := true, plainKeys := false, apart := false, narrowed := true }
def CouponClosedUptoSaid : Prop := couponClosedUptoRow.holds Try.pinned (OpenSpec.upto couponClosedSpec)

/-- 'contangolaw07.CouponUnits', WHERE WHAT IT READS IS OF BULK AT MOST 1048576: true; the input reads as it did. -/
def couponUnitsUptoRow : OpenClaim := { program := "ytdnefcjbcieecaa", sum := "6e6754a44aef39bcf7f944698274846815b50fecaa006a834756a218dfd5d846", func := "contango/contangolaw07.CouponUnits", spec := "couponUnits", unfollowed := true, recurses := true, plainKeys := false, apart := false, narrowed := true }
def CouponUnitsUptoSaid : Prop := couponUnitsUptoRow.holds Try.pinned (OpenSpec.upto couponUnitsSpec)

/-- 'contangolaw07.CouponLeft', WHERE WHAT IT READS IS OF BULK AT MOST 1048576: true; the input reads as it did. -/
def couponLeftUptoRow : OpenClaim := { program := "ytdnefcjbcieecaa", sum := "6e6754a44aef39bcf7f944698274846815b50fecaa006a834756a218dfd5d846", func := "contango/contangolaw07.CouponLeft", spec := "couponLeft", unfollowed := true, recurses := true, plainKeys := false, apart := false, narrowed := true }
def CouponLeftUptoSaid : Prop := couponLeftUptoRow.holds Try.pinned (OpenSpec.upto couponLeftSpec)

/-- 'contangolaw07.CouponNone', WHERE WHAT IT READS IS OF BULK AT MOST 1048576: true; the input reads as it did. -/
def couponNoneUptoRow : OpenClaim := { program := "ytdnefcjbcieecaa", sum := "6e6754a44aef39bcf7f944698274846815b50fecaa006a834756a218dfd5d846", func := "contango/contangolaw07.CouponNone", spec := "couponNone", unfollowed := true, recurses := true, plainKeys := false, apart := false, narrowed := true }
def CouponNoneUptoSaid : Prop := couponNoneUptoRow.holds Try.pinned (OpenSpec.upto couponNoneSpec)

/-- 'contangolaw07.CouponLater', WHERE WHAT IT READS IS OF BULK AT MOST 1048576: true; the input reads as it did. -/
def couponLaterUptoRow : OpenClaim := { program := "ytdnefcjbcieecaa", sum := "6e6754a44aef39bcf7f944698274846815b50fecaa006a834756a218dfd5d846", func := "contango/contangolaw07.CouponLater", spec := "couponLater", unfollowed := true, recurses := true, plainKeys := false, apart := false, narrowed := true }
def CouponLaterUptoSaid : Prop := couponLaterUptoRow.holds Try.pinned (OpenSpec.upto couponLaterSpec)

/-- 'contangolaw07.CouponRegisters', WHERE WHAT IT READS IS OF BULK AT MOST 1048576: true; the input reads as it did. -/
def couponRegistersUptoRow : OpenClaim := { program := "ytdnefcjbcieecaa", sum := "6e6754a44aef39bcf7f944698274846815b50fecaa006a834756a218dfd5d846", func := "contango/contangolaw07.CouponRegisters", spec := "couponRegisters", unfollowed := true, recurses := true, plainKeys := false, apart := false, narrowed := true }
def CouponRegistersUptoSaid : Prop := couponRegistersUptoRow.holds Try.pinned (OpenSpec.upto couponRegistersSpec)

/-- 'contangolaw07.CouponNames', WHERE WHAT IT READS IS OF BULK AT MOST 1048576: true; the input reads as it did. -/
def couponNamesUptoRow : OpenClaim := { program := "ytdnefcjbcieecaa", sum := "6e6754a44aef39bcf7f944698274846815b50fecaa006a834756a218dfd5d846", func := "contango/contangolaw07.CouponNames", spec := "couponNames", unfollowed := true, recurses := true, plainKeys := false, apart := false, narrowed := true }
def CouponNamesUptoSaid : Prop := couponNamesUptoRow.holds Try.pinned (OpenSpec.upto couponNamesSpec)

/-- 'contangolaw07.CouponTruth', WHERE WHAT IT READS IS OF BULK AT MOST 1048576: true; the input reads as it did. -/
def couponTruthUptoRow : OpenClaim := { program := "ytdnefcjbcieecaa", sum := "6e6754a44aef39bcf7f944698274846815b50fecaa006a834756a218dfd5d846", func := "contango/contangolaw07.CouponTruth", spec := "couponTruth", unfollowed := true, recurses := true, plainKeys := false, apart := false, narrowed := true }
def CouponTruthUptoSaid : Prop := couponTruthUptoRow.holds Try.pinned (OpenSpec.upto couponTruthSpec)

/-- 'contangolaw07.CouponWider', WHERE WHAT IT READS IS OF BULK AT MOST 1048576: true; the input reads as it did. -/
def couponWiderUptoRow : OpenClaim := { program := "ytdnefcjbcieecaa", sum := "6e6754a44aef39bcf7f944698274846815b50fecaa006a834756a218dfd5d846", func := "contango/contangolaw07.CouponWider", spec := "couponWider", unfollowed := true, recurses := true, plainKeys := false, apart := false, narrowed := true }
def CouponWiderUptoSaid : Prop := couponWiderUptoRow.holds Try.pinned (OpenSpec.upto couponWiderSpec)

end Rows
end Go.Proofs.Ytdnefcjbcieecaa
