/-
  No cell of these rows narrows 'for every input' (looked for: loops, veiled, ifaces, maps, wideKeys, modest, calm, conditions, laid).
  DERIVED. THE GIVEN ROWS OF THIS SEAT. 11 by the template 'for every input the law returns true; each argument reads behind the call as it read before'; 0 by the template 'total and deterministic' (their statements: YtoonnlphfanmhaaTotals.lean).
  GIVEN WITH THE SEED: the statements are not yours to turn. If you find one false, say at which input.
  Laid BY PROGRAM, IN A SANDBOX (cutbox-rows.mjs): the forced cells as the released guide's own fill.sh prints them over the translation edbc84f7a65b9e9d… (all of the seat's roots in one cut). By AI agents, Wed Nov 11 2026. No macro, syntax, notation, axiom, sorry.
-/
import Derived.Test.YtoonnlphfanmhaaChecked
import GoSem.Claim
import GoSem.ClaimJoined
import GoSem.ClaimMapViews
import Derived.JoinedTies
import Derived.KernelRfl
namespace Go.Proofs.Ytoonnlphfanmhaa
/- THE CELL 'sum', in the pinned program and in every row, IS THE sha256 OF THE DUMP (.gsa) THAT YtoonnlphfanmhaaProg.lean LOADS. Nothing in Lean hashes anything: it is a label: what it is worth is what the hold of that sum in a sandbox is worth. -/
noncomputable def Try.pinned : Pinned := { name := "ytoonnlphfanmhaa", sum := "edbc84f7a65b9e9d72b7fbec10602e4affc849a63f6b88910d732c23e498999e", checked := Try.checked }
namespace Rows
def none {H : Type} : Left H := { results := [], args := [] }

/-- 'easellaw01.BitsBack': WHATEVER THE INPUT: true; the input reads as it did. -/
def bitsBackSpec : ChangeSpec := { name := "bitsBack", fn := fun _ => fun
  | [d1, d2] => { results := [.lit (.bool true)], args := [d1, d2] }
  | _ => none }
def bitsBackRow : OpenClaim := { program := "ytoonnlphfanmhaa", sum := "edbc84f7a65b9e9d72b7fbec10602e4affc849a63f6b88910d732c23e498999e", func := "easel/easellaw01.BitsBack", spec := "bitsBack", unfollowed := true, recurses := true, apart := false }
def BitsBackSaid : Prop := bitsBackRow.holds Try.pinned (OpenSpec.ofChange bitsBackSpec)

/-- ITS FALSE NEIGHBOUR: 'it returns false'. Refute it at one input. -/
def bitsBackWrong : ChangeSpec := { name := "bitsBack", fn := fun _ => fun
  | [d1, d2] => { results := [.lit (.bool false)], args := [d1, d2] }
  | _ => none }
def BitsBackWrongFalsely : Prop := bitsBackRow.holds Try.pinned (OpenSpec.ofChange bitsBackWrong)

/-- 'easellaw01.BitsNone': WHATEVER THE INPUT: true; the input reads as it did. -/
def bitsNoneSpec : ChangeSpec := { name := "bitsNone", fn := fun _ => fun
  | [d1, d2, d3] => { results := [.lit (.bool true)], args := [d1, d2, d3] }
  | _ => none }
def bitsNoneRow : OpenClaim := { program := "ytoonnlphfanmhaa", sum := "edbc84f7a65b9e9d72b7fbec10602e4affc849a63f6b88910d732c23e498999e", func := "easel/easellaw01.BitsNone", spec := "bitsNone", unfollowed := true, recurses := true, apart := false }
def BitsNoneSaid : Prop := bitsNoneRow.holds Try.pinned (OpenSpec.ofChange bitsNoneSpec)

/-- ITS FALSE NEIGHBOUR: 'it returns false'. Refute it at one input. -/
def bitsNoneWrong : ChangeSpec := { name := "bitsNone", fn := fun _ => fun
  | [d1, d2, d3] => { results := [.lit (.bool false)], args := [d1, d2, d3] }
  | _ => none }
def BitsNoneWrongFalsely : Prop := bitsNoneRow.holds Try.pinned (OpenSpec.ofChange bitsNoneWrong)

/-- 'easellaw01.BitsKnown': WHATEVER THE INPUT: true; the input reads as it did. -/
def bitsKnownSpec : ChangeSpec := { name := "bitsKnown", fn := fun _ => fun
  | [] => { results := [.lit (.bool true)], args := [] }
  | _ => none }
def bitsKnownRow : OpenClaim := { program := "ytoonnlphfanmhaa", sum := "edbc84f7a65b9e9d72b7fbec10602e4affc849a63f6b88910d732c23e498999e", func := "easel/easellaw01.BitsKnown", spec := "bitsKnown", unfollowed := true, recurses := true, apart := false }
def BitsKnownSaid : Prop := bitsKnownRow.holds Try.pinned (OpenSpec.ofChange bitsKnownSpec)

/-- ITS FALSE NEIGHBOUR: 'it returns false'. Refute it at one input. -/
def bitsKnownWrong : ChangeSpec := { name := "bitsKnown", fn := fun _ => fun
  | [] => { results := [.lit (.bool false)], args := [] }
  | _ => none }
def BitsKnownWrongFalsely : Prop := bitsKnownRow.holds Try.pinned (OpenSpec.ofChange bitsKnownWrong)

/-- 'easellaw03.ExtReads': WHATEVER THE INPUT: true; the input reads as it did. -/
def extReadsSpec : ChangeSpec := { name := "extReads", fn := fun _ => fun
  | [d1, d2] => { results := [.lit (.bool true)], args := [d1, d2] }
  | _ => none }
def extReadsRow : OpenClaim := { program := "ytoonnlphfanmhaa", sum := "edbc84f7a65b9e9d72b7fbec10602e4affc849a63f6b88910d732c23e498999e", func := "easel/easellaw03.ExtReads", spec := "extReads", unfollowed := true, recurses := true, apart := false }
def ExtReadsSaid : Prop := extReadsRow.holds Try.pinned (OpenSpec.ofChange extReadsSpec)

/-- ITS FALSE NEIGHBOUR: 'it returns false'. Refute it at one input. -/
def extReadsWrong : ChangeSpec := { name := "extReads", fn := fun _ => fun
  | [d1, d2] => { results := [.lit (.bool false)], args := [d1, d2] }
  | _ => none }
def ExtReadsWrongFalsely : Prop := extReadsRow.holds Try.pinned (OpenSpec.ofChange extReadsWrong)

/-- 'easellaw03.ExtBack': WHATEVER THE INPUT: true; the input reads as it did. -/
def extBackSpec : ChangeSpec := { name := "extBack", fn := fun _ => fun
  | [d1, d2, d3] => { results := [.lit (.bool true)], args := [d1, d2, d3] }
  | _ => none }
def extBackRow : OpenClaim := { program := "ytoonnlphfanmhaa", sum := "edbc84f7a65b9e9d72b7fbec10602e4affc849a63f6b88910d732c23e498999e", func := "easel/easellaw03.ExtBack", spec := "extBack", unfollowed := true, recurses := true, apart := false }
def ExtBackSaid : Prop := extBackRow.holds Try.pinned (OpenSpec.ofChange extBackSpec)

/-- ITS FALSE NEIGHBOUR: 'it returns false'. Refute it at one input. -/
def extBackWrong : ChangeSpec := { name := "extBack", fn := fun _ => fun
  | [d1, d2, d3] => { results := [.lit (.bool false)], args := [d1, d2, d3] }
  | _ => none }
def ExtBackWrongFalsely : Prop := extBackRow.holds Try.pinned (OpenSpec.ofChange extBackWrong)

/-- 'easellaw03.ExtPuts': WHATEVER THE INPUT: true; the input reads as it did. -/
def extPutsSpec : ChangeSpec := { name := "extPuts", fn := fun _ => fun
  | [d1, d2, d3] => { results := [.lit (.bool true)], args := [d1, d2, d3] }
  | _ => none }
def extPutsRow : OpenClaim := { program := "ytoonnlphfanmhaa", sum := "edbc84f7a65b9e9d72b7fbec10602e4affc849a63f6b88910d732c23e498999e", func := "easel/easellaw03.ExtPuts", spec := "extPuts", unfollowed := true, recurses := true, apart := false }
def ExtPutsSaid : Prop := extPutsRow.holds Try.pinned (OpenSpec.ofChange extPutsSpec)

/-- ITS FALSE NEIGHBOUR: 'it returns false'. Refute it at one input. -/
def extPutsWrong : ChangeSpec := { name := "extPuts", fn := fun _ => fun
  | [d1, d2, d3] => { results := [.lit (.bool false)], args := [d1, d2, d3] }
  | _ => none }
def ExtPutsWrongFalsely : Prop := extPutsRow.holds Try.pinned (OpenSpec.ofChange extPutsWrong)

/-- 'easellaw03.ExtKnown': WHATEVER THE INPUT: true; the input reads as it did. -/
def extKnownSpec : ChangeSpec := { name := "extKnown", fn := fun _ => fun
  | [] => { results := [.lit (.bool true)], args := [] }
  | _ => none }
def extKnownRow : OpenClaim := { program := "ytoonnlphfanmhaa", sum := "edbc84f7a65b9e9d72b7fbec10602e4affc849a63f6b88910d732c23e498999e", func := "easel/easellaw03.ExtKnown", spec := "extKnown", unfollowed := true, recurses := true, apart := false }
def ExtKnownSaid : Prop := extKnownRow.holds Try.pinned (OpenSpec.ofChange extKnownSpec)

/-- ITS FALSE NEIGHBOUR: 'it returns false'. Refute it at one input. -/
def extKnownWrong : ChangeSpec := { name := "extKnown", fn := fun _ => fun
  | [] => { results := [.lit (.bool false)], args := [] }
  | _ => none }
def ExtKnownWrongFalsely : Prop := extKnownRow.holds Try.pinned (OpenSpec.ofChange extKnownWrong)

/-- 'easellaw05.Vp8Reads': WHATEVER THE INPUT: true; the input reads as it did. -/
def vp8ReadsSpec : ChangeSpec := { name := "vp8Reads", fn := fun _ => fun
  | [d] => { results := [.lit (.bool true)], args := [d] }
  | _ => none }
def vp8ReadsRow : OpenClaim := { program := "ytoonnlphfanmhaa", sum := "edbc84f7a65b9e9d72b7fbec10602e4affc849a63f6b88910d732c23e498999e", func := "easel/easellaw05.Vp8Reads", spec := "vp8Reads", unfollowed := true, recurses := true, apart := false }
def Vp8ReadsSaid : Prop := vp8ReadsRow.holds Try.pinned (OpenSpec.ofChange vp8ReadsSpec)

/-- ITS FALSE NEIGHBOUR: 'it returns false'. Refute it at one input. -/
def vp8ReadsWrong : ChangeSpec := { name := "vp8Reads", fn := fun _ => fun
  | [d] => { results := [.lit (.bool false)], args := [d] }
  | _ => none }
def Vp8ReadsWrongFalsely : Prop := vp8ReadsRow.holds Try.pinned (OpenSpec.ofChange vp8ReadsWrong)

/-- 'easellaw05.Vp8Puts': WHATEVER THE INPUT: true; the input reads as it did. -/
def vp8PutsSpec : ChangeSpec := { name := "vp8Puts", fn := fun _ => fun
  | [d1, d2, d3, d4, d5, d6] => { results := [.lit (.bool true)], args := [d1, d2, d3, d4, d5, d6] }
  | _ => none }
def vp8PutsRow : OpenClaim := { program := "ytoonnlphfanmhaa", sum := "edbc84f7a65b9e9d72b7fbec10602e4affc849a63f6b88910d732c23e498999e", func := "easel/easellaw05.Vp8Puts", spec := "vp8Puts", unfollowed := true, recurses := true, apart := false }
def Vp8PutsSaid : Prop := vp8PutsRow.holds Try.pinned (OpenSpec.ofChange vp8PutsSpec)

/-- ITS FALSE NEIGHBOUR: 'it returns false'. Refute it at one input. -/
def vp8PutsWrong : ChangeSpec := { name := "vp8Puts", fn := fun _ => fun
  | [d1, d2, d3, d4, d5, d6] => { results := [.lit (.bool false)], args := [d1, d2, d3, d4, d5, d6] }
  | _ => none }
def Vp8PutsWrongFalsely : Prop := vp8PutsRow.holds Try.pinned (OpenSpec.ofChange vp8PutsWrong)

/-- 'easellaw05.Vp8Back': WHATEVER THE INPUT: true; the input reads as it did. -/
def vp8BackSpec : ChangeSpec := { name := "vp8Back", fn := fun _ => fun
  | [d1, d2, d3, d4, d5] => { results := [.lit (.bool true)], args := [d1, d2, d3, d4, d5] }
  | _ => none }
def vp8BackRow : OpenClaim := { program := "ytoonnlphfanmhaa", sum := "edbc84f7a65b9e9d72b7fbec10602e4affc849a63f6b88910d732c23e498999e", func := "easel/easellaw05.Vp8Back", spec := "vp8Back", unfollowed := true, recurses := true, apart := false }
def Vp8BackSaid : Prop := vp8BackRow.holds Try.pinned (OpenSpec.ofChange vp8BackSpec)

/-- ITS FALSE NEIGHBOUR: 'it returns false'. Refute it at one input. -/
def vp8BackWrong : ChangeSpec := { name := "vp8Back", fn := fun _ => fun
  | [d1, d2, d3, d4, d5] => { results := [.lit (.bool false)], args := [d1, d2, d3, d4, d5] }
  | _ => none }
def Vp8BackWrongFalsely : Prop := vp8BackRow.holds Try.pinned (OpenSpec.ofChange vp8BackWrong)

/-- 'easellaw05.Vp8Known': WHATEVER THE INPUT: true; the input reads as it did. -/
def vp8KnownSpec : ChangeSpec := { name := "vp8Known", fn := fun _ => fun
  | [] => { results := [.lit (.bool true)], args := [] }
  | _ => none }
def vp8KnownRow : OpenClaim := { program := "ytoonnlphfanmhaa", sum := "edbc84f7a65b9e9d72b7fbec10602e4affc849a63f6b88910d732c23e498999e", func := "easel/easellaw05.Vp8Known", spec := "vp8Known", unfollowed := true, recurses := true, apart := false }
def Vp8KnownSaid : Prop := vp8KnownRow.holds Try.pinned (OpenSpec.ofChange vp8KnownSpec)

/-- ITS FALSE NEIGHBOUR: 'it returns false'. Refute it at one input. -/
def vp8KnownWrong : ChangeSpec := { name := "vp8Known", fn := fun _ => fun
  | [] => { results := [.lit (.bool false)], args := [] }
  | _ => none }
def Vp8KnownWrongFalsely : Prop := vp8KnownRow.holds Try.pinned (OpenSpec.ofChange vp8KnownWrong)

/- THE SECOND FORM. 'bulk': how many values and letters a reading holds, each counted each time it is reached (what is shared counts as often as it is met; a slice's spare places count too). A statement '..UptoSaid' is the law's where the arguments, and the package variables that the reading takes, are together of bulk at most 1048576: NARROWER than '..Said'. Prove '..Said' where nothing that the law and all that it calls make is longer than what came in: it says more and counts as full. Else prove '..UptoSaid'. A law counts once. -/
mutual
def uptoBulk {H : Type} : DataW H → Nat
  | .lit (.string bytes) => bytes.length + 1
  | .lit _ => 1
  | .nil => 1
  | .ptr d => uptoBulk d + 1
  | .slice elems spare => uptoBulkAll elems + uptoBulkAll spare + 1
  | .agg parts => uptoBulkAll parts + 1
  | .iface _ d => uptoBulk d + 1
  | .map entries => uptoBulkEntries entries + 1
  | .held _ => 1
def uptoBulkAll {H : Type} : List (DataW H) → Nat
  | [] => 0
  | d :: r => uptoBulk d + uptoBulkAll r
def uptoBulkEntries {H : Type} : List (Lit × DataW H) → Nat
  | [] => 0
  | x :: r => uptoBulkEntry x + uptoBulkEntries r
def uptoBulkEntry {H : Type} : Lit × DataW H → Nat
  | (.string bytes, d) => bytes.length + uptoBulk d + 1
  | (_, d) => uptoBulk d + 1
 end
def uptoSmall : (H : Type) → List (DataW H) → Bool := fun _ ds => decide (uptoBulkAll ds ≤ 1048576)
def OpenSpec.upto (s : _root_.Go.ChangeSpec) : _root_.Go.OpenSpec := { _root_.Go.OpenSpec.ofChange s with cond := some uptoSmall }

/-- 'easellaw01.BitsBack', WHERE WHAT IT READS IS OF BULK AT MOST 1048576: true; the input reads as it did. -/
def bitsBackUptoRow : OpenClaim := { program := "ytoonnlphfanmhaa", sum := "edbc84f7a65b9e9d72b7fbec10602e4affc849a63f6b88910d732c23e498999e", func := "easel/easellaw01.BitsBack", spec := "bitsBack", unfollowed := true, recurses := true, apart := false, narrowed := true }
def BitsBackUptoSaid : Prop := bitsBackUptoRow.holds Try.pinned (OpenSpec.upto bitsBackSpec)

/-- 'easellaw01.BitsNone', WHERE WHAT IT READS IS OF BULK AT MOST 1048576: true; the input reads as it did. -/
def bitsNoneUptoRow : OpenClaim := { program := "ytoonnlphfanmhaa", sum := "edbc84f7a65b9e9d72b7fbec10602e4affc849a63f6b88910d732c23e498999e", func := "easel/easellaw01.BitsNone", spec := "bitsNone", unfollowed := true, recurses := true, apart := false, narrowed := true }
def BitsNoneUptoSaid : Prop := bitsNoneUptoRow.holds Try.pinned (OpenSpec.upto bitsNoneSpec)

/-- 'easellaw01.BitsKnown', WHERE WHAT IT READS IS OF BULK AT MOST 1048576: true; the input reads as it did. -/
def bitsKnownUptoRow : OpenClaim := { program := "ytoonnlphfanmhaa", sum := "edbc84f7a65b9e9d72b7fbec10602e4affc849a63f6b88910d732c23e498999e", func := "easel/easellaw01.BitsKnown", spec := "bitsKnown", unfollowed := true, recurses := true, apart := false, narrowed := true }
def BitsKnownUptoSaid : Prop := bitsKnownUptoRow.holds Try.pinned (OpenSpec.upto bitsKnownSpec)

/-- 'easellaw03.ExtReads', WHERE WHAT IT READS IS OF BULK AT MOST 1048576: true; the input reads as it did. -/
def extReadsUptoRow : OpenClaim := { program := "ytoonnlphfanmhaa", sum := "edbc84f7a65b9e9d72b7fbec10602e4affc849a63f6b88910d732c23e498999e", func := "easel/easellaw03.ExtReads", spec := "extReads", unfollowed := true, recurses := true, apart := false, narrowed := true }
def ExtReadsUptoSaid : Prop := extReadsUptoRow.holds Try.pinned (OpenSpec.upto extReadsSpec)

/-- 'easellaw03.ExtBack', WHERE WHAT IT READS IS OF BULK AT MOST 1048576: true; the input reads as it did. -/
def extBackUptoRow : OpenClaim := { program := "ytoonnlphfanmhaa", sum := "edbc84f7a65b9e9d72b7fbec10602e4affc849a63f6b88910d732c23e498999e", func := "easel/easellaw03.ExtBack", spec := "extBack", unfollowed := true, recurses := true, apart := false, narrowed := true }
def ExtBackUptoSaid : Prop := extBackUptoRow.holds Try.pinned (OpenSpec.upto extBackSpec)

/-- 'easellaw03.ExtPuts', WHERE WHAT IT READS IS OF BULK AT MOST 1048576: true; the input reads as it did. -/
def extPutsUptoRow : OpenClaim := { program := "ytoonnlphfanmhaa", sum := "edbc84f7a65b9e9d72b7fbec10602e4affc849a63f6b88910d732c23e498999e", func := "easel/easellaw03.ExtPuts", spec := "extPuts", unfollowed := true, recurses := true, apart := false, narrowed := true }
def ExtPutsUptoSaid : Prop := extPutsUptoRow.holds Try.pinned (OpenSpec.upto extPutsSpec)

/-- 'easellaw03.ExtKnown', WHERE WHAT IT READS IS OF BULK AT MOST 1048576: true; the input reads as it did. -/
def extKnownUptoRow : OpenClaim := { program := "ytoonnlphfanmhaa", sum := "edbc84f7a65b9e9d72b7fbec10602e4affc849a63f6b88910d732c23e498999e", func := "easel/easellaw03.ExtKnown", spec := "extKnown", unfollowed := true, recurses := true, apart := false, narrowed := true }
def ExtKnownUptoSaid : Prop := extKnownUptoRow.holds Try.pinned (OpenSpec.upto extKnownSpec)

/-- 'easellaw05.Vp8Reads', WHERE WHAT IT READS IS OF BULK AT MOST 1048576: true; the input reads as it did. -/
def vp8ReadsUptoRow : OpenClaim := { program := "ytoonnlphfanmhaa", sum := "edbc84f7a65b9e9d72b7fbec10602e4affc849a63f6b88910d732c23e498999e", func := "easel/easellaw05.Vp8Reads", spec := "vp8Reads", unfollowed := true, recurses := true, apart := false, narrowed := true }
def Vp8ReadsUptoSaid : Prop := vp8ReadsUptoRow.holds Try.pinned (OpenSpec.upto vp8ReadsSpec)

/-- 'easellaw05.Vp8Puts', WHERE WHAT IT READS IS OF BULK AT MOST 1048576: true; the input reads as it did. -/
def vp8PutsUptoRow : OpenClaim := { program := "ytoonnlphfanmhaa", sum := "edbc84f7a65b9e9d72b7fbec10602e4affc849a63f6b88910d732c23e498999e", func := "easel/easellaw05.Vp8Puts", spec := "vp8Puts", unfollowed := true, recurses := true, apart := false, narrowed := true }
def Vp8PutsUptoSaid : Prop := vp8PutsUptoRow.holds Try.pinned (OpenSpec.upto vp8PutsSpec)

/-- 'easellaw05.Vp8Back', WHERE WHAT IT READS IS OF BULK AT MOST 1048576: true; the input reads as it did. -/
def vp8BackUptoRow : OpenClaim := { program := "ytoonnlphfanmhaa", sum := "edbc84f7a65b9e9d72b7fbec10602e4affc849a63f6b88910d732c23e498999e", func := "easel/easellaw05.Vp8Back", spec := "vp8Back", unfollowed := true, recurses := true, apart := false, narrowed := true }
def Vp8BackUptoSaid : Prop := vp8BackUptoRow.holds Try.pinned (OpenSpec.upto vp8BackSpec)

/-- 'easellaw05.Vp8Known', WHERE WHAT IT READS IS OF BULK AT MOST 1048576: true; the input reads as it did. -/
def vp8KnownUptoRow : OpenClaim := { program := "ytoonnlphfanmhaa", sum := "edbc84f7a65b9e9d72b7fbec10602e4affc849a63f6b88910d732c23e498999e", func := "easel/easellaw05.Vp8Known", spec := "vp8Known", unfollowed := true, recurses := true, apart := false, narrowed := true }
def Vp8KnownUptoSaid : Prop := vp8KnownUptoRow.holds Try.pinned (OpenSpec.upto vp8KnownSpec)

end Rows
end Go.Proofs.Ytoonnlphfanmhaa
