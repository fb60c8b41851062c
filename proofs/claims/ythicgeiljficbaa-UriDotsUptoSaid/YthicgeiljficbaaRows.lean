/-
  No cell of these rows narrows 'for every input' (looked for: loops, veiled, ifaces, maps, wideKeys, modest, calm, conditions, laid).
  DERIVED. THE GIVEN ROWS OF THIS SEAT. 3 by the template 'for every input the law returns true; each argument reads behind the call as it read before'; 0 by the template 'total and deterministic' (their statements: YthicgeiljficbaaTotals.lean).
  GIVEN WITH THE SEED: the statements are not yours to turn. If you find one false, say at which input.
  Laid BY PROGRAM, IN A SANDBOX (cutbox-rows.mjs): the forced cells as the released guide's own fill.sh prints them over the translation b6333694d14d30e1… (all of the seat's roots in one cut). By AI agents, Wed Nov 11 2026. No macro, syntax, notation, axiom, sorry.
-/
import Derived.Test.YthicgeiljficbaaChecked
import GoSem.Claim
import GoSem.ClaimJoined
import GoSem.ClaimMapViews
import Derived.JoinedTies
import Derived.KernelRfl
namespace Go.Proofs.Ythicgeiljficbaa
/- THE CELL 'sum', in the pinned program and in every row, IS THE sha256 OF THE DUMP (.gsa) THAT YthicgeiljficbaaProg.lean LOADS. Nothing in Lean hashes anything: it is a label: what it is worth is what the hold of that sum in a sandbox is worth. -/
noncomputable def Try.pinned : Pinned := { name := "ythicgeiljficbaa", sum := "b6333694d14d30e1c2749e3c0f4a1a86940db199bbf2aa2295d197cbf7411e67", checked := Try.checked }
namespace Rows
def none {H : Type} : Left H := { results := [], args := [] }

/-- 'caliperlaw08.UriAbsolute': WHATEVER THE INPUT: true; the input reads as it did. -/
def uriAbsoluteSpec : ChangeSpec := { name := "uriAbsolute", fn := fun _ => fun
  | [d1, d2] => { results := [.lit (.bool true)], args := [d1, d2] }
  | _ => none }
def uriAbsoluteRow : OpenClaim := { program := "ythicgeiljficbaa", sum := "b6333694d14d30e1c2749e3c0f4a1a86940db199bbf2aa2295d197cbf7411e67", func := "caliper/caliperlaw08.UriAbsolute", spec := "uriAbsolute", inPlace := ["internal/bytealg.IndexByteString", "internal/bytealg.IndexString", "internal/abi.NoEscape", "internal/bytealg.MakeNoZero"], unfollowed := true, recurses := true, named := ["internal/bytealg.MaxLen"], apart := false }
def UriAbsoluteSaid : Prop := uriAbsoluteRow.holds Try.pinned (OpenSpec.ofChange uriAbsoluteSpec)

/-- ITS FALSE NEIGHBOUR: 'it returns false'. Refute it at one input. -/
def uriAbsoluteWrong : ChangeSpec := { name := "uriAbsolute", fn := fun _ => fun
  | [d1, d2] => { results := [.lit (.bool false)], args := [d1, d2] }
  | _ => none }
def UriAbsoluteWrongFalsely : Prop := uriAbsoluteRow.holds Try.pinned (OpenSpec.ofChange uriAbsoluteWrong)

/-- 'caliperlaw08.UriDots': WHATEVER THE INPUT: true; the input reads as it did. -/
def uriDotsSpec : ChangeSpec := { name := "uriDots", fn := fun _ => fun
  | [d] => { results := [.lit (.bool true)], args := [d] }
  | _ => none }
def uriDotsRow : OpenClaim := { program := "ythicgeiljficbaa", sum := "b6333694d14d30e1c2749e3c0f4a1a86940db199bbf2aa2295d197cbf7411e67", func := "caliper/caliperlaw08.UriDots", spec := "uriDots", inPlace := ["internal/bytealg.IndexByteString", "internal/abi.NoEscape", "internal/bytealg.MakeNoZero", "internal/bytealg.IndexString"], unfollowed := true, recurses := true, named := ["internal/bytealg.MaxLen"], apart := false }
def UriDotsSaid : Prop := uriDotsRow.holds Try.pinned (OpenSpec.ofChange uriDotsSpec)

/-- ITS FALSE NEIGHBOUR: 'it returns false'. Refute it at one input. -/
def uriDotsWrong : ChangeSpec := { name := "uriDots", fn := fun _ => fun
  | [d] => { results := [.lit (.bool false)], args := [d] }
  | _ => none }
def UriDotsWrongFalsely : Prop := uriDotsRow.holds Try.pinned (OpenSpec.ofChange uriDotsWrong)

/-- 'caliperlaw08.UriBack': WHATEVER THE INPUT: true; the input reads as it did. -/
def uriBackSpec : ChangeSpec := { name := "uriBack", fn := fun _ => fun
  | [d] => { results := [.lit (.bool true)], args := [d] }
  | _ => none }
def uriBackRow : OpenClaim := { program := "ythicgeiljficbaa", sum := "b6333694d14d30e1c2749e3c0f4a1a86940db199bbf2aa2295d197cbf7411e67", func := "caliper/caliperlaw08.UriBack", spec := "uriBack", inPlace := ["internal/bytealg.IndexByteString", "internal/bytealg.IndexString", "internal/abi.NoEscape", "internal/bytealg.MakeNoZero"], unfollowed := true, recurses := true, named := ["internal/bytealg.MaxLen"], apart := false }
def UriBackSaid : Prop := uriBackRow.holds Try.pinned (OpenSpec.ofChange uriBackSpec)

/-- ITS FALSE NEIGHBOUR: 'it returns false'. Refute it at one input. -/
def uriBackWrong : ChangeSpec := { name := "uriBack", fn := fun _ => fun
  | [d] => { results := [.lit (.bool false)], args := [d] }
  | _ => none }
def UriBackWrongFalsely : Prop := uriBackRow.holds Try.pinned (OpenSpec.ofChange uriBackWrong)

/- THE SECOND FORM. 'bulk': how many values and letters a reading holds, each counted each time it is reached (what is shared counts as often as it is met; a slice's spare places count too). A statement '..UptoSaid' is the law's where the arguments, and the package variables that the reading takes, are together of bulk at most 1048576: NARROWER than '..Said'. Prove '..Said' where nothing that the law and all that it calls make is longer than what came in: it says more and counts as full. Else prove '..UptoSaid'. A law counts once. -/
mutual
def uptoBulk {H : Type} : DataW H → Nat
  | .lit (.string bytes) => bytes.length + 1
  | .lit _ => 1
  | .nil => 1
  | .ptr d => uptoBulk d + 1
  | .slice elems spare => uptoBulkAll elems + uptoBulkAll spare + 1
  | .agg parts => uptoBulkAll parts + 1
  | .iface _ d => uptoBulk d + 1
  | .map entries => uptoBulkEntries entries + 1
  | .held _ => 1
def uptoBulkAll {H : Type} : List (DataW H) → Nat
  | [] => 0
  | d :: r => uptoBulk d + uptoBulkAll r
def uptoBulkEntries {H : Type} : List (Lit × DataW H) → Nat
  | [] => 0
  | x :: r => uptoBulkEntry x + uptoBulkEntries r
def uptoBulkEntry {H : Type} : Lit × DataW H → Nat
  | (.string bytes, d) => bytes.length + uptoBulk d + 1
  | (_, d) => uptoBulk d + 1
 end
def uptoSmall : (H : Type) → List (DataW H) → Bool := fun _ ds => decide (uptoBulkAll ds ≤ 1048576)
def OpenSpec.upto (s : _root_.Go.ChangeSpec) : _root_.Go.OpenSpec := { _root_.Go.OpenSpec.ofChange s with cond := some uptoSmall }

/-- 'caliperlaw08.UriAbsolute', WHERE WHAT IT READS IS OF BULK AT MOST 1048576: true; the input reads as it did. -/
def uriAbsoluteUptoRow : OpenClaim := { program := "ythicgeiljficbaa", sum := "b6333694d14d30e1c2749e3c0f4a1a86940db199bbf2aa2295d197cbf7411e67", func := "caliper/caliperlaw08.UriAbsolute", spec := "uriAbsolute", inPlace := ["internal/bytealg.IndexByteString", "internal/bytealg.IndexString", "internal/abi.NoEscape", "internal/bytealg.MakeNoZero"], unfollowed := true, recurses := true, named := ["internal/bytealg.MaxLen"], apart := false, narrowed := true }
def UriAbsoluteUptoSaid : Prop := uriAbsoluteUptoRow.holds Try.pinned (OpenSpec.upto uriAbsoluteSpec)

/-- 'caliperlaw08.UriDots', WHERE WHAT IT READS IS OF BULK AT MOST 1048576: true; the input reads as it did. -/
def uriDotsUptoRow : OpenClaim := { program := "ythicgeiljficbaa", sum := "b6333694d14d30e1c2749e3c0f4a1a86940db199bbf2aa2295d197cbf7411e67", func := "caliper/caliperlaw08.UriDots", spec := "uriDots", inPlace := ["internal/bytealg.IndexByteString", "internal/abi.NoEscape", "internal/bytealg.MakeNoZero", "internal/bytealg.IndexString"], unfollowed := true, recurses := true, named := ["internal/bytealg.MaxLen"], apart := false, narrowed := true }
def UriDotsUptoSaid : Prop := uriDotsUptoRow.holds Try.pinned (OpenSpec.upto uriDotsSpec)

/-- 'caliperlaw08.UriBack', WHERE WHAT IT READS IS OF BULK AT MOST 1048576: true; the input reads as it did. -/
def uriBackUptoRow : OpenClaim := { program := "ythicgeiljficbaa", sum := "b6333694d14d30e1c2749e3c0f4a1a86940db199bbf2aa2295d197cbf7411e67", func := "caliper/caliperlaw08.UriBack", spec := "uriBack", inPlace := ["internal/bytealg.IndexByteString", "internal/bytealg.IndexString", "internal/abi.NoEscape", "internal/bytealg.MakeNoZero"], unfollowed := true, recurses := true, named := ["internal/bytealg.MaxLen"], apart := false, narrowed := true }
def UriBackUptoSaid : Prop := uriBackUptoRow.holds Try.pinned (OpenSpec.upto uriBackSpec)

end Rows
end Go.Proofs.Ythicgeiljficbaa
