/-
  No cell of these rows narrows 'for every input' (looked for: loops, veiled, ifaces, maps, wideKeys, modest, calm, conditions, laid).
  DERIVED. THE GIVEN ROWS OF THIS SEAT. 7 by the template 'for every input the law returns true; each argument reads behind the call as it read before'; 0 by the template 'total and deterministic' (their statements: YtgbfeagoadlhmaaTotals.lean).
  GIVEN WITH THE SEED: the statements are not yours to turn. If you find one false, say at which input.
  Laid BY PROGRAM, IN A SANDBOX (cutbox-rows.mjs): the forced cells as the released guide's own fill.sh prints them over the translation c6b8aa8dd361a016… (all of the seat's roots in one cut). By AI agents, Wed Nov 11 2026. No macro, syntax, notation, axiom, sorry.
-/
import Derived.Test.YtgbfeagoadlhmaaChecked
import GoSem.Claim
import GoSem.ClaimJoined
import GoSem.ClaimMapViews
import Derived.JoinedTies
import Derived.KernelRfl
namespace Go.Proofs.Ytgbfeagoadlhmaa
/- THE CELL 'sum', in the pinned program and in every row, IS THE sha256 OF THE DUMP (.gsa) THAT YtgbfeagoadlhmaaProg.lean LOADS. Nothing in Lean hashes anything: it is a label: what it is worth is what the hold of that sum in a sandbox is worth. -/
noncomputable def Try.pinned : Pinned := { name := "ytgbfeagoadlhmaa", sum := "c6b8aa8dd361a016d7f03d1bd8a25cd153b449c80ed8d9ad6a5cd3fbcd9ec922", checked := Try.checked }
namespace Rows
def none {H : Type} : Left H := { results := [], args := [] }

/-- 'understudylaw05.PageDiffs': WHATEVER THE INPUT: true; the input reads as it did. -/
def pageDiffsSpec : ChangeSpec := { name := "pageDiffs", fn := fun _ => fun
  | [d1, d2] => { results := [.lit (.bool true)], args := [d1, d2] }
  | _ => none }
def pageDiffsRow : OpenClaim := { program := "ytgbfeagoadlhmaa", sum := "c6b8aa8dd361a016d7f03d1bd8a25cd153b449c80ed8d9ad6a5cd3fbcd9ec922", func := "understudy/understudylaw05.PageDiffs", spec := "pageDiffs", unfollowed := true, recurses := true, apart := false }
def PageDiffsSaid : Prop := pageDiffsRow.holds Try.pinned (OpenSpec.ofChange pageDiffsSpec)

/-- ITS FALSE NEIGHBOUR: 'it returns false'. Refute it at one input. -/
def pageDiffsWrong : ChangeSpec := { name := "pageDiffs", fn := fun _ => fun
  | [d1, d2] => { results := [.lit (.bool false)], args := [d1, d2] }
  | _ => none }
def PageDiffsWrongFalsely : Prop := pageDiffsRow.holds Try.pinned (OpenSpec.ofChange pageDiffsWrong)

/-- 'understudylaw05.PagePacks': WHATEVER THE INPUT: true; the input reads as it did. -/
def pagePacksSpec : ChangeSpec := { name := "pagePacks", fn := fun _ => fun
  | [d] => { results := [.lit (.bool true)], args := [d] }
  | _ => none }
def pagePacksRow : OpenClaim := { program := "ytgbfeagoadlhmaa", sum := "c6b8aa8dd361a016d7f03d1bd8a25cd153b449c80ed8d9ad6a5cd3fbcd9ec922", func := "understudy/understudylaw05.PagePacks", spec := "pagePacks", unfollowed := true, recurses := true, apart := false }
def PagePacksSaid : Prop := pagePacksRow.holds Try.pinned (OpenSpec.ofChange pagePacksSpec)

/-- ITS FALSE NEIGHBOUR: 'it returns false'. Refute it at one input. -/
def pagePacksWrong : ChangeSpec := { name := "pagePacks", fn := fun _ => fun
  | [d] => { results := [.lit (.bool false)], args := [d] }
  | _ => none }
def PagePacksWrongFalsely : Prop := pagePacksRow.holds Try.pinned (OpenSpec.ofChange pagePacksWrong)

/-- 'understudylaw05.PageKeeps': WHATEVER THE INPUT: true; the input reads as it did. -/
def pageKeepsSpec : ChangeSpec := { name := "pageKeeps", fn := fun _ => fun
  | [d1, d2, d3] => { results := [.lit (.bool true)], args := [d1, d2, d3] }
  | _ => none }
def pageKeepsRow : OpenClaim := { program := "ytgbfeagoadlhmaa", sum := "c6b8aa8dd361a016d7f03d1bd8a25cd153b449c80ed8d9ad6a5cd3fbcd9ec922", func := "understudy/understudylaw05.PageKeeps", spec := "pageKeeps", unfollowed := true, recurses := true, apart := false }
def PageKeepsSaid : Prop := pageKeepsRow.holds Try.pinned (OpenSpec.ofChange pageKeepsSpec)

/-- ITS FALSE NEIGHBOUR: 'it returns false'. Refute it at one input. -/
def pageKeepsWrong : ChangeSpec := { name := "pageKeeps", fn := fun _ => fun
  | [d1, d2, d3] => { results := [.lit (.bool false)], args := [d1, d2, d3] }
  | _ => none }
def PageKeepsWrongFalsely : Prop := pageKeepsRow.holds Try.pinned (OpenSpec.ofChange pageKeepsWrong)

/-- 'understudylaw05.PageRooms': WHATEVER THE INPUT: true; the input reads as it did. -/
def pageRoomsSpec : ChangeSpec := { name := "pageRooms", fn := fun _ => fun
  | [d] => { results := [.lit (.bool true)], args := [d] }
  | _ => none }
def pageRoomsRow : OpenClaim := { program := "ytgbfeagoadlhmaa", sum := "c6b8aa8dd361a016d7f03d1bd8a25cd153b449c80ed8d9ad6a5cd3fbcd9ec922", func := "understudy/understudylaw05.PageRooms", spec := "pageRooms", unfollowed := true, recurses := true, apart := false }
def PageRoomsSaid : Prop := pageRoomsRow.holds Try.pinned (OpenSpec.ofChange pageRoomsSpec)

/-- ITS FALSE NEIGHBOUR: 'it returns false'. Refute it at one input. -/
def pageRoomsWrong : ChangeSpec := { name := "pageRooms", fn := fun _ => fun
  | [d] => { results := [.lit (.bool false)], args := [d] }
  | _ => none }
def PageRoomsWrongFalsely : Prop := pageRoomsRow.holds Try.pinned (OpenSpec.ofChange pageRoomsWrong)

/-- 'understudylaw05.PagePlays': WHATEVER THE INPUT: true; the input reads as it did. -/
def pagePlaysSpec : ChangeSpec := { name := "pagePlays", fn := fun _ => fun
  | [d1, d2, d3] => { results := [.lit (.bool true)], args := [d1, d2, d3] }
  | _ => none }
def pagePlaysRow : OpenClaim := { program := "ytgbfeagoadlhmaa", sum := "c6b8aa8dd361a016d7f03d1bd8a25cd153b449c80ed8d9ad6a5cd3fbcd9ec922", func := "understudy/understudylaw05.PagePlays", spec := "pagePlays", unfollowed := true, recurses := true, apart := false }
def PagePlaysSaid : Prop := pagePlaysRow.holds Try.pinned (OpenSpec.ofChange pagePlaysSpec)

/-- ITS FALSE NEIGHBOUR: 'it returns false'. Refute it at one input. -/
def pagePlaysWrong : ChangeSpec := { name := "pagePlays", fn := fun _ => fun
  | [d1, d2, d3] => { results := [.lit (.bool false)], args := [d1, d2, d3] }
  | _ => none }
def PagePlaysWrongFalsely : Prop := pagePlaysRow.holds Try.pinned (OpenSpec.ofChange pagePlaysWrong)

/-- 'understudylaw06.RecordSame': WHATEVER THE INPUT: true; the input reads as it did. -/
def recordSameSpec : ChangeSpec := { name := "recordSame", fn := fun _ => fun
  | [d1, d2] => { results := [.lit (.bool true)], args := [d1, d2] }
  | _ => none }
def recordSameRow : OpenClaim := { program := "ytgbfeagoadlhmaa", sum := "c6b8aa8dd361a016d7f03d1bd8a25cd153b449c80ed8d9ad6a5cd3fbcd9ec922", func := "understudy/understudylaw06.RecordSame", spec := "recordSame", unfollowed := true, recurses := true, apart := false }
def RecordSameSaid : Prop := recordSameRow.holds Try.pinned (OpenSpec.ofChange recordSameSpec)

/-- ITS FALSE NEIGHBOUR: 'it returns false'. Refute it at one input. -/
def recordSameWrong : ChangeSpec := { name := "recordSame", fn := fun _ => fun
  | [d1, d2] => { results := [.lit (.bool false)], args := [d1, d2] }
  | _ => none }
def RecordSameWrongFalsely : Prop := recordSameRow.holds Try.pinned (OpenSpec.ofChange recordSameWrong)

/-- 'understudylaw06.RecordMeans': WHATEVER THE INPUT: true; the input reads as it did. -/
def recordMeansSpec : ChangeSpec := { name := "recordMeans", fn := fun _ => fun
  | [d1, d2, d3, d4, d5] => { results := [.lit (.bool true)], args := [d1, d2, d3, d4, d5] }
  | _ => none }
def recordMeansRow : OpenClaim := { program := "ytgbfeagoadlhmaa", sum := "c6b8aa8dd361a016d7f03d1bd8a25cd153b449c80ed8d9ad6a5cd3fbcd9ec922", func := "understudy/understudylaw06.RecordMeans", spec := "recordMeans", unfollowed := true, recurses := true, apart := false }
def RecordMeansSaid : Prop := recordMeansRow.holds Try.pinned (OpenSpec.ofChange recordMeansSpec)

/-- ITS FALSE NEIGHBOUR: 'it returns false'. Refute it at one input. -/
def recordMeansWrong : ChangeSpec := { name := "recordMeans", fn := fun _ => fun
  | [d1, d2, d3, d4, d5] => { results := [.lit (.bool false)], args := [d1, d2, d3, d4, d5] }
  | _ => none }
def RecordMeansWrongFalsely : Prop := recordMeansRow.holds Try.pinned (OpenSpec.ofChange recordMeansWrong)

/- THE SECOND FORM. 'bulk': how many values and letters a reading holds, each counted each time it is reached (what is shared counts as often as it is met; a slice's spare places count too). A statement '..UptoSaid' is the law's where the arguments, and the package variables that the reading takes, are together of bulk at most 1048576: NARROWER than '..Said'. Prove '..Said' where nothing that the law and all that it calls make is longer than what came in: it says more and counts as full. Else prove '..UptoSaid'. A law counts once. -/
mutual
def uptoBulk {H : Type} : DataW H → Nat
  | .lit (.string bytes) => bytes.length + 1
  | .lit _ => 1
  | .nil => 1
  | .ptr d => uptoBulk d + 1
  | .slice elems spare => uptoBulkAll elems + uptoBulkAll spare + 1
  | .agg parts => uptoBulkAll parts + 1
  | .iface _ d => uptoBulk d + 1
  | .map entries => uptoBulkEntries entries + 1
  | .held _ => 1
def uptoBulkAll {H : Type} : List (DataW H) → Nat
  | [] => 0
  | d :: r => uptoBulk d + uptoBulkAll r
def uptoBulkEntries {H : Type} : List (Lit × DataW H) → Nat
  | [] => 0
  | x :: r => uptoBulkEntry x + uptoBulkEntries r
def uptoBulkEntry {H : Type} : Lit × DataW H → Nat
  | (.string bytes, d) => bytes.length + uptoBulk d + 1
  | (_, d) => uptoBulk d + 1
 end
def uptoSmall : (H : Type) → List (DataW H) → Bool := fun _ ds => decide (uptoBulkAll ds ≤ 1048576)
def OpenSpec.upto (s : _root_.Go.ChangeSpec) : _root_.Go.OpenSpec := { _root_.Go.OpenSpec.ofChange s with cond := some uptoSmall }

/-- 'understudylaw05.PageDiffs', WHERE WHAT IT READS IS OF BULK AT MOST 1048576: true; the input reads as it did. -/
def pageDiffsUptoRow : OpenClaim := { program := "ytgbfeagoadlhmaa", sum := "c6b8aa8dd361a016d7f03d1bd8a25cd153b449c80ed8d9ad6a5cd3fbcd9ec922", func := "understudy/understudylaw05.PageDiffs", spec := "pageDiffs", unfollowed := true, recurses := true, apart := false, narrowed := true }
def PageDiffsUptoSaid : Prop := pageDiffsUptoRow.holds Try.pinned (OpenSpec.upto pageDiffsSpec)

/-- 'understudylaw05.PagePacks', WHERE WHAT IT READS IS OF BULK AT MOST 1048576: true; the input reads as it did. -/
def pagePacksUptoRow : OpenClaim := { program := "ytgbfeagoadlhmaa", sum := "c6b8aa8dd361a016d7f03d1bd8a25cd153b449c80ed8d9ad6a5cd3fbcd9ec922", func := "understudy/understudylaw05.PagePacks", spec := "pagePacks", unfollowed := true, recurses := true, apart := false, narrowed := true }
def PagePacksUptoSaid : Prop := pagePacksUptoRow.holds Try.pinned (OpenSpec.upto pagePacksSpec)

/-- 'understudylaw05.PageKeeps', WHERE WHAT IT READS IS OF BULK AT MOST 1048576: true; the input reads as it did. -/
def pageKeepsUptoRow : OpenClaim := { program := "ytgbfeagoadlhmaa", sum := "c6b8aa8dd361a016d7f03d1bd8a25cd153b449c80ed8d9ad6a5cd3fbcd9ec922", func := "understudy/understudylaw05.PageKeeps", spec := "pageKeeps", unfollowed := true, recurses := true, apart := false, narrowed := true }
def PageKeepsUptoSaid : Prop := pageKeepsUptoRow.holds Try.pinned (OpenSpec.upto pageKeepsSpec)

/-- 'understudylaw05.PageRooms', WHERE WHAT IT READS IS OF BULK AT MOST 1048576: true; the input reads as it did. -/
def pageRoomsUptoRow : OpenClaim := { program := "ytgbfeagoadlhmaa", sum := "c6b8aa8dd361a016d7f03d1bd8a25cd153b449c80ed8d9ad6a5cd3fbcd9ec922", func := "understudy/understudylaw05.PageRooms", spec := "pageRooms", unfollowed := true, recurses := true, apart := false, narrowed := true }
def PageRoomsUptoSaid : Prop := pageRoomsUptoRow.holds Try.pinned (OpenSpec.upto pageRoomsSpec)

/-- 'understudylaw05.PagePlays', WHERE WHAT IT READS IS OF BULK AT MOST 1048576: true; the input reads as it did. -/
def pagePlaysUptoRow : OpenClaim := { program := "ytgbfeagoadlhmaa", sum := "c6b8aa8dd361a016d7f03d1bd8a25cd153b449c80ed8d9ad6a5cd3fbcd9ec922", func := "understudy/understudylaw05.PagePlays", spec := "pagePlays", unfollowed := true, recurses := true, apart := false, narrowed := true }
def PagePlaysUptoSaid : Prop := pagePlaysUptoRow.holds Try.pinned (OpenSpec.upto pagePlaysSpec)

/-- 'understudylaw06.RecordSame', WHERE WHAT IT READS IS OF BULK AT MOST 1048576: true; the input reads as it did. -/
def recordSameUptoRow : OpenClaim := { program := "ytgbfeagoadlhmaa", sum := "c6b8aa8dd361a016d7f03d1bd8a25cd153b449c80ed8d9ad6a5cd3fbcd9ec922", func := "understudy/understudylaw06.RecordSame", spec := "recordSame", unfollowed := true, recurses := true, apart := false, narrowed := true }
def RecordSameUptoSaid : Prop := recordSameUptoRow.holds Try.pinned (OpenSpec.upto recordSameSpec)

/-- 'understudylaw06.RecordMeans', WHERE WHAT IT READS IS OF BULK AT MOST 1048576: true; the input reads as it did. -/
def recordMeansUptoRow : OpenClaim := { program := "ytgbfeagoadlhmaa", sum := "c6b8aa8dd361a016d7f03d1bd8a25cd153b449c80ed8d9ad6a5cd3fbcd9ec922", func := "understudy/understudylaw06.RecordMeans", spec := "recordMeans", unfollowed := true, recurses := true, apart := false, narrowed := true }
def RecordMeansUptoSaid : Prop := recordMeansUptoRow.holds Try.pinned (OpenSpec.upto recordMeansSpec)

end Rows
end Go.Proofs.Ytgbfeagoadlhmaa
