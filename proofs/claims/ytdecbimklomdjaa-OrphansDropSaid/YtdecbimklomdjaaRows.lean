/-
  No cell of these rows narrows 'for every input' (looked for: loops, veiled, ifaces, maps, wideKeys, modest, calm, conditions, laid).
  DERIVED. THE GIVEN ROWS OF THIS SEAT. 17 by the template 'for every input the law returns true; each argument reads behind the call as it read before'; 0 by the template 'total and deterministic' (their statements: YtdecbimklomdjaaTotals.lean).
  GIVEN WITH THE SEED: the statements are not yours to turn. If you find one false, say at which input.
  Laid BY PROGRAM, IN A SANDBOX (cutbox-rows.mjs): the forced cells as the released guide's own fill.sh prints them over the translation 8806a5d74ecb15f8… (all of the seat's roots in one cut). By AI agents, Wed Nov 11 2026. No macro, syntax, notation, axiom, sorry.
-/
import Derived.Test.YtdecbimklomdjaaChecked
import GoSem.Claim
import GoSem.ClaimJoined
import GoSem.ClaimMapViews
import Derived.JoinedTies
import Derived.KernelRfl
namespace Go.Proofs.Ytdecbimklomdjaa
/- THE CELL 'sum', in the pinned program and in every row, IS THE sha256 OF THE DUMP (.gsa) THAT YtdecbimklomdjaaProg.lean LOADS. Nothing in Lean hashes anything: it is a label: what it is worth is what the hold of that sum in a sandbox is worth. -/
noncomputable def Try.pinned : Pinned := { name := "ytdecbimklomdjaa", sum := "8806a5d74ecb15f83a72e9eca000756f1026977575804ea0b3e23e3862330dd3", checked := Try.checked }
namespace Rows
def none {H : Type} : Left H := { results := [], args := [] }

/-- 'purserlaw04.ShaPieces': WHATEVER THE INPUT: true; the input reads as it did. -/
def shaPiecesSpec : ChangeSpec := { name := "shaPieces", fn := fun _ => fun
  | [d1, d2] => { results := [.lit (.bool true)], args := [d1, d2] }
  | _ => none }
def shaPiecesRow : OpenClaim := { program := "ytdecbimklomdjaa", sum := "8806a5d74ecb15f83a72e9eca000756f1026977575804ea0b3e23e3862330dd3", func := "purser/purserlaw04.ShaPieces", spec := "shaPieces", unfollowed := true, recurses := true, plainKeys := false, apart := false }
def ShaPiecesSaid : Prop := shaPiecesRow.holds Try.pinned (OpenSpec.ofChange shaPiecesSpec)

/-- ITS FALSE NEIGHBOUR: 'it returns false'. Refute it at one input. -/
def shaPiecesWrong : ChangeSpec := { name := "shaPieces", fn := fun _ => fun
  | [d1, d2] => { results := [.lit (.bool false)], args := [d1, d2] }
  | _ => none }
def ShaPiecesWrongFalsely : Prop := shaPiecesRow.holds Try.pinned (OpenSpec.ofChange shaPiecesWrong)

/-- 'purserlaw04.ShaParts': WHATEVER THE INPUT: true; the input reads as it did. -/
def shaPartsSpec : ChangeSpec := { name := "shaParts", fn := fun _ => fun
  | [d1, d2] => { results := [.lit (.bool true)], args := [d1, d2] }
  | _ => none }
def shaPartsRow : OpenClaim := { program := "ytdecbimklomdjaa", sum := "8806a5d74ecb15f83a72e9eca000756f1026977575804ea0b3e23e3862330dd3", func := "purser/purserlaw04.ShaParts", spec := "shaParts", unfollowed := true, recurses := true, plainKeys := false, apart := false }
def ShaPartsSaid : Prop := shaPartsRow.holds Try.pinned (OpenSpec.ofChange shaPartsSpec)

/-- ITS FALSE NEIGHBOUR: 'it returns false'. Refute it at one input. -/
def shaPartsWrong : ChangeSpec := { name := "shaParts", fn := fun _ => fun
  | [d1, d2] => { results := [.lit (.bool false)], args := [d1, d2] }
  | _ => none }
def ShaPartsWrongFalsely : Prop := shaPartsRow.holds Try.pinned (OpenSpec.ofChange shaPartsWrong)

/-- 'purserlaw04.ShaSums': WHATEVER THE INPUT: true; the input reads as it did. -/
def shaSumsSpec : ChangeSpec := { name := "shaSums", fn := fun _ => fun
  | [d] => { results := [.lit (.bool true)], args := [d] }
  | _ => none }
def shaSumsRow : OpenClaim := { program := "ytdecbimklomdjaa", sum := "8806a5d74ecb15f83a72e9eca000756f1026977575804ea0b3e23e3862330dd3", func := "purser/purserlaw04.ShaSums", spec := "shaSums", unfollowed := true, recurses := true, plainKeys := false, apart := false }
def ShaSumsSaid : Prop := shaSumsRow.holds Try.pinned (OpenSpec.ofChange shaSumsSpec)

/-- ITS FALSE NEIGHBOUR: 'it returns false'. Refute it at one input. -/
def shaSumsWrong : ChangeSpec := { name := "shaSums", fn := fun _ => fun
  | [d] => { results := [.lit (.bool false)], args := [d] }
  | _ => none }
def ShaSumsWrongFalsely : Prop := shaSumsRow.holds Try.pinned (OpenSpec.ofChange shaSumsWrong)

/-- 'purserlaw09.SignForms': WHATEVER THE INPUT: true; the input reads as it did. -/
def signFormsSpec : ChangeSpec := { name := "signForms", fn := fun _ => fun
  | [d1, d2] => { results := [.lit (.bool true)], args := [d1, d2] }
  | _ => none }
def signFormsRow : OpenClaim := { program := "ytdecbimklomdjaa", sum := "8806a5d74ecb15f83a72e9eca000756f1026977575804ea0b3e23e3862330dd3", func := "purser/purserlaw09.SignForms", spec := "signForms", unfollowed := true, recurses := true, plainKeys := false, apart := false }
def SignFormsSaid : Prop := signFormsRow.holds Try.pinned (OpenSpec.ofChange signFormsSpec)

/-- ITS FALSE NEIGHBOUR: 'it returns false'. Refute it at one input. -/
def signFormsWrong : ChangeSpec := { name := "signForms", fn := fun _ => fun
  | [d1, d2] => { results := [.lit (.bool false)], args := [d1, d2] }
  | _ => none }
def SignFormsWrongFalsely : Prop := signFormsRow.holds Try.pinned (OpenSpec.ofChange signFormsWrong)

/-- 'purserlaw27.OrphansPlays': WHATEVER THE INPUT: true; the input reads as it did. -/
def orphansPlaysSpec : ChangeSpec := { name := "orphansPlays", fn := fun _ => fun
  | [d1, d2] => { results := [.lit (.bool true)], args := [d1, d2] }
  | _ => none }
def orphansPlaysRow : OpenClaim := { program := "ytdecbimklomdjaa", sum := "8806a5d74ecb15f83a72e9eca000756f1026977575804ea0b3e23e3862330dd3", func := "purser/purserlaw27.OrphansPlays", spec := "orphansPlays", inPlace := ["internal/bytealg.MakeNoZero"], unfollowed := true, recurses := true, plainKeys := false, apart := false }
def OrphansPlaysSaid : Prop := orphansPlaysRow.holds Try.pinned (OpenSpec.ofChange orphansPlaysSpec)

/-- ITS FALSE NEIGHBOUR: 'it returns false'. Refute it at one input. -/
def orphansPlaysWrong : ChangeSpec := { name := "orphansPlays", fn := fun _ => fun
  | [d1, d2] => { results := [.lit (.bool false)], args := [d1, d2] }
  | _ => none }
def OrphansPlaysWrongFalsely : Prop := orphansPlaysRow.holds Try.pinned (OpenSpec.ofChange orphansPlaysWrong)

/-- 'purserlaw09.SignJudges': WHATEVER THE INPUT: true; the input reads as it did. -/
def signJudgesSpec : ChangeSpec := { name := "signJudges", fn := fun _ => fun
  | [d1, d2, d3] => { results := [.lit (.bool true)], args := [d1, d2, d3] }
  | _ => none }
def signJudgesRow : OpenClaim := { program := "ytdecbimklomdjaa", sum := "8806a5d74ecb15f83a72e9eca000756f1026977575804ea0b3e23e3862330dd3", func := "purser/purserlaw09.SignJudges", spec := "signJudges", unfollowed := true, recurses := true, plainKeys := false, apart := false }
def SignJudgesSaid : Prop := signJudgesRow.holds Try.pinned (OpenSpec.ofChange signJudgesSpec)

/-- ITS FALSE NEIGHBOUR: 'it returns false'. Refute it at one input. -/
def signJudgesWrong : ChangeSpec := { name := "signJudges", fn := fun _ => fun
  | [d1, d2, d3] => { results := [.lit (.bool false)], args := [d1, d2, d3] }
  | _ => none }
def SignJudgesWrongFalsely : Prop := signJudgesRow.holds Try.pinned (OpenSpec.ofChange signJudgesWrong)

/-- 'purserlaw27.OrphansNames': WHATEVER THE INPUT: true; the input reads as it did. -/
def orphansNamesSpec : ChangeSpec := { name := "orphansNames", fn := fun _ => fun
  | [] => { results := [.lit (.bool true)], args := [] }
  | _ => none }
def orphansNamesRow : OpenClaim := { program := "ytdecbimklomdjaa", sum := "8806a5d74ecb15f83a72e9eca000756f1026977575804ea0b3e23e3862330dd3", func := "purser/purserlaw27.OrphansNames", spec := "orphansNames", inPlace := ["internal/bytealg.MakeNoZero"], unfollowed := true, recurses := true, plainKeys := false, apart := false }
def OrphansNamesSaid : Prop := orphansNamesRow.holds Try.pinned (OpenSpec.ofChange orphansNamesSpec)

/-- ITS FALSE NEIGHBOUR: 'it returns false'. Refute it at one input. -/
def orphansNamesWrong : ChangeSpec := { name := "orphansNames", fn := fun _ => fun
  | [] => { results := [.lit (.bool false)], args := [] }
  | _ => none }
def OrphansNamesWrongFalsely : Prop := orphansNamesRow.holds Try.pinned (OpenSpec.ofChange orphansNamesWrong)

/-- 'purserlaw04.ShaLong': WHATEVER THE INPUT: true; the input reads as it did. -/
def shaLongSpec : ChangeSpec := { name := "shaLong", fn := fun _ => fun
  | [d1, d2] => { results := [.lit (.bool true)], args := [d1, d2] }
  | _ => none }
def shaLongRow : OpenClaim := { program := "ytdecbimklomdjaa", sum := "8806a5d74ecb15f83a72e9eca000756f1026977575804ea0b3e23e3862330dd3", func := "purser/purserlaw04.ShaLong", spec := "shaLong", unfollowed := true, recurses := true, plainKeys := false, apart := false }
def ShaLongSaid : Prop := shaLongRow.holds Try.pinned (OpenSpec.ofChange shaLongSpec)

/-- ITS FALSE NEIGHBOUR: 'it returns false'. Refute it at one input. -/
def shaLongWrong : ChangeSpec := { name := "shaLong", fn := fun _ => fun
  | [d1, d2] => { results := [.lit (.bool false)], args := [d1, d2] }
  | _ => none }
def ShaLongWrongFalsely : Prop := shaLongRow.holds Try.pinned (OpenSpec.ofChange shaLongWrong)

/-- 'purserlaw09.SignNames': WHATEVER THE INPUT: true; the input reads as it did. -/
def signNamesSpec : ChangeSpec := { name := "signNames", fn := fun _ => fun
  | [] => { results := [.lit (.bool true)], args := [] }
  | _ => none }
def signNamesRow : OpenClaim := { program := "ytdecbimklomdjaa", sum := "8806a5d74ecb15f83a72e9eca000756f1026977575804ea0b3e23e3862330dd3", func := "purser/purserlaw09.SignNames", spec := "signNames", unfollowed := true, recurses := true, plainKeys := false, apart := false }
def SignNamesSaid : Prop := signNamesRow.holds Try.pinned (OpenSpec.ofChange signNamesSpec)

/-- ITS FALSE NEIGHBOUR: 'it returns false'. Refute it at one input. -/
def signNamesWrong : ChangeSpec := { name := "signNames", fn := fun _ => fun
  | [] => { results := [.lit (.bool false)], args := [] }
  | _ => none }
def SignNamesWrongFalsely : Prop := signNamesRow.holds Try.pinned (OpenSpec.ofChange signNamesWrong)

/-- 'purserlaw09.SignBinds': WHATEVER THE INPUT: true; the input reads as it did. -/
def signBindsSpec : ChangeSpec := { name := "signBinds", fn := fun _ => fun
  | [d1, d2, d3, d4] => { results := [.lit (.bool true)], args := [d1, d2, d3, d4] }
  | _ => none }
def signBindsRow : OpenClaim := { program := "ytdecbimklomdjaa", sum := "8806a5d74ecb15f83a72e9eca000756f1026977575804ea0b3e23e3862330dd3", func := "purser/purserlaw09.SignBinds", spec := "signBinds", unfollowed := true, recurses := true, plainKeys := false, apart := false }
def SignBindsSaid : Prop := signBindsRow.holds Try.pinned (OpenSpec.ofChange signBindsSpec)

/-- ITS FALSE NEIGHBOUR: 'it returns false'. Refute it at one input. -/
def signBindsWrong : ChangeSpec := { name := "signBinds", fn := fun _ => fun
  | [d1, d2, d3, d4] => { results := [.lit (.bool false)], args := [d1, d2, d3, d4] }
  | _ => none }
def SignBindsWrongFalsely : Prop := signBindsRow.holds Try.pinned (OpenSpec.ofChange signBindsWrong)

/-- 'purserlaw09.SignTurned': WHATEVER THE INPUT: true; the input reads as it did. -/
def signTurnedSpec : ChangeSpec := { name := "signTurned", fn := fun _ => fun
  | [d1, d2, d3, d4] => { results := [.lit (.bool true)], args := [d1, d2, d3, d4] }
  | _ => none }
def signTurnedRow : OpenClaim := { program := "ytdecbimklomdjaa", sum := "8806a5d74ecb15f83a72e9eca000756f1026977575804ea0b3e23e3862330dd3", func := "purser/purserlaw09.SignTurned", spec := "signTurned", unfollowed := true, recurses := true, plainKeys := false, apart := false }
def SignTurnedSaid : Prop := signTurnedRow.holds Try.pinned (OpenSpec.ofChange signTurnedSpec)

/-- ITS FALSE NEIGHBOUR: 'it returns false'. Refute it at one input. -/
def signTurnedWrong : ChangeSpec := { name := "signTurned", fn := fun _ => fun
  | [d1, d2, d3, d4] => { results := [.lit (.bool false)], args := [d1, d2, d3, d4] }
  | _ => none }
def SignTurnedWrongFalsely : Prop := signTurnedRow.holds Try.pinned (OpenSpec.ofChange signTurnedWrong)

/-- 'purserlaw09.SignTold': WHATEVER THE INPUT: true; the input reads as it did. -/
def signToldSpec : ChangeSpec := { name := "signTold", fn := fun _ => fun
  | [d1, d2, d3] => { results := [.lit (.bool true)], args := [d1, d2, d3] }
  | _ => none }
def signToldRow : OpenClaim := { program := "ytdecbimklomdjaa", sum := "8806a5d74ecb15f83a72e9eca000756f1026977575804ea0b3e23e3862330dd3", func := "purser/purserlaw09.SignTold", spec := "signTold", unfollowed := true, recurses := true, plainKeys := false, apart := false }
def SignToldSaid : Prop := signToldRow.holds Try.pinned (OpenSpec.ofChange signToldSpec)

/-- ITS FALSE NEIGHBOUR: 'it returns false'. Refute it at one input. -/
def signToldWrong : ChangeSpec := { name := "signTold", fn := fun _ => fun
  | [d1, d2, d3] => { results := [.lit (.bool false)], args := [d1, d2, d3] }
  | _ => none }
def SignToldWrongFalsely : Prop := signToldRow.holds Try.pinned (OpenSpec.ofChange signToldWrong)

/-- 'purserlaw04.ShaRoots': WHATEVER THE INPUT: true; the input reads as it did. -/
def shaRootsSpec : ChangeSpec := { name := "shaRoots", fn := fun _ => fun
  | [] => { results := [.lit (.bool true)], args := [] }
  | _ => none }
def shaRootsRow : OpenClaim := { program := "ytdecbimklomdjaa", sum := "8806a5d74ecb15f83a72e9eca000756f1026977575804ea0b3e23e3862330dd3", func := "purser/purserlaw04.ShaRoots", spec := "shaRoots", inPlace := ["math/bits.Add64", "math/bits.Sub64"], unfollowed := true, recurses := true, plainKeys := false, apart := false }
def ShaRootsSaid : Prop := shaRootsRow.holds Try.pinned (OpenSpec.ofChange shaRootsSpec)

/-- ITS FALSE NEIGHBOUR: 'it returns false'. Refute it at one input. -/
def shaRootsWrong : ChangeSpec := { name := "shaRoots", fn := fun _ => fun
  | [] => { results := [.lit (.bool false)], args := [] }
  | _ => none }
def ShaRootsWrongFalsely : Prop := shaRootsRow.holds Try.pinned (OpenSpec.ofChange shaRootsWrong)

/-- 'purserlaw04.ShaNames': WHATEVER THE INPUT: true; the input reads as it did. -/
def shaNamesSpec : ChangeSpec := { name := "shaNames", fn := fun _ => fun
  | [] => { results := [.lit (.bool true)], args := [] }
  | _ => none }
def shaNamesRow : OpenClaim := { program := "ytdecbimklomdjaa", sum := "8806a5d74ecb15f83a72e9eca000756f1026977575804ea0b3e23e3862330dd3", func := "purser/purserlaw04.ShaNames", spec := "shaNames", inPlace := ["internal/abi.NoEscape", "internal/bytealg.MakeNoZero"], unfollowed := true, recurses := true, plainKeys := false, apart := false }
def ShaNamesSaid : Prop := shaNamesRow.holds Try.pinned (OpenSpec.ofChange shaNamesSpec)

/-- ITS FALSE NEIGHBOUR: 'it returns false'. Refute it at one input. -/
def shaNamesWrong : ChangeSpec := { name := "shaNames", fn := fun _ => fun
  | [] => { results := [.lit (.bool false)], args := [] }
  | _ => none }
def ShaNamesWrongFalsely : Prop := shaNamesRow.holds Try.pinned (OpenSpec.ofChange shaNamesWrong)

/-- 'purserlaw27.OrphansRoom': WHATEVER THE INPUT: true; the input reads as it did. -/
def orphansRoomSpec : ChangeSpec := { name := "orphansRoom", fn := fun _ => fun
  | [d1, d2, d3] => { results := [.lit (.bool true)], args := [d1, d2, d3] }
  | _ => none }
def orphansRoomRow : OpenClaim := { program := "ytdecbimklomdjaa", sum := "8806a5d74ecb15f83a72e9eca000756f1026977575804ea0b3e23e3862330dd3", func := "purser/purserlaw27.OrphansRoom", spec := "orphansRoom", inPlace := ["internal/bytealg.MakeNoZero"], unfollowed := true, recurses := true, plainKeys := false, apart := false }
def OrphansRoomSaid : Prop := orphansRoomRow.holds Try.pinned (OpenSpec.ofChange orphansRoomSpec)

/-- ITS FALSE NEIGHBOUR: 'it returns false'. Refute it at one input. -/
def orphansRoomWrong : ChangeSpec := { name := "orphansRoom", fn := fun _ => fun
  | [d1, d2, d3] => { results := [.lit (.bool false)], args := [d1, d2, d3] }
  | _ => none }
def OrphansRoomWrongFalsely : Prop := orphansRoomRow.holds Try.pinned (OpenSpec.ofChange orphansRoomWrong)

/-- 'purserlaw27.OrphansDrop': WHATEVER THE INPUT: true; the input reads as it did. -/
def orphansDropSpec : ChangeSpec := { name := "orphansDrop", fn := fun _ => fun
  | [d1, d2] => { results := [.lit (.bool true)], args := [d1, d2] }
  | _ => none }
def orphansDropRow : OpenClaim := { program := "ytdecbimklomdjaa", sum := "8806a5d74ecb15f83a72e9eca000756f1026977575804ea0b3e23e3862330dd3", func := "purser/purserlaw27.OrphansDrop", spec := "orphansDrop", inPlace := ["internal/bytealg.MakeNoZero"], unfollowed := true, recurses := true, plainKeys := false, apart := false }
def OrphansDropSaid : Prop := orphansDropRow.holds Try.pinned (OpenSpec.ofChange orphansDropSpec)

/-- ITS FALSE NEIGHBOUR: 'it returns false'. Refute it at one input. -/
def orphansDropWrong : ChangeSpec := { name := "orphansDrop", fn := fun _ => fun
  | [d1, d2] => { results := [.lit (.bool false)], args := [d1, d2] }
  | _ => none }
def OrphansDropWrongFalsely : Prop := orphansDropRow.holds Try.pinned (OpenSpec.ofChange orphansDropWrong)

/-- 'purserlaw27.OrphansNext': WHATEVER THE INPUT: true; the input reads as it did. -/
def orphansNextSpec : ChangeSpec := { name := "orphansNext", fn := fun _ => fun
  | [d1, d2] => { results := [.lit (.bool true)], args := [d1, d2] }
  | _ => none }
def orphansNextRow : OpenClaim := { program := "ytdecbimklomdjaa", sum := "8806a5d74ecb15f83a72e9eca000756f1026977575804ea0b3e23e3862330dd3", func := "purser/purserlaw27.OrphansNext", spec := "orphansNext", inPlace := ["internal/bytealg.MakeNoZero"], unfollowed := true, recurses := true, plainKeys := false, apart := false }
def OrphansNextSaid : Prop := orphansNextRow.holds Try.pinned (OpenSpec.ofChange orphansNextSpec)

/-- ITS FALSE NEIGHBOUR: 'it returns false'. Refute it at one input. -/
def orphansNextWrong : ChangeSpec := { name := "orphansNext", fn := fun _ => fun
  | [d1, d2] => { results := [.lit (.bool false)], args := [d1, d2] }
  | _ => none }
def OrphansNextWrongFalsely : Prop := orphansNextRow.holds Try.pinned (OpenSpec.ofChange orphansNextWrong)

/- THE SECOND FORM. 'bulk': how many values and letters a reading holds, each counted each time it is reached (what is shared counts as often as it is met; a slice's spare places count too). A statement '..UptoSaid' is the law's where the arguments, and the package variables that the reading takes, are together of bulk at most 1048576: NARROWER than '..Said'. Prove '..Said' where nothing that the law and all that it calls make is longer than what came in: it says more and counts as full. Else prove '..UptoSaid'. A law counts once. -/
mutual
def uptoBulk {H : Type} : DataW H → Nat
  | .lit (.string bytes) => bytes.length + 1
  | .lit _ => 1
  | .nil => 1
  | .ptr d => uptoBulk d + 1
  | .slice elems spare => uptoBulkAll elems + uptoBulkAll spare + 1
  | .agg parts => uptoBulkAll parts + 1
  | .iface _ d => uptoBulk d + 1
  | .map entries => uptoBulkEntries entries + 1
  | .held _ => 1
def uptoBulkAll {H : Type} : List (DataW H) → Nat
  | [] => 0
  | d :: r => uptoBulk d + uptoBulkAll r
def uptoBulkEntries {H : Type} : List (Lit × DataW H) → Nat
  | [] => 0
  | x :: r => uptoBulkEntry x + uptoBulkEntries r
def uptoBulkEntry {H : Type} : Lit × DataW H → Nat
  | (.string bytes, d) => bytes.length + uptoBulk d + 1
  | (_, d) => uptoBulk d + 1
 end
def uptoSmall : (H : Type) → List (DataW H) → Bool := fun _ ds => decide (uptoBulkAll ds ≤ 1048576)
def OpenSpec.upto (s : _root_.Go.ChangeSpec) : _root_.Go.OpenSpec := { _root_.Go.OpenSpec.ofChange s with cond := some uptoSmall }

/-- 'purserlaw04.ShaPieces', WHERE WHAT IT READS IS OF BULK AT MOST 1048576: true; the input reads as it did. -/
def shaPiecesUptoRow : OpenClaim := { program := "ytdecbimklomdjaa", sum := "8806a5d74ecb15f83a72e9eca000756f1026977575804ea0b3e23e3862330dd3", func := "purser/purserlaw04.ShaPieces", spec := "shaPieces", unfollowed := true, recurses := true, plainKeys := false, apart := false, narrowed := true }
def ShaPiecesUptoSaid : Prop := shaPiecesUptoRow.holds Try.pinned (OpenSpec.upto shaPiecesSpec)

/-- 'purserlaw04.ShaParts', WHERE WHAT IT READS IS OF BULK AT MOST 1048576: true; the input reads as it did. -/
def shaPartsUptoRow : OpenClaim := { program := "ytdecbimklomdjaa", sum := "8806a5d74ecb15f83a72e9eca000756f1026977575804ea0b3e23e3862330dd3", func := "purser/purserlaw04.ShaParts", spec := "shaParts", unfollowed := true, recurses := true, plainKeys := false, apart := false, narrowed := true }
def ShaPartsUptoSaid : Prop := shaPartsUptoRow.holds Try.pinned (OpenSpec.upto shaPartsSpec)

/-- 'purserlaw04.ShaSums', WHERE WHAT IT READS IS OF BULK AT MOST 1048576: true; the input reads as it did. -/
def shaSumsUptoRow : OpenClaim := { program := "ytdecbimklomdjaa", sum := "8806a5d74ecb15f83a72e9eca000756f1026977575804ea0b3e23e3862330dd3", func := "purser/purserlaw04.ShaSums", spec := "shaSums", unfollowed := true, recurses := true, plainKeys := false, apart := false, narrowed := true }
def ShaSumsUptoSaid : Prop := shaSumsUptoRow.holds Try.pinned (OpenSpec.upto shaSumsSpec)

/-- 'purserlaw09.SignForms', WHERE WHAT IT READS IS OF BULK AT MOST 1048576: true; the input reads as it did. -/
def signFormsUptoRow : OpenClaim := { program := "ytdecbimklomdjaa", sum := "8806a5d74ecb15f83a72e9eca000756f1026977575804ea0b3e23e3862330dd3", func := "purser/purserlaw09.SignForms", spec := "signForms", unfollowed := true, recurses := true, plainKeys := false, apart := false, narrowed := true }
def SignFormsUptoSaid : Prop := signFormsUptoRow.holds Try.pinned (OpenSpec.upto signFormsSpec)

/-- 'purserlaw27.OrphansPlays', WHERE WHAT IT READS IS OF BULK AT MOST 1048576: true; the input reads as it did. -/
def orphansPlaysUptoRow : OpenClaim := { program := "ytdecbimklomdjaa", sum := "8806a5d74ecb15f83a72e9eca000756f1026977575804ea0b3e23e3862330dd3", func := "purser/purserlaw27.OrphansPlays", spec := "orphansPlays", inPlace := ["internal/bytealg.MakeNoZero"], unfollowed := true, recurses := true, plainKeys := false, apart := false, narrowed := true }
def OrphansPlaysUptoSaid : Prop := orphansPlaysUptoRow.holds Try.pinned (OpenSpec.upto orphansPlaysSpec)

/-- 'purserlaw09.SignJudges', WHERE WHAT IT READS IS OF BULK AT MOST 1048576: true; the input reads as it did. -/
def signJudgesUptoRow : OpenClaim := { program := "ytdecbimklomdjaa", sum := "8806a5d74ecb15f83a72e9eca000756f1026977575804ea0b3e23e3862330dd3", func := "purser/purserlaw09.SignJudges", spec := "signJudges", unfollowed := true, recurses := true, plainKeys := false, apart := false, narrowed := true }
def SignJudgesUptoSaid : Prop := signJudgesUptoRow.holds Try.pinned (OpenSpec.upto signJudgesSpec)

/-- 'purserlaw27.OrphansNames', WHERE WHAT IT READS IS OF BULK AT MOST 1048576: true; the input reads as it did. -/
def orphansNamesUptoRow : OpenClaim := { program := "ytdecbimklomdjaa", sum := "8806a5d74ecb15f83a72e9eca000756f1026977575804ea0b3e23e3862330dd3", func := "purser/purserlaw27.OrphansNames", spec := "orphansNames", inPlace := ["internal/bytealg.MakeNoZero"], unfollowed := true, recurses := true, plainKeys := false, apart := false, narrowed := true }
def OrphansNamesUptoSaid : Prop := orphansNamesUptoRow.holds Try.pinned (OpenSpec.upto orphansNamesSpec)

/-- 'purserlaw04.ShaLong', WHERE WHAT IT READS IS OF BULK AT MOST 1048576: true; the input reads as it did. -/
def shaLongUptoRow : OpenClaim := { program := "ytdecbimklomdjaa", sum := "8806a5d74ecb15f83a72e9eca000756f1026977575804ea0b3e23e3862330dd3", func := "purser/purserlaw04.ShaLong", spec := "shaLong", unfollowed := true, recurses := true, plainKeys := false, apart := false, narrowed := true }
def ShaLongUptoSaid : Prop := shaLongUptoRow.holds Try.pinned (OpenSpec.upto shaLongSpec)

/-- 'purserlaw09.SignNames', WHERE WHAT IT READS IS OF BULK AT MOST 1048576: true; the input reads as it did. -/
def signNamesUptoRow : OpenClaim := { program := "ytdecbimklomdjaa", sum := "8806a5d74ecb15f83a72e9eca000756f1026977575804ea0b3e23e3862330dd3", func := "purser/purserlaw09.SignNames", spec := "signNames", unfollowed := true, recurses := true, plainKeys := false, apart := false, narrowed := true }
def SignNamesUptoSaid : Prop := signNamesUptoRow.holds Try.pinned (OpenSpec.upto signNamesSpec)

/-- 'purserlaw09.SignBinds', WHERE WHAT IT READS IS OF BULK AT MOST 1048576: true; the input reads as it did. -/
def signBindsUptoRow : OpenClaim := { program := "ytdecbimklomdjaa", sum := "8806a5d74ecb15f83a72e9eca000756f1026977575804ea0b3e23e3862330dd3", func := "purser/purserlaw09.SignBinds", spec := "signBinds", unfollowed := true, recurses := true, plainKeys := false, apart := false, narrowed := true }
def SignBindsUptoSaid : Prop := signBindsUptoRow.holds Try.pinned (OpenSpec.upto signBindsSpec)

/-- 'purserlaw09.SignTurned', WHERE WHAT IT READS IS OF BULK AT MOST 1048576: true; the input reads as it did. -/
def signTurnedUptoRow : OpenClaim := { program := "ytdecbimklomdjaa", sum := "8806a5d74ecb15f83a72e9eca000756f1026977575804ea0b3e23e3862330dd3", func := "purser/purserlaw09.SignTurned", spec := "signTurned", unfollowed := true, recurses := true, plainKeys := false, apart := false, narrowed := true }
def SignTurnedUptoSaid : Prop := signTurnedUptoRow.holds Try.pinned (OpenSpec.upto signTurnedSpec)

/-- 'purserlaw09.SignTold', WHERE WHAT IT READS IS OF BULK AT MOST 1048576: true; the input reads as it did. -/
def signToldUptoRow : OpenClaim := { program := "ytdecbimklomdjaa", sum := "8806a5d74ecb15f83a72e9eca000756f1026977575804ea0b3e23e3862330dd3", func := "purser/purserlaw09.SignTold", spec := "signTold", unfollowed := true, recurses := true, plainKeys := false, apart := false, narrowed := true }
def SignToldUptoSaid : Prop := signToldUptoRow.holds Try.pinned (OpenSpec.upto signToldSpec)

/-- 'purserlaw04.ShaRoots', WHERE WHAT IT READS IS OF BULK AT MOST 1048576: true; the input reads as it did. -/
def shaRootsUptoRow : OpenClaim := { program := "ytdecbimklomdjaa", sum := "8806a5d74ecb15f83a72e9eca000756f1026977575804ea0b3e23e3862330dd3", func := "purser/purserlaw04.ShaRoots", spec := "shaRoots", inPlace := ["math/bits.Add64", "math/bits.Sub64"], unfollowed := true, recurses := true, plainKeys := false, apart := false, narrowed := true }
def ShaRootsUptoSaid : Prop := shaRootsUptoRow.holds Try.pinned (OpenSpec.upto shaRootsSpec)

/-- 'purserlaw04.ShaNames', WHERE WHAT IT READS IS OF BULK AT MOST 1048576: true; the input reads as it did. -/
def shaNamesUptoRow : OpenClaim := { program := "ytdecbimklomdjaa", sum := "8806a5d74ecb15f83a72e9eca000756f1026977575804ea0b3e23e3862330dd3", func := "purser/purserlaw04.ShaNames", spec := "shaNames", inPlace := ["internal/abi.NoEscape", "internal/bytealg.MakeNoZero"], unfollowed := true, recurses := true, plainKeys := false, apart := false, narrowed := true }
def ShaNamesUptoSaid : Prop := shaNamesUptoRow.holds Try.pinned (OpenSpec.upto shaNamesSpec)

/-- 'purserlaw27.OrphansRoom', WHERE WHAT IT READS IS OF BULK AT MOST 1048576: true; the input reads as it did. -/
def orphansRoomUptoRow : OpenClaim := { program := "ytdecbimklomdjaa", sum := "8806a5d74ecb15f83a72e9eca000756f1026977575804ea0b3e23e3862330dd3", func := "purser/purserlaw27.OrphansRoom", spec := "orphansRoom", inPlace := ["internal/bytealg.MakeNoZero"], unfollowed := true, recurses := true, plainKeys := false, apart := false, narrowed := true }
def OrphansRoomUptoSaid : Prop := orphansRoomUptoRow.holds Try.pinned (OpenSpec.upto orphansRoomSpec)

/-- 'purserlaw27.OrphansDrop', WHERE WHAT IT READS IS OF BULK AT MOST 1048576: true; the input reads as it did. -/
def orphansDropUptoRow : OpenClaim := { program := "ytdecbimklomdjaa", sum := "8806a5d74ecb15f83a72e9eca000756f1026977575804ea0b3e23e3862330dd3", func := "purser/purserlaw27.OrphansDrop", spec := "orphansDrop", inPlace := ["internal/bytealg.MakeNoZero"], unfollowed := true, recurses := true, plainKeys := false, apart := false, narrowed := true }
def OrphansDropUptoSaid : Prop := orphansDropUptoRow.holds Try.pinned (OpenSpec.upto orphansDropSpec)

/-- 'purserlaw27.OrphansNext', WHERE WHAT IT READS IS OF BULK AT MOST 1048576: true; the input reads as it did. -/
def orphansNextUptoRow : OpenClaim := { program := "ytdecbimklomdjaa", sum := "8806a5d74ecb15f83a72e9eca000756f1026977575804ea0b3e23e3862330dd3", func := "purser/purserlaw27.OrphansNext", spec := "orphansNext", inPlace := ["internal/bytealg.MakeNoZero"], unfollowed := true, recurses := true, plainKeys := false, apart := false, narrowed := true }
def OrphansNextUptoSaid : Prop := orphansNextUptoRow.holds Try.pinned (OpenSpec.upto orphansNextSpec)

end Rows
end Go.Proofs.Ytdecbimklomdjaa
