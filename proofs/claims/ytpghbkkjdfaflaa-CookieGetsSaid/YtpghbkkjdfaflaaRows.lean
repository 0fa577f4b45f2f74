/-
  No cell of these rows narrows 'for every input' (looked for: loops, veiled, ifaces, maps, wideKeys, modest, calm, conditions, laid).
  DERIVED. THE GIVEN ROWS OF THIS SEAT. 12 by the template 'for every input the law returns true; each argument reads behind the call as it read before'; 0 by the template 'total and deterministic' (their statements: YtpghbkkjdfaflaaTotals.lean).
  GIVEN WITH THE SEED: the statements are not yours to turn. If you find one false, say at which input.
  Laid BY PROGRAM, IN A SANDBOX (cutbox-rows.mjs): the forced cells as the released guide's own fill.sh prints them over the translation fb1eaead8983d1f4… (all of the seat's roots in one cut). By AI agents, Wed Nov 11 2026. No macro, syntax, notation, axiom, sorry.
-/
import Derived.Test.YtpghbkkjdfaflaaChecked
import GoSem.Claim
import GoSem.ClaimJoined
import GoSem.ClaimMapViews
import Derived.JoinedTies
import Derived.KernelRfl
namespace Go.Proofs.Ytpghbkkjdfaflaa
/- THE CELL 'sum', in the pinned program and in every row, IS THE sha256 OF THE DUMP (.gsa) THAT YtpghbkkjdfaflaaProg.lean LOADS. Nothing in Lean hashes anything: it is a label: what it is worth is what the hold of that sum in a sandbox is worth. -/
noncomputable def Try.pinned : Pinned := { name := "ytpghbkkjdfaflaa", sum := "fb1eaead8983d1f46595d528061ad43155f689f4cfe224630e76ac97786f5a78", checked := Try.checked }
namespace Rows
def none {H : Type} : Left H := { results := [], args := [] }

/-- 'crosswaylaw40.FilerReads': WHATEVER THE INPUT: true; the input reads as it did. -/
def filerReadsSpec : ChangeSpec := { name := "filerReads", fn := fun _ => fun
  | [d1, d2, d3] => { results := [.lit (.bool true)], args := [d1, d2, d3] }
  | _ => none }
def filerReadsRow : OpenClaim := { program := "ytpghbkkjdfaflaa", sum := "fb1eaead8983d1f46595d528061ad43155f689f4cfe224630e76ac97786f5a78", func := "crossway/crosswaylaw40.FilerReads", spec := "filerReads", unfollowed := true, recurses := true, apart := false }
def FilerReadsSaid : Prop := filerReadsRow.holds Try.pinned (OpenSpec.ofChange filerReadsSpec)

/-- ITS FALSE NEIGHBOUR: 'it returns false'. Refute it at one input. -/
def filerReadsWrong : ChangeSpec := { name := "filerReads", fn := fun _ => fun
  | [d1, d2, d3] => { results := [.lit (.bool false)], args := [d1, d2, d3] }
  | _ => none }
def FilerReadsWrongFalsely : Prop := filerReadsRow.holds Try.pinned (OpenSpec.ofChange filerReadsWrong)

/-- 'crosswaylaw28.ReconfAnswers': WHATEVER THE INPUT: true; the input reads as it did. -/
def reconfAnswersSpec : ChangeSpec := { name := "reconfAnswers", fn := fun _ => fun
  | [d1, d2, d3] => { results := [.lit (.bool true)], args := [d1, d2, d3] }
  | _ => none }
def reconfAnswersRow : OpenClaim := { program := "ytpghbkkjdfaflaa", sum := "fb1eaead8983d1f46595d528061ad43155f689f4cfe224630e76ac97786f5a78", func := "crossway/crosswaylaw28.ReconfAnswers", spec := "reconfAnswers", unfollowed := true, recurses := true, apart := false }
def ReconfAnswersSaid : Prop := reconfAnswersRow.holds Try.pinned (OpenSpec.ofChange reconfAnswersSpec)

/-- ITS FALSE NEIGHBOUR: 'it returns false'. Refute it at one input. -/
def reconfAnswersWrong : ChangeSpec := { name := "reconfAnswers", fn := fun _ => fun
  | [d1, d2, d3] => { results := [.lit (.bool false)], args := [d1, d2, d3] }
  | _ => none }
def ReconfAnswersWrongFalsely : Prop := reconfAnswersRow.holds Try.pinned (OpenSpec.ofChange reconfAnswersWrong)

/-- 'crosswaylaw40.FilerLimits': WHATEVER THE INPUT: true; the input reads as it did. -/
def filerLimitsSpec : ChangeSpec := { name := "filerLimits", fn := fun _ => fun
  | [d] => { results := [.lit (.bool true)], args := [d] }
  | _ => none }
def filerLimitsRow : OpenClaim := { program := "ytpghbkkjdfaflaa", sum := "fb1eaead8983d1f46595d528061ad43155f689f4cfe224630e76ac97786f5a78", func := "crossway/crosswaylaw40.FilerLimits", spec := "filerLimits", unfollowed := true, recurses := true, apart := false }
def FilerLimitsSaid : Prop := filerLimitsRow.holds Try.pinned (OpenSpec.ofChange filerLimitsSpec)

/-- ITS FALSE NEIGHBOUR: 'it returns false'. Refute it at one input. -/
def filerLimitsWrong : ChangeSpec := { name := "filerLimits", fn := fun _ => fun
  | [d] => { results := [.lit (.bool false)], args := [d] }
  | _ => none }
def FilerLimitsWrongFalsely : Prop := filerLimitsRow.holds Try.pinned (OpenSpec.ofChange filerLimitsWrong)

/-- 'crosswaylaw28.ReconfAsks': WHATEVER THE INPUT: true; the input reads as it did. -/
def reconfAsksSpec : ChangeSpec := { name := "reconfAsks", fn := fun _ => fun
  | [d1, d2] => { results := [.lit (.bool true)], args := [d1, d2] }
  | _ => none }
def reconfAsksRow : OpenClaim := { program := "ytpghbkkjdfaflaa", sum := "fb1eaead8983d1f46595d528061ad43155f689f4cfe224630e76ac97786f5a78", func := "crossway/crosswaylaw28.ReconfAsks", spec := "reconfAsks", unfollowed := true, recurses := true, apart := false }
def ReconfAsksSaid : Prop := reconfAsksRow.holds Try.pinned (OpenSpec.ofChange reconfAsksSpec)

/-- ITS FALSE NEIGHBOUR: 'it returns false'. Refute it at one input. -/
def reconfAsksWrong : ChangeSpec := { name := "reconfAsks", fn := fun _ => fun
  | [d1, d2] => { results := [.lit (.bool false)], args := [d1, d2] }
  | _ => none }
def ReconfAsksWrongFalsely : Prop := reconfAsksRow.holds Try.pinned (OpenSpec.ofChange reconfAsksWrong)

/-- 'crosswaylaw15.PathsPlays': WHATEVER THE INPUT: true; the input reads as it did. -/
def pathsPlaysSpec : ChangeSpec := { name := "pathsPlays", fn := fun _ => fun
  | [d] => { results := [.lit (.bool true)], args := [d] }
  | _ => none }
def pathsPlaysRow : OpenClaim := { program := "ytpghbkkjdfaflaa", sum := "fb1eaead8983d1f46595d528061ad43155f689f4cfe224630e76ac97786f5a78", func := "crossway/crosswaylaw15.PathsPlays", spec := "pathsPlays", unfollowed := true, recurses := true, apart := false }
def PathsPlaysSaid : Prop := pathsPlaysRow.holds Try.pinned (OpenSpec.ofChange pathsPlaysSpec)

/-- ITS FALSE NEIGHBOUR: 'it returns false'. Refute it at one input. -/
def pathsPlaysWrong : ChangeSpec := { name := "pathsPlays", fn := fun _ => fun
  | [d] => { results := [.lit (.bool false)], args := [d] }
  | _ => none }
def PathsPlaysWrongFalsely : Prop := pathsPlaysRow.holds Try.pinned (OpenSpec.ofChange pathsPlaysWrong)

/-- 'crosswaylaw40.FilerSends': WHATEVER THE INPUT: true; the input reads as it did. -/
def filerSendsSpec : ChangeSpec := { name := "filerSends", fn := fun _ => fun
  | [d1, d2] => { results := [.lit (.bool true)], args := [d1, d2] }
  | _ => none }
def filerSendsRow : OpenClaim := { program := "ytpghbkkjdfaflaa", sum := "fb1eaead8983d1f46595d528061ad43155f689f4cfe224630e76ac97786f5a78", func := "crossway/crosswaylaw40.FilerSends", spec := "filerSends", unfollowed := true, recurses := true, apart := false }
def FilerSendsSaid : Prop := filerSendsRow.holds Try.pinned (OpenSpec.ofChange filerSendsSpec)

/-- ITS FALSE NEIGHBOUR: 'it returns false'. Refute it at one input. -/
def filerSendsWrong : ChangeSpec := { name := "filerSends", fn := fun _ => fun
  | [d1, d2] => { results := [.lit (.bool false)], args := [d1, d2] }
  | _ => none }
def FilerSendsWrongFalsely : Prop := filerSendsRow.holds Try.pinned (OpenSpec.ofChange filerSendsWrong)

/-- 'crosswaylaw40.FilerNone': WHATEVER THE INPUT: true; the input reads as it did. -/
def filerNoneSpec : ChangeSpec := { name := "filerNone", fn := fun _ => fun
  | [d1, d2] => { results := [.lit (.bool true)], args := [d1, d2] }
  | _ => none }
def filerNoneRow : OpenClaim := { program := "ytpghbkkjdfaflaa", sum := "fb1eaead8983d1f46595d528061ad43155f689f4cfe224630e76ac97786f5a78", func := "crossway/crosswaylaw40.FilerNone", spec := "filerNone", unfollowed := true, recurses := true, apart := false }
def FilerNoneSaid : Prop := filerNoneRow.holds Try.pinned (OpenSpec.ofChange filerNoneSpec)

/-- ITS FALSE NEIGHBOUR: 'it returns false'. Refute it at one input. -/
def filerNoneWrong : ChangeSpec := { name := "filerNone", fn := fun _ => fun
  | [d1, d2] => { results := [.lit (.bool false)], args := [d1, d2] }
  | _ => none }
def FilerNoneWrongFalsely : Prop := filerNoneRow.holds Try.pinned (OpenSpec.ofChange filerNoneWrong)

/-- 'crosswaylaw10.CookiePuts': WHATEVER THE INPUT: true; the input reads as it did. -/
def cookiePutsSpec : ChangeSpec := { name := "cookiePuts", fn := fun _ => fun
  | [d1, d2, d3] => { results := [.lit (.bool true)], args := [d1, d2, d3] }
  | _ => none }
def cookiePutsRow : OpenClaim := { program := "ytpghbkkjdfaflaa", sum := "fb1eaead8983d1f46595d528061ad43155f689f4cfe224630e76ac97786f5a78", func := "crossway/crosswaylaw10.CookiePuts", spec := "cookiePuts", recurses := true, apart := false }
def CookiePutsSaid : Prop := cookiePutsRow.holds Try.pinned (OpenSpec.ofChange cookiePutsSpec)

/-- ITS FALSE NEIGHBOUR: 'it returns false'. Refute it at one input. -/
def cookiePutsWrong : ChangeSpec := { name := "cookiePuts", fn := fun _ => fun
  | [d1, d2, d3] => { results := [.lit (.bool false)], args := [d1, d2, d3] }
  | _ => none }
def CookiePutsWrongFalsely : Prop := cookiePutsRow.holds Try.pinned (OpenSpec.ofChange cookiePutsWrong)

/-- 'crosswaylaw10.CookieGets': WHATEVER THE INPUT: true; the input reads as it did. -/
def cookieGetsSpec : ChangeSpec := { name := "cookieGets", fn := fun _ => fun
  | [d1, d2, d3] => { results := [.lit (.bool true)], args := [d1, d2, d3] }
  | _ => none }
def cookieGetsRow : OpenClaim := { program := "ytpghbkkjdfaflaa", sum := "fb1eaead8983d1f46595d528061ad43155f689f4cfe224630e76ac97786f5a78", func := "crossway/crosswaylaw10.CookieGets", spec := "cookieGets", recurses := true, apart := false }
def CookieGetsSaid : Prop := cookieGetsRow.holds Try.pinned (OpenSpec.ofChange cookieGetsSpec)

/-- ITS FALSE NEIGHBOUR: 'it returns false'. Refute it at one input. -/
def cookieGetsWrong : ChangeSpec := { name := "cookieGets", fn := fun _ => fun
  | [d1, d2, d3] => { results := [.lit (.bool false)], args := [d1, d2, d3] }
  | _ => none }
def CookieGetsWrongFalsely : Prop := cookieGetsRow.holds Try.pinned (OpenSpec.ofChange cookieGetsWrong)

/-- 'crosswaylaw10.CookieBent': WHATEVER THE INPUT: true; the input reads as it did. -/
def cookieBentSpec : ChangeSpec := { name := "cookieBent", fn := fun _ => fun
  | [d1, d2, d3] => { results := [.lit (.bool true)], args := [d1, d2, d3] }
  | _ => none }
def cookieBentRow : OpenClaim := { program := "ytpghbkkjdfaflaa", sum := "fb1eaead8983d1f46595d528061ad43155f689f4cfe224630e76ac97786f5a78", func := "crossway/crosswaylaw10.CookieBent", spec := "cookieBent", apart := false }
def CookieBentSaid : Prop := cookieBentRow.holds Try.pinned (OpenSpec.ofChange cookieBentSpec)

/-- ITS FALSE NEIGHBOUR: 'it returns false'. Refute it at one input. -/
def cookieBentWrong : ChangeSpec := { name := "cookieBent", fn := fun _ => fun
  | [d1, d2, d3] => { results := [.lit (.bool false)], args := [d1, d2, d3] }
  | _ => none }
def CookieBentWrongFalsely : Prop := cookieBentRow.holds Try.pinned (OpenSpec.ofChange cookieBentWrong)

/-- 'crosswaylaw17.ReasmPlays': WHATEVER THE INPUT: true; the input reads as it did. -/
def reasmPlaysSpec : ChangeSpec := { name := "reasmPlays", fn := fun _ => fun
  | [d1, d2] => { results := [.lit (.bool true)], args := [d1, d2] }
  | _ => none }
def reasmPlaysRow : OpenClaim := { program := "ytpghbkkjdfaflaa", sum := "fb1eaead8983d1f46595d528061ad43155f689f4cfe224630e76ac97786f5a78", func := "crossway/crosswaylaw17.ReasmPlays", spec := "reasmPlays", inPlace := ["slices.overlaps[crossway/api.Chunk]"], unfollowed := true, recurses := true, apart := false }
def ReasmPlaysSaid : Prop := reasmPlaysRow.holds Try.pinned (OpenSpec.ofChange reasmPlaysSpec)

/-- ITS FALSE NEIGHBOUR: 'it returns false'. Refute it at one input. -/
def reasmPlaysWrong : ChangeSpec := { name := "reasmPlays", fn := fun _ => fun
  | [d1, d2] => { results := [.lit (.bool false)], args := [d1, d2] }
  | _ => none }
def ReasmPlaysWrongFalsely : Prop := reasmPlaysRow.holds Try.pinned (OpenSpec.ofChange reasmPlaysWrong)

/-- 'crosswaylaw17.ReasmNone': WHATEVER THE INPUT: true; the input reads as it did. -/
def reasmNoneSpec : ChangeSpec := { name := "reasmNone", fn := fun _ => fun
  | [d] => { results := [.lit (.bool true)], args := [d] }
  | _ => none }
def reasmNoneRow : OpenClaim := { program := "ytpghbkkjdfaflaa", sum := "fb1eaead8983d1f46595d528061ad43155f689f4cfe224630e76ac97786f5a78", func := "crossway/crosswaylaw17.ReasmNone", spec := "reasmNone", inPlace := ["slices.overlaps[crossway/api.Chunk]"], unfollowed := true, recurses := true, apart := false }
def ReasmNoneSaid : Prop := reasmNoneRow.holds Try.pinned (OpenSpec.ofChange reasmNoneSpec)

/-- ITS FALSE NEIGHBOUR: 'it returns false'. Refute it at one input. -/
def reasmNoneWrong : ChangeSpec := { name := "reasmNone", fn := fun _ => fun
  | [d] => { results := [.lit (.bool false)], args := [d] }
  | _ => none }
def ReasmNoneWrongFalsely : Prop := reasmNoneRow.holds Try.pinned (OpenSpec.ofChange reasmNoneWrong)

/- THE SECOND FORM. 'bulk': how many values and letters a reading holds, each counted each time it is reached (what is shared counts as often as it is met; a slice's spare places count too). A statement '..UptoSaid' is the law's where the arguments, and the package variables that the reading takes, are together of bulk at most 1048576: NARROWER than '..Said'. Prove '..Said' where nothing that the law and all that it calls make is longer than what came in: it says more and counts as full. Else prove '..UptoSaid'. A law counts once. -/
mutual
def uptoBulk {H : Type} : DataW H → Nat
  | .lit (.string bytes) => bytes.length + 1
  | .lit _ => 1
  | .nil => 1
  | .ptr d => uptoBulk d + 1
  | .slice elems spare => uptoBulkAll elems + uptoBulkAll spare + 1
  | .agg parts => uptoBulkAll parts + 1
  | .iface _ d => uptoBulk d + 1
  | .map entries => uptoBulkEntries entries + 1
  | .held _ => 1
def uptoBulkAll {H : Type} : List (DataW H) → Nat
  | [] => 0
  | d :: r => uptoBulk d + uptoBulkAll r
def uptoBulkEntries {H : Type} : List (Lit × DataW H) → Nat
  | [] => 0
  | x :: r => uptoBulkEntry x + uptoBulkEntries r
def uptoBulkEntry {H : Type} : Lit × DataW H → Nat
  | (.string bytes, d) => bytes.length + uptoBulk d + 1
  | (_, d) => uptoBulk d + 1
 end
def uptoSmall : (H : Type) → List (DataW H) → Bool := fun _ ds => decide (uptoBulkAll ds ≤ 1048576)
def OpenSpec.upto (s : _root_.Go.ChangeSpec) : _root_.Go.OpenSpec := { _root_.Go.OpenSpec.ofChange s with cond := some uptoSmall }

/-- 'crosswaylaw40.FilerReads', WHERE WHAT IT READS IS OF BULK AT MOST 1048576: true; the input reads as it did. -/
def filerReadsUptoRow : OpenClaim := { program := "ytpghbkkjdfaflaa", sum := "fb1eaead8983d1f46595d528061ad43155f689f4cfe224630e76ac97786f5a78", func := "crossway/crosswaylaw40.FilerReads", spec := "filerReads", unfollowed := true, recurses := true, apart := false, narrowed := true }
def FilerReadsUptoSaid : Prop := filerReadsUptoRow.holds Try.pinned (OpenSpec.upto filerReadsSpec)

/-- 'crosswaylaw28.ReconfAnswers', WHERE WHAT IT READS IS OF BULK AT MOST 1048576: true; the input reads as it did. -/
def reconfAnswersUptoRow : OpenClaim := { program := "ytpghbkkjdfaflaa", sum := "fb1eaead8983d1f46595d528061ad43155f689f4cfe224630e76ac97786f5a78", func := "crossway/crosswaylaw28.ReconfAnswers", spec := "reconfAnswers", unfollowed := true, recurses := true, apart := false, narrowed := true }
def ReconfAnswersUptoSaid : Prop := reconfAnswersUptoRow.holds Try.pinned (OpenSpec.upto reconfAnswersSpec)

/-- 'crosswaylaw40.FilerLimits', WHERE WHAT IT READS IS OF BULK AT MOST 1048576: true; the input reads as it did. -/
def filerLimitsUptoRow : OpenClaim := { program := "ytpghbkkjdfaflaa", sum := "fb1eaead8983d1f46595d528061ad43155f689f4cfe224630e76ac97786f5a78", func := "crossway/crosswaylaw40.FilerLimits", spec := "filerLimits", unfollowed := true, recurses := true, apart := false, narrowed := true }
def FilerLimitsUptoSaid : Prop := filerLimitsUptoRow.holds Try.pinned (OpenSpec.upto filerLimitsSpec)

/-- 'crosswaylaw28.ReconfAsks', WHERE WHAT IT READS IS OF BULK AT MOST 1048576: true; the input reads as it did. -/
def reconfAsksUptoRow : OpenClaim := { program := "ytpghbkkjdfaflaa", sum := "fb1eaead8983d1f46595d528061ad43155f689f4cfe224630e76ac97786f5a78", func := "crossway/crosswaylaw28.ReconfAsks", spec := "reconfAsks", unfollowed := true, recurses := true, apart := false, narrowed := true }
def ReconfAsksUptoSaid : Prop := reconfAsksUptoRow.holds Try.pinned (OpenSpec.upto reconfAsksSpec)

/-- 'crosswaylaw15.PathsPlays', WHERE WHAT IT READS IS OF BULK AT MOST 1048576: true; the input reads as it did. -/
def pathsPlaysUptoRow : OpenClaim := { program := "ytpghbkkjdfaflaa", sum := "fb1eaead8983d1f46595d528061ad43155f689f4cfe224630e76ac97786f5a78", func := "crossway/crosswaylaw15.PathsPlays", spec := "pathsPlays", unfollowed := true, recurses := true, apart := false, narrowed := true }
def PathsPlaysUptoSaid : Prop := pathsPlaysUptoRow.holds Try.pinned (OpenSpec.upto pathsPlaysSpec)

/-- 'crosswaylaw40.FilerSends', WHERE WHAT IT READS IS OF BULK AT MOST 1048576: true; the input reads as it did. -/
def filerSendsUptoRow : OpenClaim := { program := "ytpghbkkjdfaflaa", sum := "fb1eaead8983d1f46595d528061ad43155f689f4cfe224630e76ac97786f5a78", func := "crossway/crosswaylaw40.FilerSends", spec := "filerSends", unfollowed := true, recurses := true, apart := false, narrowed := true }
def FilerSendsUptoSaid : Prop := filerSendsUptoRow.holds Try.pinned (OpenSpec.upto filerSendsSpec)

/-- 'crosswaylaw40.FilerNone', WHERE WHAT IT READS IS OF BULK AT MOST 1048576: true; the input reads as it did. -/
def filerNoneUptoRow : OpenClaim := { program := "ytpghbkkjdfaflaa", sum := "fb1eaead8983d1f46595d528061ad43155f689f4cfe224630e76ac97786f5a78", func := "crossway/crosswaylaw40.FilerNone", spec := "filerNone", unfollowed := true, recurses := true, apart := false, narrowed := true }
def FilerNoneUptoSaid : Prop := filerNoneUptoRow.holds Try.pinned (OpenSpec.upto filerNoneSpec)

/-- 'crosswaylaw10.CookiePuts', WHERE WHAT IT READS IS OF BULK AT MOST 1048576: true; the input reads as it did. -/
def cookiePutsUptoRow : OpenClaim := { program := "ytpghbkkjdfaflaa", sum := "fb1eaead8983d1f46595d528061ad43155f689f4cfe224630e76ac97786f5a78", func := "crossway/crosswaylaw10.CookiePuts", spec := "cookiePuts", recurses := true, apart := false, narrowed := true }
def CookiePutsUptoSaid : Prop := cookiePutsUptoRow.holds Try.pinned (OpenSpec.upto cookiePutsSpec)

/-- 'crosswaylaw10.CookieGets', WHERE WHAT IT READS IS OF BULK AT MOST 1048576: true; the input reads as it did. -/
def cookieGetsUptoRow : OpenClaim := { program := "ytpghbkkjdfaflaa", sum := "fb1eaead8983d1f46595d528061ad43155f689f4cfe224630e76ac97786f5a78", func := "crossway/crosswaylaw10.CookieGets", spec := "cookieGets", recurses := true, apart := false, narrowed := true }
def CookieGetsUptoSaid : Prop := cookieGetsUptoRow.holds Try.pinned (OpenSpec.upto cookieGetsSpec)

/-- 'crosswaylaw10.CookieBent', WHERE WHAT IT READS IS OF BULK AT MOST 1048576: true; the input reads as it did. -/
def cookieBentUptoRow : OpenClaim := { program := "ytpghbkkjdfaflaa", sum := "fb1eaead8983d1f46595d528061ad43155f689f4cfe224630e76ac97786f5a78", func := "crossway/crosswaylaw10.CookieBent", spec := "cookieBent", apart := false, narrowed := true }
def CookieBentUptoSaid : Prop := cookieBentUptoRow.holds Try.pinned (OpenSpec.upto cookieBentSpec)

/-- 'crosswaylaw17.ReasmPlays', WHERE WHAT IT READS IS OF BULK AT MOST 1048576: true; the input reads as it did. -/
def reasmPlaysUptoRow : OpenClaim := { program := "ytpghbkkjdfaflaa", sum := "fb1eaead8983d1f46595d528061ad43155f689f4cfe224630e76ac97786f5a78", func := "crossway/crosswaylaw17.ReasmPlays", spec := "reasmPlays", inPlace := ["slices.overlaps[crossway/api.Chunk]"], unfollowed := true, recurses := true, apart := false, narrowed := true }
def ReasmPlaysUptoSaid : Prop := reasmPlaysUptoRow.holds Try.pinned (OpenSpec.upto reasmPlaysSpec)

/-- 'crosswaylaw17.ReasmNone', WHERE WHAT IT READS IS OF BULK AT MOST 1048576: true; the input reads as it did. -/
def reasmNoneUptoRow : OpenClaim := { program := "ytpghbkkjdfaflaa", sum := "fb1eaead8983d1f46595d528061ad43155f689f4cfe224630e76ac97786f5a78", func := "crossway/crosswaylaw17.ReasmNone", spec := "reasmNone", inPlace := ["slices.overlaps[crossway/api.Chunk]"], unfollowed := true, recurses := true, apart := false, narrowed := true }
def ReasmNoneUptoSaid : Prop := reasmNoneUptoRow.holds Try.pinned (OpenSpec.upto reasmNoneSpec)

end Rows
end Go.Proofs.Ytpghbkkjdfaflaa
