/-
  No cell of these rows narrows 'for every input' (looked for: loops, veiled, ifaces, maps, wideKeys, modest, calm, conditions, laid).
  DERIVED. THE GIVEN ROWS OF THIS SEAT. 21 by the template 'for every input the law returns true; each argument reads behind the call as it read before'; 0 by the template 'total and deterministic' (their statements: YtgggokajapoopaaTotals.lean).
  GIVEN WITH THE SEED: the statements are not yours to turn. If you find one false, say at which input.
  Laid BY PROGRAM, IN A SANDBOX (cutbox-rows.mjs): the forced cells as the released guide's own fill.sh prints them over the translation a4594f2463ef050f… (all of the seat's roots in one cut). By AI agents, Wed Nov 11 2026. No macro, syntax, notation, axiom, sorry.
-/
import Derived.Test.YtgggokajapoopaaChecked
import GoSem.Claim
import GoSem.ClaimJoined
import GoSem.ClaimMapViews
import Derived.JoinedTies
import Derived.KernelRfl
namespace Go.Proofs.Ytgggokajapoopaa
/- THE CELL 'sum', in the pinned program and in every row, IS THE sha256 OF THE DUMP (.gsa) THAT YtgggokajapoopaaProg.lean LOADS. Nothing in Lean hashes anything: it is a label: what it is worth is what the hold of that sum in a sandbox is worth. -/
noncomputable def Try.pinned : Pinned := { name := "ytgggokajapoopaa", sum := "a4594f2463ef050f2db636a9dc1ab5139e82c320f734907e4e44e81ccd84b592", checked := Try.checked }
namespace Rows
def none {H : Type} : Left H := { results := [], args := [] }

/-- 'quadrillelaw10.LinesPlays': WHATEVER THE INPUT: true; the input reads as it did. -/
def linesPlaysSpec : ChangeSpec := { name := "linesPlays", fn := fun _ => fun
  | [d1, d2, d3] => { results := [.lit (.bool true)], args := [d1, d2, d3] }
  | _ => none }
def linesPlaysRow : OpenClaim := { program := "ytgggokajapoopaa", sum := "a4594f2463ef050f2db636a9dc1ab5139e82c320f734907e4e44e81ccd84b592", func := "quadrille/quadrillelaw10.LinesPlays", spec := "linesPlays", unfollowed := true, recurses := true, apart := false }
def LinesPlaysSaid : Prop := linesPlaysRow.holds Try.pinned (OpenSpec.ofChange linesPlaysSpec)

/-- ITS FALSE NEIGHBOUR: 'it returns false'. Refute it at one input. -/
def linesPlaysWrong : ChangeSpec := { name := "linesPlays", fn := fun _ => fun
  | [d1, d2, d3] => { results := [.lit (.bool false)], args := [d1, d2, d3] }
  | _ => none }
def LinesPlaysWrongFalsely : Prop := linesPlaysRow.holds Try.pinned (OpenSpec.ofChange linesPlaysWrong)

/-- 'quadrillelaw10.LinesTells': WHATEVER THE INPUT: true; the input reads as it did. -/
def linesTellsSpec : ChangeSpec := { name := "linesTells", fn := fun _ => fun
  | [d1, d2, d3, d4] => { results := [.lit (.bool true)], args := [d1, d2, d3, d4] }
  | _ => none }
def linesTellsRow : OpenClaim := { program := "ytgggokajapoopaa", sum := "a4594f2463ef050f2db636a9dc1ab5139e82c320f734907e4e44e81ccd84b592", func := "quadrille/quadrillelaw10.LinesTells", spec := "linesTells", unfollowed := true, recurses := true, apart := false }
def LinesTellsSaid : Prop := linesTellsRow.holds Try.pinned (OpenSpec.ofChange linesTellsSpec)

/-- ITS FALSE NEIGHBOUR: 'it returns false'. Refute it at one input. -/
def linesTellsWrong : ChangeSpec := { name := "linesTells", fn := fun _ => fun
  | [d1, d2, d3, d4] => { results := [.lit (.bool false)], args := [d1, d2, d3, d4] }
  | _ => none }
def LinesTellsWrongFalsely : Prop := linesTellsRow.holds Try.pinned (OpenSpec.ofChange linesTellsWrong)

/-- 'quadrillelaw10.LinesPuts': WHATEVER THE INPUT: true; the input reads as it did. -/
def linesPutsSpec : ChangeSpec := { name := "linesPuts", fn := fun _ => fun
  | [d1, d2, d3] => { results := [.lit (.bool true)], args := [d1, d2, d3] }
  | _ => none }
def linesPutsRow : OpenClaim := { program := "ytgggokajapoopaa", sum := "a4594f2463ef050f2db636a9dc1ab5139e82c320f734907e4e44e81ccd84b592", func := "quadrille/quadrillelaw10.LinesPuts", spec := "linesPuts", unfollowed := true, recurses := true, apart := false }
def LinesPutsSaid : Prop := linesPutsRow.holds Try.pinned (OpenSpec.ofChange linesPutsSpec)

/-- ITS FALSE NEIGHBOUR: 'it returns false'. Refute it at one input. -/
def linesPutsWrong : ChangeSpec := { name := "linesPuts", fn := fun _ => fun
  | [d1, d2, d3] => { results := [.lit (.bool false)], args := [d1, d2, d3] }
  | _ => none }
def LinesPutsWrongFalsely : Prop := linesPutsRow.holds Try.pinned (OpenSpec.ofChange linesPutsWrong)

/-- 'quadrillelaw10.LinesDrops': WHATEVER THE INPUT: true; the input reads as it did. -/
def linesDropsSpec : ChangeSpec := { name := "linesDrops", fn := fun _ => fun
  | [d1, d2] => { results := [.lit (.bool true)], args := [d1, d2] }
  | _ => none }
def linesDropsRow : OpenClaim := { program := "ytgggokajapoopaa", sum := "a4594f2463ef050f2db636a9dc1ab5139e82c320f734907e4e44e81ccd84b592", func := "quadrille/quadrillelaw10.LinesDrops", spec := "linesDrops", unfollowed := true, recurses := true, apart := false }
def LinesDropsSaid : Prop := linesDropsRow.holds Try.pinned (OpenSpec.ofChange linesDropsSpec)

/-- ITS FALSE NEIGHBOUR: 'it returns false'. Refute it at one input. -/
def linesDropsWrong : ChangeSpec := { name := "linesDrops", fn := fun _ => fun
  | [d1, d2] => { results := [.lit (.bool false)], args := [d1, d2] }
  | _ => none }
def LinesDropsWrongFalsely : Prop := linesDropsRow.holds Try.pinned (OpenSpec.ofChange linesDropsWrong)

/-- 'quadrillelaw10.LinesRoom': WHATEVER THE INPUT: true; the input reads as it did. -/
def linesRoomSpec : ChangeSpec := { name := "linesRoom", fn := fun _ => fun
  | [d1, d2, d3, d4, d5] => { results := [.lit (.bool true)], args := [d1, d2, d3, d4, d5] }
  | _ => none }
def linesRoomRow : OpenClaim := { program := "ytgggokajapoopaa", sum := "a4594f2463ef050f2db636a9dc1ab5139e82c320f734907e4e44e81ccd84b592", func := "quadrille/quadrillelaw10.LinesRoom", spec := "linesRoom", unfollowed := true, recurses := true, apart := false }
def LinesRoomSaid : Prop := linesRoomRow.holds Try.pinned (OpenSpec.ofChange linesRoomSpec)

/-- ITS FALSE NEIGHBOUR: 'it returns false'. Refute it at one input. -/
def linesRoomWrong : ChangeSpec := { name := "linesRoom", fn := fun _ => fun
  | [d1, d2, d3, d4, d5] => { results := [.lit (.bool false)], args := [d1, d2, d3, d4, d5] }
  | _ => none }
def LinesRoomWrongFalsely : Prop := linesRoomRow.holds Try.pinned (OpenSpec.ofChange linesRoomWrong)

/-- 'quadrillelaw10.LinesMakes': WHATEVER THE INPUT: true; the input reads as it did. -/
def linesMakesSpec : ChangeSpec := { name := "linesMakes", fn := fun _ => fun
  | [d1, d2] => { results := [.lit (.bool true)], args := [d1, d2] }
  | _ => none }
def linesMakesRow : OpenClaim := { program := "ytgggokajapoopaa", sum := "a4594f2463ef050f2db636a9dc1ab5139e82c320f734907e4e44e81ccd84b592", func := "quadrille/quadrillelaw10.LinesMakes", spec := "linesMakes", unfollowed := true, recurses := true, apart := false }
def LinesMakesSaid : Prop := linesMakesRow.holds Try.pinned (OpenSpec.ofChange linesMakesSpec)

/-- ITS FALSE NEIGHBOUR: 'it returns false'. Refute it at one input. -/
def linesMakesWrong : ChangeSpec := { name := "linesMakes", fn := fun _ => fun
  | [d1, d2] => { results := [.lit (.bool false)], args := [d1, d2] }
  | _ => none }
def LinesMakesWrongFalsely : Prop := linesMakesRow.holds Try.pinned (OpenSpec.ofChange linesMakesWrong)

/-- 'quadrillelaw10.LinesCopies': WHATEVER THE INPUT: true; the input reads as it did. -/
def linesCopiesSpec : ChangeSpec := { name := "linesCopies", fn := fun _ => fun
  | [d1, d2, d3, d4] => { results := [.lit (.bool true)], args := [d1, d2, d3, d4] }
  | _ => none }
def linesCopiesRow : OpenClaim := { program := "ytgggokajapoopaa", sum := "a4594f2463ef050f2db636a9dc1ab5139e82c320f734907e4e44e81ccd84b592", func := "quadrille/quadrillelaw10.LinesCopies", spec := "linesCopies", unfollowed := true, recurses := true, apart := false }
def LinesCopiesSaid : Prop := linesCopiesRow.holds Try.pinned (OpenSpec.ofChange linesCopiesSpec)

/-- ITS FALSE NEIGHBOUR: 'it returns false'. Refute it at one input. -/
def linesCopiesWrong : ChangeSpec := { name := "linesCopies", fn := fun _ => fun
  | [d1, d2, d3, d4] => { results := [.lit (.bool false)], args := [d1, d2, d3, d4] }
  | _ => none }
def LinesCopiesWrongFalsely : Prop := linesCopiesRow.holds Try.pinned (OpenSpec.ofChange linesCopiesWrong)

/-- 'quadrillelaw12.HomeOther': WHATEVER THE INPUT: true; the input reads as it did. -/
def homeOtherSpec : ChangeSpec := { name := "homeOther", fn := fun _ => fun
  | [d1, d2, d3] => { results := [.lit (.bool true)], args := [d1, d2, d3] }
  | _ => none }
def homeOtherRow : OpenClaim := { program := "ytgggokajapoopaa", sum := "a4594f2463ef050f2db636a9dc1ab5139e82c320f734907e4e44e81ccd84b592", func := "quadrille/quadrillelaw12.HomeOther", spec := "homeOther", unfollowed := true, recurses := true, apart := false }
def HomeOtherSaid : Prop := homeOtherRow.holds Try.pinned (OpenSpec.ofChange homeOtherSpec)

/-- ITS FALSE NEIGHBOUR: 'it returns false'. Refute it at one input. -/
def homeOtherWrong : ChangeSpec := { name := "homeOther", fn := fun _ => fun
  | [d1, d2, d3] => { results := [.lit (.bool false)], args := [d1, d2, d3] }
  | _ => none }
def HomeOtherWrongFalsely : Prop := homeOtherRow.holds Try.pinned (OpenSpec.ofChange homeOtherWrong)

/-- 'quadrillelaw12.HomeServes': WHATEVER THE INPUT: true; the input reads as it did. -/
def homeServesSpec : ChangeSpec := { name := "homeServes", fn := fun _ => fun
  | [d1, d2, d3] => { results := [.lit (.bool true)], args := [d1, d2, d3] }
  | _ => none }
def homeServesRow : OpenClaim := { program := "ytgggokajapoopaa", sum := "a4594f2463ef050f2db636a9dc1ab5139e82c320f734907e4e44e81ccd84b592", func := "quadrille/quadrillelaw12.HomeServes", spec := "homeServes", unfollowed := true, recurses := true, apart := false }
def HomeServesSaid : Prop := homeServesRow.holds Try.pinned (OpenSpec.ofChange homeServesSpec)

/-- ITS FALSE NEIGHBOUR: 'it returns false'. Refute it at one input. -/
def homeServesWrong : ChangeSpec := { name := "homeServes", fn := fun _ => fun
  | [d1, d2, d3] => { results := [.lit (.bool false)], args := [d1, d2, d3] }
  | _ => none }
def HomeServesWrongFalsely : Prop := homeServesRow.holds Try.pinned (OpenSpec.ofChange homeServesWrong)

/-- 'quadrillelaw12.HomeApart': WHATEVER THE INPUT: true; the input reads as it did. -/
def homeApartSpec : ChangeSpec := { name := "homeApart", fn := fun _ => fun
  | [d1, d2] => { results := [.lit (.bool true)], args := [d1, d2] }
  | _ => none }
def homeApartRow : OpenClaim := { program := "ytgggokajapoopaa", sum := "a4594f2463ef050f2db636a9dc1ab5139e82c320f734907e4e44e81ccd84b592", func := "quadrille/quadrillelaw12.HomeApart", spec := "homeApart", unfollowed := true, recurses := true, apart := false }
def HomeApartSaid : Prop := homeApartRow.holds Try.pinned (OpenSpec.ofChange homeApartSpec)

/-- ITS FALSE NEIGHBOUR: 'it returns false'. Refute it at one input. -/
def homeApartWrong : ChangeSpec := { name := "homeApart", fn := fun _ => fun
  | [d1, d2] => { results := [.lit (.bool false)], args := [d1, d2] }
  | _ => none }
def HomeApartWrongFalsely : Prop := homeApartRow.holds Try.pinned (OpenSpec.ofChange homeApartWrong)

/-- 'quadrillelaw12.HomePlay': WHATEVER THE INPUT: true; the input reads as it did. -/
def homePlaySpec : ChangeSpec := { name := "homePlay", fn := fun _ => fun
  | [d1, d2] => { results := [.lit (.bool true)], args := [d1, d2] }
  | _ => none }
def homePlayRow : OpenClaim := { program := "ytgggokajapoopaa", sum := "a4594f2463ef050f2db636a9dc1ab5139e82c320f734907e4e44e81ccd84b592", func := "quadrille/quadrillelaw12.HomePlay", spec := "homePlay", unfollowed := true, recurses := true, apart := false }
def HomePlaySaid : Prop := homePlayRow.holds Try.pinned (OpenSpec.ofChange homePlaySpec)

/-- ITS FALSE NEIGHBOUR: 'it returns false'. Refute it at one input. -/
def homePlayWrong : ChangeSpec := { name := "homePlay", fn := fun _ => fun
  | [d1, d2] => { results := [.lit (.bool false)], args := [d1, d2] }
  | _ => none }
def HomePlayWrongFalsely : Prop := homePlayRow.holds Try.pinned (OpenSpec.ofChange homePlayWrong)

/-- 'quadrillelaw12.HomeQueues': WHATEVER THE INPUT: true; the input reads as it did. -/
def homeQueuesSpec : ChangeSpec := { name := "homeQueues", fn := fun _ => fun
  | [d1, d2] => { results := [.lit (.bool true)], args := [d1, d2] }
  | _ => none }
def homeQueuesRow : OpenClaim := { program := "ytgggokajapoopaa", sum := "a4594f2463ef050f2db636a9dc1ab5139e82c320f734907e4e44e81ccd84b592", func := "quadrille/quadrillelaw12.HomeQueues", spec := "homeQueues", unfollowed := true, recurses := true, apart := false }
def HomeQueuesSaid : Prop := homeQueuesRow.holds Try.pinned (OpenSpec.ofChange homeQueuesSpec)

/-- ITS FALSE NEIGHBOUR: 'it returns false'. Refute it at one input. -/
def homeQueuesWrong : ChangeSpec := { name := "homeQueues", fn := fun _ => fun
  | [d1, d2] => { results := [.lit (.bool false)], args := [d1, d2] }
  | _ => none }
def HomeQueuesWrongFalsely : Prop := homeQueuesRow.holds Try.pinned (OpenSpec.ofChange homeQueuesWrong)

/-- 'quadrillelaw12.HomeNil': WHATEVER THE INPUT: true; the input reads as it did. -/
def homeNilSpec : ChangeSpec := { name := "homeNil", fn := fun _ => fun
  | [d1, d2] => { results := [.lit (.bool true)], args := [d1, d2] }
  | _ => none }
def homeNilRow : OpenClaim := { program := "ytgggokajapoopaa", sum := "a4594f2463ef050f2db636a9dc1ab5139e82c320f734907e4e44e81ccd84b592", func := "quadrille/quadrillelaw12.HomeNil", spec := "homeNil", unfollowed := true, recurses := true, apart := false }
def HomeNilSaid : Prop := homeNilRow.holds Try.pinned (OpenSpec.ofChange homeNilSpec)

/-- ITS FALSE NEIGHBOUR: 'it returns false'. Refute it at one input. -/
def homeNilWrong : ChangeSpec := { name := "homeNil", fn := fun _ => fun
  | [d1, d2] => { results := [.lit (.bool false)], args := [d1, d2] }
  | _ => none }
def HomeNilWrongFalsely : Prop := homeNilRow.holds Try.pinned (OpenSpec.ofChange homeNilWrong)

/-- 'quadrillelaw13.CacheBytes': WHATEVER THE INPUT: true; the input reads as it did. -/
def cacheBytesSpec : ChangeSpec := { name := "cacheBytes", fn := fun _ => fun
  | [d1, d2, d3] => { results := [.lit (.bool true)], args := [d1, d2, d3] }
  | _ => none }
def cacheBytesRow : OpenClaim := { program := "ytgggokajapoopaa", sum := "a4594f2463ef050f2db636a9dc1ab5139e82c320f734907e4e44e81ccd84b592", func := "quadrille/quadrillelaw13.CacheBytes", spec := "cacheBytes", unfollowed := true, recurses := true, apart := false }
def CacheBytesSaid : Prop := cacheBytesRow.holds Try.pinned (OpenSpec.ofChange cacheBytesSpec)

/-- ITS FALSE NEIGHBOUR: 'it returns false'. Refute it at one input. -/
def cacheBytesWrong : ChangeSpec := { name := "cacheBytes", fn := fun _ => fun
  | [d1, d2, d3] => { results := [.lit (.bool false)], args := [d1, d2, d3] }
  | _ => none }
def CacheBytesWrongFalsely : Prop := cacheBytesRow.holds Try.pinned (OpenSpec.ofChange cacheBytesWrong)

/-- 'quadrillelaw13.CachePlay': WHATEVER THE INPUT: true; the input reads as it did. -/
def cachePlaySpec : ChangeSpec := { name := "cachePlay", fn := fun _ => fun
  | [d1, d2, d3] => { results := [.lit (.bool true)], args := [d1, d2, d3] }
  | _ => none }
def cachePlayRow : OpenClaim := { program := "ytgggokajapoopaa", sum := "a4594f2463ef050f2db636a9dc1ab5139e82c320f734907e4e44e81ccd84b592", func := "quadrille/quadrillelaw13.CachePlay", spec := "cachePlay", unfollowed := true, recurses := true, apart := false }
def CachePlaySaid : Prop := cachePlayRow.holds Try.pinned (OpenSpec.ofChange cachePlaySpec)

/-- ITS FALSE NEIGHBOUR: 'it returns false'. Refute it at one input. -/
def cachePlayWrong : ChangeSpec := { name := "cachePlay", fn := fun _ => fun
  | [d1, d2, d3] => { results := [.lit (.bool false)], args := [d1, d2, d3] }
  | _ => none }
def CachePlayWrongFalsely : Prop := cachePlayRow.holds Try.pinned (OpenSpec.ofChange cachePlayWrong)

/-- 'quadrillelaw13.CacheAsks': WHATEVER THE INPUT: true; the input reads as it did. -/
def cacheAsksSpec : ChangeSpec := { name := "cacheAsks", fn := fun _ => fun
  | [d1, d2, d3] => { results := [.lit (.bool true)], args := [d1, d2, d3] }
  | _ => none }
def cacheAsksRow : OpenClaim := { program := "ytgggokajapoopaa", sum := "a4594f2463ef050f2db636a9dc1ab5139e82c320f734907e4e44e81ccd84b592", func := "quadrille/quadrillelaw13.CacheAsks", spec := "cacheAsks", unfollowed := true, recurses := true, apart := false }
def CacheAsksSaid : Prop := cacheAsksRow.holds Try.pinned (OpenSpec.ofChange cacheAsksSpec)

/-- ITS FALSE NEIGHBOUR: 'it returns false'. Refute it at one input. -/
def cacheAsksWrong : ChangeSpec := { name := "cacheAsks", fn := fun _ => fun
  | [d1, d2, d3] => { results := [.lit (.bool false)], args := [d1, d2, d3] }
  | _ => none }
def CacheAsksWrongFalsely : Prop := cacheAsksRow.holds Try.pinned (OpenSpec.ofChange cacheAsksWrong)

/-- 'quadrillelaw13.CacheTakes': WHATEVER THE INPUT: true; the input reads as it did. -/
def cacheTakesSpec : ChangeSpec := { name := "cacheTakes", fn := fun _ => fun
  | [d1, d2, d3] => { results := [.lit (.bool true)], args := [d1, d2, d3] }
  | _ => none }
def cacheTakesRow : OpenClaim := { program := "ytgggokajapoopaa", sum := "a4594f2463ef050f2db636a9dc1ab5139e82c320f734907e4e44e81ccd84b592", func := "quadrille/quadrillelaw13.CacheTakes", spec := "cacheTakes", unfollowed := true, recurses := true, apart := false }
def CacheTakesSaid : Prop := cacheTakesRow.holds Try.pinned (OpenSpec.ofChange cacheTakesSpec)

/-- ITS FALSE NEIGHBOUR: 'it returns false'. Refute it at one input. -/
def cacheTakesWrong : ChangeSpec := { name := "cacheTakes", fn := fun _ => fun
  | [d1, d2, d3] => { results := [.lit (.bool false)], args := [d1, d2, d3] }
  | _ => none }
def CacheTakesWrongFalsely : Prop := cacheTakesRow.holds Try.pinned (OpenSpec.ofChange cacheTakesWrong)

/-- 'quadrillelaw13.CacheCopies': WHATEVER THE INPUT: true; the input reads as it did. -/
def cacheCopiesSpec : ChangeSpec := { name := "cacheCopies", fn := fun _ => fun
  | [d1, d2, d3] => { results := [.lit (.bool true)], args := [d1, d2, d3] }
  | _ => none }
def cacheCopiesRow : OpenClaim := { program := "ytgggokajapoopaa", sum := "a4594f2463ef050f2db636a9dc1ab5139e82c320f734907e4e44e81ccd84b592", func := "quadrille/quadrillelaw13.CacheCopies", spec := "cacheCopies", unfollowed := true, recurses := true, apart := false }
def CacheCopiesSaid : Prop := cacheCopiesRow.holds Try.pinned (OpenSpec.ofChange cacheCopiesSpec)

/-- ITS FALSE NEIGHBOUR: 'it returns false'. Refute it at one input. -/
def cacheCopiesWrong : ChangeSpec := { name := "cacheCopies", fn := fun _ => fun
  | [d1, d2, d3] => { results := [.lit (.bool false)], args := [d1, d2, d3] }
  | _ => none }
def CacheCopiesWrongFalsely : Prop := cacheCopiesRow.holds Try.pinned (OpenSpec.ofChange cacheCopiesWrong)

/-- 'quadrillelaw13.CacheNil': WHATEVER THE INPUT: true; the input reads as it did. -/
def cacheNilSpec : ChangeSpec := { name := "cacheNil", fn := fun _ => fun
  | [d] => { results := [.lit (.bool true)], args := [d] }
  | _ => none }
def cacheNilRow : OpenClaim := { program := "ytgggokajapoopaa", sum := "a4594f2463ef050f2db636a9dc1ab5139e82c320f734907e4e44e81ccd84b592", func := "quadrille/quadrillelaw13.CacheNil", spec := "cacheNil", unfollowed := true, recurses := true, apart := false }
def CacheNilSaid : Prop := cacheNilRow.holds Try.pinned (OpenSpec.ofChange cacheNilSpec)

/-- ITS FALSE NEIGHBOUR: 'it returns false'. Refute it at one input. -/
def cacheNilWrong : ChangeSpec := { name := "cacheNil", fn := fun _ => fun
  | [d] => { results := [.lit (.bool false)], args := [d] }
  | _ => none }
def CacheNilWrongFalsely : Prop := cacheNilRow.holds Try.pinned (OpenSpec.ofChange cacheNilWrong)

/-- 'quadrillelaw13.CacheRuns': WHATEVER THE INPUT: true; the input reads as it did. -/
def cacheRunsSpec : ChangeSpec := { name := "cacheRuns", fn := fun _ => fun
  | [d1, d2, d3] => { results := [.lit (.bool true)], args := [d1, d2, d3] }
  | _ => none }
def cacheRunsRow : OpenClaim := { program := "ytgggokajapoopaa", sum := "a4594f2463ef050f2db636a9dc1ab5139e82c320f734907e4e44e81ccd84b592", func := "quadrille/quadrillelaw13.CacheRuns", spec := "cacheRuns", unfollowed := true, recurses := true, apart := false }
def CacheRunsSaid : Prop := cacheRunsRow.holds Try.pinned (OpenSpec.ofChange cacheRunsSpec)

/-- ITS FALSE NEIGHBOUR: 'it returns false'. Refute it at one input. -/
def cacheRunsWrong : ChangeSpec := { name := "cacheRuns", fn := fun _ => fun
  | [d1, d2, d3] => { results := [.lit (.bool false)], args := [d1, d2, d3] }
  | _ => none }
def CacheRunsWrongFalsely : Prop := cacheRunsRow.holds Try.pinned (OpenSpec.ofChange cacheRunsWrong)

/-- 'quadrillelaw13.CacheEnds': WHATEVER THE INPUT: true; the input reads as it did. -/
def cacheEndsSpec : ChangeSpec := { name := "cacheEnds", fn := fun _ => fun
  | [d1, d2, d3] => { results := [.lit (.bool true)], args := [d1, d2, d3] }
  | _ => none }
def cacheEndsRow : OpenClaim := { program := "ytgggokajapoopaa", sum := "a4594f2463ef050f2db636a9dc1ab5139e82c320f734907e4e44e81ccd84b592", func := "quadrille/quadrillelaw13.CacheEnds", spec := "cacheEnds", unfollowed := true, recurses := true, apart := false }
def CacheEndsSaid : Prop := cacheEndsRow.holds Try.pinned (OpenSpec.ofChange cacheEndsSpec)

/-- ITS FALSE NEIGHBOUR: 'it returns false'. Refute it at one input. -/
def cacheEndsWrong : ChangeSpec := { name := "cacheEnds", fn := fun _ => fun
  | [d1, d2, d3] => { results := [.lit (.bool false)], args := [d1, d2, d3] }
  | _ => none }
def CacheEndsWrongFalsely : Prop := cacheEndsRow.holds Try.pinned (OpenSpec.ofChange cacheEndsWrong)

/- THE SECOND FORM. 'bulk': how many values and letters a reading holds, each counted each time it is reached (what is shared counts as often as it is met; a slice's spare places count too). A statement '..UptoSaid' is the law's where the arguments, and the package variables that the reading takes, are together of bulk at most 1048576: NARROWER than '..Said'. Prove '..Said' where nothing that the law and all that it calls make is longer than what came in: it says more and counts as full. Else prove '..UptoSaid'. A law counts once. -/
mutual
def uptoBulk {H : Type} : DataW H → Nat
  | .lit (.string bytes) => bytes.length + 1
  | .lit _ => 1
  | .nil => 1
  | .ptr d => uptoBulk d + 1
  | .slice elems spare => uptoBulkAll elems + uptoBulkAll spare + 1
  | .agg parts => uptoBulkAll parts + 1
  | .iface _ d => uptoBulk d + 1
  | .map entries => uptoBulkEntries entries + 1
  | .held _ => 1
def uptoBulkAll {H : Type} : List (DataW H) → Nat
  | [] => 0
  | d :: r => uptoBulk d + uptoBulkAll r
def uptoBulkEntries {H : Type} : List (Lit × DataW H) → Nat
  | [] => 0
  | x :: r => uptoBulkEntry x + uptoBulkEntries r
def uptoBulkEntry {H : Type} : Lit × DataW H → Nat
  | (.string bytes, d) => bytes.length + uptoBulk d + 1
  | (_, d) => uptoBulk d + 1
 end
def uptoSmall : (H : Type) → List (DataW H) → Bool := fun _ ds => decide (uptoBulkAll ds ≤ 1048576)
def OpenSpec.upto (s : _root_.Go.ChangeSpec) : _root_.Go.OpenSpec := { _root_.Go.OpenSpec.ofChange s with cond := some uptoSmall }

/-- 'quadrillelaw10.LinesPlays', WHERE WHAT IT READS IS OF BULK AT MOST 1048576: true; the input reads as it did. -/
def linesPlaysUptoRow : OpenClaim := { program := "ytgggokajapoopaa", sum := "a4594f2463ef050f2db636a9dc1ab5139e82c320f734907e4e44e81ccd84b592", func := "quadrille/quadrillelaw10.LinesPlays", spec := "linesPlays", unfollowed := true, recurses := true, apart := false, narrowed := true }
def LinesPlaysUptoSaid : Prop := linesPlaysUptoRow.holds Try.pinned (OpenSpec.upto linesPlaysSpec)

/-- 'quadrillelaw10.LinesTells', WHERE WHAT IT READS IS OF BULK AT MOST 1048576: true; the input reads as it did. -/
def linesTellsUptoRow : OpenClaim := { program := "ytgggokajapoopaa", sum := "a4594f2463ef050f2db636a9dc1ab5139e82c320f734907e4e44e81ccd84b592", func := "quadrille/quadrillelaw10.LinesTells", spec := "linesTells", unfollowed := true, recurses := true, apart := false, narrowed := true }
def LinesTellsUptoSaid : Prop := linesTellsUptoRow.holds Try.pinned (OpenSpec.upto linesTellsSpec)

/-- 'quadrillelaw10.LinesPuts', WHERE WHAT IT READS IS OF BULK AT MOST 1048576: true; the input reads as it did. -/
def linesPutsUptoRow : OpenClaim := { program := "ytgggokajapoopaa", sum := "a4594f2463ef050f2db636a9dc1ab5139e82c320f734907e4e44e81ccd84b592", func := "quadrille/quadrillelaw10.LinesPuts", spec := "linesPuts", unfollowed := true, recurses := true, apart := false, narrowed := true }
def LinesPutsUptoSaid : Prop := linesPutsUptoRow.holds Try.pinned (OpenSpec.upto linesPutsSpec)

/-- 'quadrillelaw10.LinesDrops', WHERE WHAT IT READS IS OF BULK AT MOST 1048576: true; the input reads as it did. -/
def linesDropsUptoRow : OpenClaim := { program := "ytgggokajapoopaa", sum := "a4594f2463ef050f2db636a9dc1ab5139e82c320f734907e4e44e81ccd84b592", func := "quadrille/quadrillelaw10.LinesDrops", spec := "linesDrops", unfollowed := true, recurses := true, apart := false, narrowed := true }
def LinesDropsUptoSaid : Prop := linesDropsUptoRow.holds Try.pinned (OpenSpec.upto linesDropsSpec)

/-- 'quadrillelaw10.LinesRoom', WHERE WHAT IT READS IS OF BULK AT MOST 1048576: true; the input reads as it did. -/
def linesRoomUptoRow : OpenClaim := { program := "ytgggokajapoopaa", sum := "a4594f2463ef050f2db636a9dc1ab5139e82c320f734907e4e44e81ccd84b592", func := "quadrille/quadrillelaw10.LinesRoom", spec := "linesRoom", unfollowed := true, recurses := true, apart := false, narrowed := true }
def LinesRoomUptoSaid : Prop := linesRoomUptoRow.holds Try.pinned (OpenSpec.upto linesRoomSpec)

/-- 'quadrillelaw10.LinesMakes', WHERE WHAT IT READS IS OF BULK AT MOST 1048576: true; the input reads as it did. -/
def linesMakesUptoRow : OpenClaim := { program := "ytgggokajapoopaa", sum := "a4594f2463ef050f2db636a9dc1ab5139e82c320f734907e4e44e81ccd84b592", func := "quadrille/quadrillelaw10.LinesMakes", spec := "linesMakes", unfollowed := true, recurses := true, apart := false, narrowed := true }
def LinesMakesUptoSaid : Prop := linesMakesUptoRow.holds Try.pinned (OpenSpec.upto linesMakesSpec)

/-- 'quadrillelaw10.LinesCopies', WHERE WHAT IT READS IS OF BULK AT MOST 1048576: true; the input reads as it did. -/
def linesCopiesUptoRow : OpenClaim := { program := "ytgggokajapoopaa", sum := "a4594f2463ef050f2db636a9dc1ab5139e82c320f734907e4e44e81ccd84b592", func := "quadrille/quadrillelaw10.LinesCopies", spec := "linesCopies", unfollowed := true, recurses := true, apart := false, narrowed := true }
def LinesCopiesUptoSaid : Prop := linesCopiesUptoRow.holds Try.pinned (OpenSpec.upto linesCopiesSpec)

/-- 'quadrillelaw12.HomeOther', WHERE WHAT IT READS IS OF BULK AT MOST 1048576: true; the input reads as it did. -/
def homeOtherUptoRow : OpenClaim := { program := "ytgggokajapoopaa", sum := "a4594f2463ef050f2db636a9dc1ab5139e82c320f734907e4e44e81ccd84b592", func := "quadrille/quadrillelaw12.HomeOther", spec := "homeOther", unfollowed := true, recurses := true, apart := false, narrowed := true }
def HomeOtherUptoSaid : Prop := homeOtherUptoRow.holds Try.pinned (OpenSpec.upto homeOtherSpec)

/-- 'quadrillelaw12.HomeServes', WHERE WHAT IT READS IS OF BULK AT MOST 1048576: true; the input reads as it did. -/
def homeServesUptoRow : OpenClaim := { program := "ytgggokajapoopaa", sum := "a4594f2463ef050f2db636a9dc1ab5139e82c320f734907e4e44e81ccd84b592", func := "quadrille/quadrillelaw12.HomeServes", spec := "homeServes", unfollowed := true, recurses := true, apart := false, narrowed := true }
def HomeServesUptoSaid : Prop := homeServesUptoRow.holds Try.pinned (OpenSpec.upto homeServesSpec)

/-- 'quadrillelaw12.HomeApart', WHERE WHAT IT READS IS OF BULK AT MOST 1048576: true; the input reads as it did. -/
def homeApartUptoRow : OpenClaim := { program := "ytgggokajapoopaa", sum := "a4594f2463ef050f2db636a9dc1ab5139e82c320f734907e4e44e81ccd84b592", func := "quadrille/quadrillelaw12.HomeApart", spec := "homeApart", unfollowed := true, recurses := true, apart := false, narrowed := true }
def HomeApartUptoSaid : Prop := homeApartUptoRow.holds Try.pinned (OpenSpec.upto homeApartSpec)

/-- 'quadrillelaw12.HomePlay', WHERE WHAT IT READS IS OF BULK AT MOST 1048576: true; the input reads as it did. -/
def homePlayUptoRow : OpenClaim := { program := "ytgggokajapoopaa", sum := "a4594f2463ef050f2db636a9dc1ab5139e82c320f734907e4e44e81ccd84b592", func := "quadrille/quadrillelaw12.HomePlay", spec := "homePlay", unfollowed := true, recurses := true, apart := false, narrowed := true }
def HomePlayUptoSaid : Prop := homePlayUptoRow.holds Try.pinned (OpenSpec.upto homePlaySpec)

/-- 'quadrillelaw12.HomeQueues', WHERE WHAT IT READS IS OF BULK AT MOST 1048576: true; the input reads as it did. -/
def homeQueuesUptoRow : OpenClaim := { program := "ytgggokajapoopaa", sum := "a4594f2463ef050f2db636a9dc1ab5139e82c320f734907e4e44e81ccd84b592", func := "quadrille/quadrillelaw12.HomeQueues", spec := "homeQueues", unfollowed := true, recurses := true, apart := false, narrowed := true }
def HomeQueuesUptoSaid : Prop := homeQueuesUptoRow.holds Try.pinned (OpenSpec.upto homeQueuesSpec)

/-- 'quadrillelaw12.HomeNil', WHERE WHAT IT READS IS OF BULK AT MOST 1048576: true; the input reads as it did. -/
def homeNilUptoRow : OpenClaim := { program := "ytgggokajapoopaa", sum := "a4594f2463ef050f2db636a9dc1ab5139e82c320f734907e4e44e81ccd84b592", func := "quadrille/quadrillelaw12.HomeNil", spec := "homeNil", unfollowed := true, recurses := true, apart := false, narrowed := true }
def HomeNilUptoSaid : Prop := homeNilUptoRow.holds Try.pinned (OpenSpec.upto homeNilSpec)

/-- 'quadrillelaw13.CacheBytes', WHERE WHAT IT READS IS OF BULK AT MOST 1048576: true; the input reads as it did. -/
def cacheBytesUptoRow : OpenClaim := { program := "ytgggokajapoopaa", sum := "a4594f2463ef050f2db636a9dc1ab5139e82c320f734907e4e44e81ccd84b592", func := "quadrille/quadrillelaw13.CacheBytes", spec := "cacheBytes", unfollowed := true, recurses := true, apart := false, narrowed := true }
def CacheBytesUptoSaid : Prop := cacheBytesUptoRow.holds Try.pinned (OpenSpec.upto cacheBytesSpec)

/-- 'quadrillelaw13.CachePlay', WHERE WHAT IT READS IS OF BULK AT MOST 1048576: true; the input reads as it did. -/
def cachePlayUptoRow : OpenClaim := { program := "ytgggokajapoopaa", sum := "a4594f2463ef050f2db636a9dc1ab5139e82c320f734907e4e44e81ccd84b592", func := "quadrille/quadrillelaw13.CachePlay", spec := "cachePlay", unfollowed := true, recurses := true, apart := false, narrowed := true }
def CachePlayUptoSaid : Prop := cachePlayUptoRow.holds Try.pinned (OpenSpec.upto cachePlaySpec)

/-- 'quadrillelaw13.CacheAsks', WHERE WHAT IT READS IS OF BULK AT MOST 1048576: true; the input reads as it did. -/
def cacheAsksUptoRow : OpenClaim := { program := "ytgggokajapoopaa", sum := "a4594f2463ef050f2db636a9dc1ab5139e82c320f734907e4e44e81ccd84b592", func := "quadrille/quadrillelaw13.CacheAsks", spec := "cacheAsks", unfollowed := true, recurses := true, apart := false, narrowed := true }
def CacheAsksUptoSaid : Prop := cacheAsksUptoRow.holds Try.pinned (OpenSpec.upto cacheAsksSpec)

/-- 'quadrillelaw13.CacheTakes', WHERE WHAT IT READS IS OF BULK AT MOST 1048576: true; the input reads as it did. -/
def cacheTakesUptoRow : OpenClaim := { program := "ytgggokajapoopaa", sum := "a4594f2463ef050f2db636a9dc1ab5139e82c320f734907e4e44e81ccd84b592", func := "quadrille/quadrillelaw13.CacheTakes", spec := "cacheTakes", unfollowed := true, recurses := true, apart := false, narrowed := true }
def CacheTakesUptoSaid : Prop := cacheTakesUptoRow.holds Try.pinned (OpenSpec.upto cacheTakesSpec)

/-- 'quadrillelaw13.CacheCopies', WHERE WHAT IT READS IS OF BULK AT MOST 1048576: true; the input reads as it did. -/
def cacheCopiesUptoRow : OpenClaim := { program := "ytgggokajapoopaa", sum := "a4594f2463ef050f2db636a9dc1ab5139e82c320f734907e4e44e81ccd84b592", func := "quadrille/quadrillelaw13.CacheCopies", spec := "cacheCopies", unfollowed := true, recurses := true, apart := false, narrowed := true }
def CacheCopiesUptoSaid : Prop := cacheCopiesUptoRow.holds Try.pinned (OpenSpec.upto cacheCopiesSpec)

/-- 'quadrillelaw13.CacheNil', WHERE WHAT IT READS IS OF BULK AT MOST 1048576: true; the input reads as it did. -/
def cacheNilUptoRow : OpenClaim := { program := "ytgggokajapoopaa", sum := "a4594f2463ef050f2db636a9dc1ab5139e82c320f734907e4e44e81ccd84b592", func := "quadrille/quadrillelaw13.CacheNil", spec := "cacheNil", unfollowed := true, recurses := true, apart := false, narrowed := true }
def CacheNilUptoSaid : Prop := cacheNilUptoRow.holds Try.pinned (OpenSpec.upto cacheNilSpec)

/-- 'quadrillelaw13.CacheRuns', WHERE WHAT IT READS IS OF BULK AT MOST 1048576: true; the input reads as it did. -/
def cacheRunsUptoRow : OpenClaim := { program := "ytgggokajapoopaa", sum := "a4594f2463ef050f2db636a9dc1ab5139e82c320f734907e4e44e81ccd84b592", func := "quadrille/quadrillelaw13.CacheRuns", spec := "cacheRuns", unfollowed := true, recurses := true, apart := false, narrowed := true }
def CacheRunsUptoSaid : Prop := cacheRunsUptoRow.holds Try.pinned (OpenSpec.upto cacheRunsSpec)

/-- 'quadrillelaw13.CacheEnds', WHERE WHAT IT READS IS OF BULK AT MOST 1048576: true; the input reads as it did. -/
def cacheEndsUptoRow : OpenClaim := { program := "ytgggokajapoopaa", sum := "a4594f2463ef050f2db636a9dc1ab5139e82c320f734907e4e44e81ccd84b592", func := "quadrille/quadrillelaw13.CacheEnds", spec := "cacheEnds", unfollowed := true, recurses := true, apart := false, narrowed := true }
def CacheEndsUptoSaid : Prop := cacheEndsUptoRow.holds Try.pinned (OpenSpec.upto cacheEndsSpec)

end Rows
end Go.Proofs.Ytgggokajapoopaa
