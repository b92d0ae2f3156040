/- Entries that lack in a log. No conditions. -/
import Derived.Test.YtcjmlakmigfkfaaLog2
namespace Go.Proofs.Ytcjmlakmigfkfaa
set_option linter.unusedSimpArgs false
set_option linter.unusedVariables false
open Go.RowKit

/-- Is an entry lacking in a rest? -/
def lackE (R : List EntryT) (x : EntryT) : Bool := decide (idxP (isE x.2.1 x.2.2.1) R 0 < 0)
def lostE (R X : List EntryT) : List EntryT := X.filter (lackE R)
theorem lostE_len (R X : List EntryT) : (lostE R X).length ≤ X.length := List.length_filter_le _ _
theorem bel_cellY {w w' : World} {p : Addr} {u : Value} (hb : Below w.heap.size w w') (h : w.cell? p = some u) : w'.cell? p = some u := (hb.cell (World.block_lt_of_cell? w _ h)).trans h
end Go.Proofs.Ytcjmlakmigfkfaa
