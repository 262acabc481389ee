/- What is proved here: nothing; the contracts lie in the text before it (no statement of the seat). -/
import Derived.Test.YtnkaadiofjoacaaShelf
import Derived.Sort.OwnSortedInts
