import Derived.Test.YtnkaadiofjoacaaShelf
import Derived.Sort.OwnSortedInts
