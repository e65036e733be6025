import Derived.Test.YtjajehjhonabdaaXSort
import Derived.Test.YtjajehjhonabdaaXShelf
namespace Go.Proofs.YtjajehjhonabdaaX
open Go.RowKit Go.Sort Go.Proofs.YtjajehjhonabdaaW.PrintWords
end Go.Proofs.YtjajehjhonabdaaX
