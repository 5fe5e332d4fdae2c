/- The walk of the ballot laws' wakes. -/
import Derived.Test.YtekdnljincbghaaDoorBallot4
import Derived.Test.YtekdnljincbghaaDoorBallot3
namespace Go.Proofs.YtekdnljincbghaaDoor
open Go Go.RowKit Go.Lib

end Go.Proofs.YtekdnljincbghaaDoor
