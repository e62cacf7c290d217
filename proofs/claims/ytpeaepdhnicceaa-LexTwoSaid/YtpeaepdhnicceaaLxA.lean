/- The chapter's examples hold. -/
import Derived.Test.YtpeaepdhnicceaaPAllx2
import Derived.Test.YtpeaepdhnicceaaLxQ
namespace Go.Proofs.Ytpeaepdhnicceaa.Pure
open Go.RowKit Go.Proofs.Ytpeaepdhnicceaa.PAll
theorem awake_some : tocsinlaw09_awake.f = some true := by decide +kernel
end Go.Proofs.Ytpeaepdhnicceaa.Pure
