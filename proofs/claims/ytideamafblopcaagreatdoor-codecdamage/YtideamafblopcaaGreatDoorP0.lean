/- A part of the proof of a law. -/
set_option maxRecDepth 100000
set_option maxHeartbeats 4000000
set_option linter.all false
namespace Go.Proofs.YtideamafblopcaaGreatDoor.Av
open Go

end Go.Proofs.YtideamafblopcaaGreatDoor.Av
