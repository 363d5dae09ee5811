/- The frame of the statement on commands as arguments. No condition. -/
import Derived.Test.YtgjnmfmbheejoaaGreatDoorFrame33
import Derived.Test.YtgjnmfmbheejoaaGreatDoorFrameCmd
namespace Go.Proofs.YtgjnmfmbheejoaaGreatDoor
end Go.Proofs.YtgjnmfmbheejoaaGreatDoor
