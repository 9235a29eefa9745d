/- What is known of the world in which a law is called. -/
import Derived.Calls
namespace Go.Proofs.YtcmebphcoamohaaDoorS
open Go
def WI (_ : World) : Prop := True
end Go.Proofs.YtcmebphcoamohaaDoorS
