/- AnchorBytes (any bytes are read as an anchor, or refused, and an anchor is written and read back, as the document says) holds: its tied card, with no further condition. -/
import Derived.Test.YtgpgladbdoimdaaGreatDoorAncVRow
import Derived.Test.YtgpgladbdoimdaaGreatDoorMAncV14
namespace Go.Proofs.YtgpgladbdoimdaaGreatDoor
theorem anchorBytes_holds : Rows.AnchorBytesCardSaid := anchorBytes_of aknown_s
end Go.Proofs.YtgpgladbdoimdaaGreatDoor
