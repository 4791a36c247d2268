/- Part of the proof, with what it needs of the printed words alone. -/
import Derived.Test.YtlfbdcobpfainaaTSPureTopSeats
namespace Go.Proofs.Ytlfbdcobpfainaa.Pure
theorem TopSeats : S.taltop_TopSeats.Pure := S.TopSeatsPure
end Go.Proofs.Ytlfbdcobpfainaa.Pure
