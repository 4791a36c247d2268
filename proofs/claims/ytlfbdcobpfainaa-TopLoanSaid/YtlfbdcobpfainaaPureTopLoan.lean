/- A loan that is paid off by the least pay, and posted row by row, leaves nothing owed, and what it cost is all interest: for every input, no condition. -/
import Derived.Test.YtlfbdcobpfainaaLPureTopLoan
namespace Go.Proofs.Ytlfbdcobpfainaa.Pure
theorem TopLoan : L.taltop_TopLoan.Pure := L.TopLoanPure
end Go.Proofs.Ytlfbdcobpfainaa.Pure
