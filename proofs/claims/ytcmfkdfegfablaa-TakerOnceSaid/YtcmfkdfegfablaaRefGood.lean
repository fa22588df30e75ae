
import Derived.Test.YtcmfkdfegfablaaG3

/- The reference's Good: another text has it. -/
namespace Go.Proofs.Ytcmfkdfegfablaa
end Go.Proofs.Ytcmfkdfegfablaa
