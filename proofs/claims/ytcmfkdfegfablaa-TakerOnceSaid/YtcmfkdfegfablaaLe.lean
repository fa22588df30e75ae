
import Derived.Test.YtcmfkdfegfablaaG3

/- Numbers as bytes: another text has them. -/
namespace Go.Proofs.Ytcmfkdfegfablaa
end Go.Proofs.Ytcmfkdfegfablaa
