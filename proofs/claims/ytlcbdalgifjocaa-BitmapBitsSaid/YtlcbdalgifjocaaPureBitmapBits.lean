/- BitmapBits: any place of any bytes, taken or not, and whether bytes are a map, is told as the document says; over numbers and lists, for every list of bytes, every place, both ways. -/
import Derived.Test.YtlcbdalgifjocaaBF
namespace Go.Proofs.Ytlcbdalgifjocaa.Pure
open Go.Proofs.Ytlcbdalgifjocaa.PB
theorem BitmapBits : carlinglaw20_BitmapBits.Pure := fun x n b _ _ hw hn => BF.Bits x n b hw hn
end Go.Proofs.Ytlcbdalgifjocaa.Pure
