/- BitmapGives: a map without some places is the document's, or refused; over numbers and lists, for every list of bytes and every list of places. -/
import Derived.Test.YtlcbdalgifjocaaBF
namespace Go.Proofs.Ytlcbdalgifjocaa.Pure
open Go.Proofs.Ytlcbdalgifjocaa.PB
theorem BitmapGives : carlinglaw20_BitmapGives.Pure := fun x l _ _ hw _ _ hl => BF.Gives x l hw hl
end Go.Proofs.Ytlcbdalgifjocaa.Pure
