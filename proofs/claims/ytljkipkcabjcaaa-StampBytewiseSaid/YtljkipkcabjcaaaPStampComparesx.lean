-- PRINTED BY print.sh 35421559b90ae4d0a3588c463048766b98c2df88dd9212a6774a882060cdf62d: not written by this session
import Derived.Test.YtljkipkcabjcaaaPStampComparesx0
import Derived.Test.YtljkipkcabjcaaaPStampComparesx1
import Derived.Test.YtljkipkcabjcaaaPStampComparesx2
import Derived.Test.YtljkipkcabjcaaaPStampComparesx3
namespace Go.Proofs.Ytljkipkcabjcaaa.PStampCompares
open Go.RowKit Go.Proofs.YtljkipkcabjcaaaW.PrintWords Go.Proofs.YtljkipkcabjcaaaW.PrintLast Go.Proofs.YtljkipkcabjcaaaW.PrintMore
attribute [local go_sem] max2_int min2_int max_two min_two max_three min_three max_four min_four   -- for this text's walks alone
set_option linter.unusedVariables false
set_option linter.unusedSimpArgs false

end Go.Proofs.Ytljkipkcabjcaaa.PStampCompares
