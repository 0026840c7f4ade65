-- PRINTED BY print.sh 35421559b90ae4d0a3588c463048766b98c2df88dd9212a6774a882060cdf62d: not written by this session
import Derived.Test.YtlmgokicanlcpaaPFnMeetx0
import Derived.Test.YtlmgokicanlcpaaPFnMeetx1
import Derived.Test.YtlmgokicanlcpaaPFnMeetx2
import Derived.Test.YtlmgokicanlcpaaPFnMeetx3
import Derived.Test.YtlmgokicanlcpaaPFnMeetx4
import Derived.Test.YtlmgokicanlcpaaPFnMeetx5
import Derived.Test.YtlmgokicanlcpaaPFnMeetx6
import Derived.Test.YtlmgokicanlcpaaPFnMeetx7
namespace Go.Proofs.Ytlmgokicanlcpaa.PFnMeet
open Go.RowKit Go.Proofs.YtlmgokicanlcpaaW.PrintWords Go.Proofs.YtlmgokicanlcpaaW.PrintLast Go.Proofs.YtlmgokicanlcpaaW.PrintMore
attribute [local go_sem] max2_int min2_int max_two min_two max_three min_three max_four min_four   -- for this text's walks alone
set_option linter.unusedVariables false
set_option linter.unusedSimpArgs false

end Go.Proofs.Ytlmgokicanlcpaa.PFnMeet
