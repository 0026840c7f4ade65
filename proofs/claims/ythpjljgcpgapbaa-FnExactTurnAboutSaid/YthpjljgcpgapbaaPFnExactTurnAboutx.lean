-- PRINTED BY print.sh 35421559b90ae4d0a3588c463048766b98c2df88dd9212a6774a882060cdf62d: not written by this session
import Derived.Test.YthpjljgcpgapbaaPFnExactTurnAboutx0
import Derived.Test.YthpjljgcpgapbaaPFnExactTurnAboutx1
import Derived.Test.YthpjljgcpgapbaaPFnExactTurnAboutx2
import Derived.Test.YthpjljgcpgapbaaPFnExactTurnAboutx3
namespace Go.Proofs.Ythpjljgcpgapbaa.PFnExactTurnAbout
open Go.RowKit Go.Proofs.YthpjljgcpgapbaaW.PrintWords Go.Proofs.YthpjljgcpgapbaaW.PrintLast Go.Proofs.YthpjljgcpgapbaaW.PrintMore
attribute [local go_sem] max2_int min2_int max_two min_two max_three min_three max_four min_four   -- for this text's walks alone
set_option linter.unusedVariables false
set_option linter.unusedSimpArgs false

end Go.Proofs.Ythpjljgcpgapbaa.PFnExactTurnAbout
