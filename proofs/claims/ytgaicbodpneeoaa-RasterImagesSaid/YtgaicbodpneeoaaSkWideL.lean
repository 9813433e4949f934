/- What is used of WideL. -/
import Derived.Test.YtgaicbodpneeoaaJE
import Derived.Deep.RegionLaw
namespace Go.Proofs.Ytgaicbodpneeoaa.Big
open Go.RowKit Go.Proofs.ZFr Go.Proofs.Ytgaicbodpneeoaa.PRasterImages Go.Proofs.YtgaicbodpneeoaaW.PrintWords

def v8 : List Int → Int
  | [] => 0
  | d :: l => d + 256 * v8 l
end Go.Proofs.Ytgaicbodpneeoaa.Big

