import Derived.Test.YtcngeifkddhkmaaDoorR4
namespace Go.Proofs.YtcngeifkddhkmaaDoor
open Go.RowKit
def lft3 (left n1 n2 n3 : Int) : Int := if lft left n1 < 0 then -1 else if lft (lft left n1) n2 < 0 then -1 else lft (lft (lft left n1) n2) n3
end Go.Proofs.YtcngeifkddhkmaaDoor
