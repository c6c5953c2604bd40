/-
  What a configuration says of a key, by the document.
-/
import Derived.Test.YtomnhgcjdnhijaaCDecl
namespace Go.Proofs.Ytomnhgcjdnhijaa
open Go.RowKit
set_option maxRecDepth 100000

end Go.Proofs.Ytomnhgcjdnhijaa
