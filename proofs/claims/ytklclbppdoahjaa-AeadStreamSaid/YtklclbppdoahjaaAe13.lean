/- Aead: the walks in the rows' order. -/
import Derived.Test.YtklclbppdoahjaaAe12
import Derived.Test.YtklclbppdoahjaaOpnA
namespace Go.Proofs.Ytklclbppdoahjaa
set_option maxRecDepth 100000
open Go.RowKit
theorem AeadBackW_any (w : World) (ky : List UInt8) (hk : ky.length = 32) (nc : List UInt8) (hn : nc.length = 12) {A B : Option Addr} {n c m d : Nat} {head b : List UInt8} (h1 : Sl w (Old w) A n c head) (hb1 : n ≤ 140737488355000) (h2 : Sl w (Old w) B m d b) (hb2 : m ≤ 140737488355000) :
    Calls Try.prog 5 #[.agg (bs ky).toArray, .agg (bs nc).toArray, .slice A n c, .slice B m d] w fun e w' => e = .returned (.bool true) ∧ Below w.heap.size w w' := AeadBack_any w hk hn h1 h2 hb1 hb2
theorem AeadTagsW_any (w : World) (ky : List UInt8) (hk : ky.length = 32) (nc : List UInt8) (hn : nc.length = 12) {A B : Option Addr} {n c m d : Nat} {head b : List UInt8} (h1 : Sl w (Old w) A n c head) (hb1 : n ≤ 140737488355000) (h2 : Sl w (Old w) B m d b) (hb2 : m ≤ 140737488355000) (tg : List UInt8) (ht : tg.length = 16) :
    Calls Try.prog 6 #[.agg (bs ky).toArray, .agg (bs nc).toArray, .slice A n c, .slice B m d, .agg (bs tg).toArray] w fun e w' => e = .returned (.bool true) ∧ Below w.heap.size w w' := AeadTags_any w hk hn ht h1 h2 hb1 hb2
theorem AeadStreamW_any (w : World) (ky : List UInt8) (hk : ky.length = 32) (nc : List UInt8) (hn : nc.length = 12) {A A' B : Option Addr} {n c n' c' m d : Nat} {head other b : List UInt8} (h1 : Sl w (Old w) A n c head) (hb1 : n ≤ 140737488355000) (h1' : Sl w (Old w) A' n' c' other) (hb1' : n' ≤ 140737488355000) (h2 : Sl w (Old w) B m d b) (hb2 : m ≤ 140737488355000) :
    Calls Try.prog 7 #[.agg (bs ky).toArray, .agg (bs nc).toArray, .slice A n c, .slice A' n' c', .slice B m d] w fun e w' => e = .returned (.bool true) ∧ Below w.heap.size w w' := AeadStream_any w hk hn h1 h1' h2 hb1 hb1' hb2
end Go.Proofs.Ytklclbppdoahjaa
