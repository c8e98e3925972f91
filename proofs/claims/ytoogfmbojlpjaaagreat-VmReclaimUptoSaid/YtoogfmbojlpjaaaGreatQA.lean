/- A fact behind a name. -/
import Derived.Below
namespace Go.Proofs.YtoogfmbojlpjaaaGreat
theorem hZ{p:Prop}(h:p):Go.RowKit.Hid p:=h
theorem nR(n:Nat):n≤n:=Nat.le_refl n
end Go.Proofs.YtoogfmbojlpjaaaGreat
