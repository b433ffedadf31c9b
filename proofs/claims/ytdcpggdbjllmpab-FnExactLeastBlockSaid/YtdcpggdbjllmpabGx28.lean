/- The ways of a branch meet again. No conditions but those in the statements. -/
import Derived.Test.YtdcpggdbjllmpabGx12
namespace Go.Proofs.Ytdcpggdbjllmpab
open Go
namespace Gx
theorem W_cutE {E : Env} {x y : Code} {Q : Exit → St → Prop} {s : St} (J : Env → St → Prop) (h : W E x (thenQ (J E) Q) s) (hr : ∀ s', J E s' → W E y Q s') : W E (.seq x y) Q s := W_cut (J E) h hr
end Gx
end Go.Proofs.Ytdcpggdbjllmpab
