/- Places as floats. Condition: what each theorem says. -/
import Derived.Test.YtlpombjidhloiaaGreatBan
namespace Go.Proofs.YtlpombjidhloiaaGreat
open Go.RowKit
set_option maxRecDepth 100000
def CN:Ieee.Datum→Bool
 |.number false m _=>decide (m≠0)
 |_=>false
theorem adM{d:Ieee.Datum}(h:CN d=true)(j:Int):(d.order (.number false 0 j)==some Ordering.eq)=false:=by
 match d,h with
 |.number false m i,h=>
  have hm:m≠0:=of_decide_eq_true h;unfold Ieee.Datum.order;dsimp only;have hz:∀k l:Nat,compare (Ieee.signed false m k) (Ieee.signed false 0 l)≠Ordering.eq:=by
   intro k l hc;have hc:Ieee.signed false m k=Ieee.signed false 0 l:=Std.LawfulEqCmp.eq_of_compare hc;simp[Ieee.signed]at hc;exact hm hc
  simp[hz]
def IE:Nat→Bool:=Nat.rec true fun n ih=>CN (FloatKind.f64.format.read (fb (n+1)))&&ih
theorem adN:IE 20000=true:=by decide +kernel
theorem Td:∀{k:Nat} (_:IE k=true) {n:Nat} (_:n<k),CN (FloatKind.f64.format.read (fb (n+1)))=true
 |k+1,h,n,hn=>by
  have h:(CN (FloatKind.f64.format.read (fb (k+1)))&&IE k)=true:=h;rw[Bool.and_eq_true]at h;rcases Nat.lt_or_ge n k with h1|h1
  ·exact Td h.2 h1
  ·obtain rfl:n=k:=by omega
   exact h.1
theorem adO:FloatKind.f64.format.read 0=.number false 0 (-1074):=by decide +kernel
theorem SV{n:Nat}(h0:1≤n)(h:n≤20000):(FloatKind.f64.format.order (fb n) 0==some Ordering.eq)=false:=by
 obtain⟨m,rfl⟩:∃m,n=m+1:=⟨n-1,by omega⟩;have:=adM (Td adN (show m<20000 by omega)) (-1074);show((FloatKind.f64.format.read (fb (m+1))).order (FloatKind.f64.format.read 0)==some Ordering.eq)=false;rw[adO];exact this
end Go.Proofs.YtlpombjidhloiaaGreat
