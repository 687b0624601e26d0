/-
  What a function names: the document's way and the program's, lengths by name.
-/
import Derived.Test.YtpndglghpojjkaaGreatVNsE
import Derived.Test.YtpndglghpojjkaaGreatPua13
import Derived.Test.YtpndglghpojjkaaGreatPua14
set_option maxRecDepth 1000000
set_option maxHeartbeats 8000000

namespace Go.Proofs.YtpndglghpojjkaaGreat
open Go.RowKit Go.Deep

def SlcOut (l:List S) (w:World) (e:Ending) (w':World):Prop:=(∃A n c,e= .returned (.slice A n c)∧l.length=n∧n≤100000∧Row w' w'.heap.size A (l.map encStr))∧Below w.heap.size w w'
theorem SlcOut.of {l l':List S} {w w':World} {e:Ending} (hl:l'=l) (hn:l.length≤100000) (h:(∃v,e= .returned v∧w'.ownsRow w.heap.size 9 1 v l'.length (l'.map encStr))∧Below w.heap.size w w'):SlcOut l w e w':=by
 subst hl;obtain⟨⟨v,he,ho⟩,hb⟩:=h;obtain⟨A,c,hv,hr,-⟩:=Dq ho;exact⟨⟨A,_,c,by rw[he,hv],rfl,hn,hr⟩,hb⟩
section
variable {r:Fnc} {w:World} {A1 A2 A3:Option Addr} {n1 n2 n3 c1 c2 c3:Nat}
theorem rnames_num (hF:eP w Evr r (.slice A1 n1 c1) (.slice A2 n2 c2) (.slice A3 n3 c3)) (hn:uN r.body≤100000):Calls Tryz.prog 15 #[.agg #[.string (ay r.nm),.slice A1 n1 c1,.slice A2 n2 c2,.slice A3 n3 c3]] w (NmOut (uC (fnV0 r) r.body []) (uA r.body []) (uL r.body []) w):=by
 obtain⟨rfl,rfl,rfl⟩:=hF.nums;obtain⟨-,h1,h2,hB⟩:=hF;have h:=rnames_any ⟨r.nm,r.ps,r.ls,A1,A2,A3,c1,c2,r.body.len,c3⟩ w r.body ⟨h1,h2⟩ hB hn;rw[uC_same ⟨r.nm,r.ps,r.ls,A1,A2,A3,c1,c2,r.body.len,c3⟩ (fnV0 r) rfl]at h;exact h
theorem cells_num (hF:eP w Evr r (.slice A1 n1 c1) (.slice A2 n2 c2) (.slice A3 n3 c3)) {l:List S} (hc:jI (fun h=>hsC h+1) r.body≤500000) (hl:canon (each (hdP (cZ (r.ps++r.ls))) r.body)=l) (hn:l.length≤100000):Calls Tryz.prog 17 #[.agg #[.string (ay r.nm),.slice A1 n1 c1,.slice A2 n2 c2,.slice A3 n3 c3]] w (SlcOut l w):=by
 obtain⟨rfl,rfl,rfl⟩:=hF.nums;exact(BH w r A1 A2 A3 c1 c2 c3 hF hc).mono fun _ _ h=>SlcOut.of hl hn h
theorem arrs_num (hF:eP w Evr r (.slice A1 n1 c1) (.slice A2 n2 c2) (.slice A3 n3 c3)) {l:List S} (hc:jI (fun _=>1) r.body≤500000) (hl:canon (each (globs (cZ (r.ps++r.ls)) jd) r.body)=l) (hn:l.length≤100000):Calls Tryz.prog 18 #[.agg #[.string (ay r.nm),.slice A1 n1 c1,.slice A2 n2 c2,.slice A3 n3 c3]] w (SlcOut l w):=by
 obtain⟨rfl,rfl,rfl⟩:=hF.nums;exact(GZ w r A1 A2 A3 c1 c2 c3 hF hc).mono fun _ _ h=>SlcOut.of hl hn h
theorem cals_num (hF:eP w Evr r (.slice A1 n1 c1) (.slice A2 n2 c2) (.slice A3 n3 c3)) {l:List S} (hc:jI (fun _=>1) r.body≤500000) (hl:canon (each (globs (cZ (r.ps++r.ls)) iw) r.body)=l) (hn:l.length≤100000):Calls Tryz.prog 19 #[.agg #[.string (ay r.nm),.slice A1 n1 c1,.slice A2 n2 c2,.slice A3 n3 c3]] w (SlcOut l w):=by
 obtain⟨rfl,rfl,rfl⟩:=hF.nums;exact(Ei w r A1 A2 A3 c1 c2 c3 hF hc).mono fun _ _ h=>SlcOut.of hl hn h
end
theorem strs_same (w:World) {A X:Option Addr} {n x c k:Nat} {l:List S} (l1:l.length=n) (l2:l.length=x) (b1:n≤100000) (b2:x≤100000) (r1:Row w w.heap.size A (l.map encStr)) (r2:Row w w.heap.size X (l.map encStr)):
  Calls Tryz.prog 16 #[.slice A n c,.slice X x k] w fun e w'=>e= .returned (.bool true)∧Below w.heap.size w w':=by
 have h:=CU w A X n x c k l l l1 l2 b1 b2 r1 r2;rw[decide_eq_true rfl]at h;exact h
end Go.Proofs.YtpndglghpojjkaaGreat
