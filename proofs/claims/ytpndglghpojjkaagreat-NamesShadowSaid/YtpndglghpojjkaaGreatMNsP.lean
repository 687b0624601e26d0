/-
  A local of a name that stands in a statement, plainly: 56 texts.
-/
import Derived.Test.YtpndglghpojjkaaGreatMNsE
set_option maxRecDepth 1000000
set_option maxHeartbeats 8000000

namespace Go.Proofs.YtpndglghpojjkaaGreat

def nm4 (k:Nat):List UInt8:=if k=0 then [99]else if k=1 then [116]else if k=2 then [103]else [122]
def kd2 (k:Nat):List UInt8:=if k=1 then [112,116,114,32]else [118,97,114,32]
def shTxt (m:Nat):List UInt8:=
 ([[120,32,61,32,99,59],[99,32,61,32,49,59],[120,32,61,32,116,91,48,93,59],[116,91,48,93,32,61,32,49,59],[120,32,61,32,103,40,49,41,59],[103,40,49,41,59],[105,102,32,40,99,32,60,32,49,41,32,123,32,122,32,61,32,49,59,32,125]]:List (List UInt8)).getD m []
def shFull (p i m:Nat):List UInt8:= [102,110,32,102,40,120,41,32,123,32]++kd2 p++nm4 i++ [59,32]++shTxt m++ [32,125]
def fnV0 (r:Fnc):FnV:=⟨r.nm,r.ps,r.ls,none,none,none,0,0,0,0⟩
def shV (r:Fnc) (n:List UInt8):Bool:=
 ((each (hdP (cZ (r.ps++r.ls))) r.body).foldl bH []==uC (fnV0 r) r.body [])&&(((each (globs (cZ (r.ps++r.ls)) jd) r.body).foldl bH []==uA r.body [])&&(((each (globs (cZ (r.ps++r.ls)) iw) r.body).foldl bH []==uL r.body [])&&
 (!(uC (fnV0 r) r.body []).contains n&&(!(uA r.body []).contains n&&(!(uL r.body []).contains n&&(decide (uN r.body≤100000)&&(decide (jI (fun h=>hsC h+1) r.body≤500000)&&decide (jI (fun _=>1) r.body≤500000))))))))
def shChk (t n:List UInt8):Bool:=(funcF t).2.2==0&&((bK (funcF t).1 [102]).2.2 !=0||shV (bK (funcF t).1 [102]).1 n)
theorem shadow_all:(List.range 2).all (fun p=>(List.range 4).all fun i=>(List.range 7).all fun m=>shChk (shFull p i m) (nm4 i))=true:=by kernel_rfl
theorem shadow_ok {p i m:Nat} (hp:p<2) (hi:i<4) (hm:m<7):shChk (shFull p i m) (nm4 i)=true:=
 List.all_eq_true.1 (List.all_eq_true.1 (List.all_eq_true.1 shadow_all p (List.mem_range.2 hp)) i (List.mem_range.2 hi)) m (List.mem_range.2 hm)
theorem shadow_told {p i m:Nat} (hp:p<2) (hi:i<4) (hm:m<7):∃f a r ra rb,funcF (shFull p i m)=(f,a,0)∧bK f [102]=(r,ra,rb)∧(rb=0→shV r (nm4 i)=true):=by
 have h:=shadow_ok hp hi hm;unfold shChk at h;simp only[Bool.and_eq_true,Bool.or_eq_true,beq_iff_eq,bne_iff_ne]at h;obtain⟨h1,h2⟩:=h;exact⟨_,_,_,_,_,by rw[←h1],rfl,fun h0=>h2.resolve_left fun h3=>h3 h0⟩
theorem uC_same (F G:FnV) (h:F.K=G.K):∀(s:Sl) (c:List S),uC F s c=uC G s c
 | .nil,_=>rfl
 | .cons hd t e r,c=>by
  have e1:∀c,hC F c hd=hC G c hd:=fun c=>by unfold hC;congr 1;funext c s;unfold addN;rw[h]
  simp only[uC];rw[e1,uC_same F G h t,uC_same F G h e,uC_same F G h r]
theorem shTxt_len {m:Nat}:(shTxt m).length≤60:=by
 unfold shTxt;rw[List.getD_eq_getElem?_getD];rcases Nat.lt_or_ge m 7 with hm|hm
 ·rcases(show m=0∨m=1∨m=2∨m=3∨m=4∨m=5∨m=6 by omega)with h|h|h|h|h|h|h
  all_goals (subst h;decide)
 ·rw[List.getElem?_eq_none (by simp;omega)];simp
end Go.Proofs.YtpndglghpojjkaaGreat
