/-
  A function's text read: its statements name no empty text, and there are few of them. No program in sight.
-/
import Derived.Test.YtpndglghpojjkaaGreatVNuW
import Derived.Test.YtpndglghpojjkaaGreatPua7
import Derived.Test.YtpndglghpojjkaaGreatPua12
set_option maxRecDepth 1000000
set_option maxHeartbeats 8000000

namespace Go.Proofs.YtpndglghpojjkaaGreat

def hdL (h:Hd):List S:=exL h.e++(exL h.f++(cnL h.c++agR h.args))
theorem hdL_len (h:Hd):(hdL h).length=hsC h:=by simp[hdL,hsC]
def HdOk (h:Hd):Prop:=(h.k=0∨h.k=4∨h.k=6→h.x≠[])∧(h.k=1→h.y≠[])
def HdG (h:Hd):Prop:=nE (hdL h)∧HdOk h
def slW:Sl→Nat:=jI fun h=>hsC h+1
section
variable {C:PC} {s s2:PS}
def Sg (l:Sl) (s s2:PS):Prop:=s2.e=0→allH HdG l∧slW l+2*s.i≤2*s2.i
theorem Sg.fail {l:Sl} (k:Nat) (hk:k≠0):Sg l s (bT C k s2):=fun he=>absurd he (ou k hk s2)
theorem Sg.nil (h:Stp C s s2):Sg .nil s s2:=fun _=>⟨trivial,by have:=h.i1;simp[slW,jI];omega⟩
theorem Sg.bracket {l:Sl} {t:List UInt8} (_:isF C t s=true) (h:(aV C s).1=true) (h2:Sg l (aV C s).2.next s2):Sg l s s2.shut:=fun he=>by
 obtain⟨e,-,-⟩:=iK h;have h3:=h2 he;rw[e]at h3;exact⟨h3.1,by have:=h3.2;simp only[PS.next,PS.shut]at this⊢;omega⟩
theorem allH_snoc {p:Hd→Prop} {h:Hd} {t e:Sl}:∀{l:Sl},allH p l→p h→allH p t→allH p e→allH p (l.snoc h t e)
 | .nil,_,h1,h2,h3=>⟨h1,h2,h3,trivial⟩
 | .cons _ _ _ _,⟨a,b,c,d⟩,h1,h2,h3=>⟨a,b,c,allH_snoc d h1 h2 h3⟩
theorem slW_snoc {h:Hd} {t e:Sl}:∀{l:Sl},slW (l.snoc h t e)=slW l+(hsC h+1+(slW t+slW e))
 | .nil=>by simp[slW,Sl.snoc,jI]
 | .cons h0 t0 e0 r=>by have:=slW_snoc (h:=h) (t:=t) (e:=e) (l:=r);simp only[slW,Sl.snoc,jI]at this⊢;omega
theorem argsL_g {sum:PS→Ex×PS} (ss:∀s,Stp C s (sum s).2) (hs:∀s,Gd (exL (sum s).1) s (sum s).2):∀(f:Nat) (l:List Ag) (s0 s:PS),Gd (agR l) s0 s→Stp C s0 s→Gd (agR (lg C sum f l s).1) s0 (lg C sum f l s).2
 |0,_,_,_,_,h2=>Gd.none_ h2
 |f+1,l,s0,s,h,h2=>by
  have h3:Gd (agR (l++ [⟨false,[],(sum s).1⟩])) s0 (sum s).2:=(h.app (hs s) (ss s)).eq (by simp[agR]);unfold lg;split
  ·exact Gd.none_ h2
  ·split
   ·exact h3.post (Stp.is_ ‹_›)
   ·exact argsL_g ss hs f _ s0 _ (h3.post (Stp.want _ _)) ((h2.trans (ss s)).trans (Stp.want _ _))
theorem argsF_g {sum:PS→Ex×PS} (ss:∀s,Stp C s (sum s).2) (hs:∀s,Gd (exL (sum s).1) s (sum s).2) (s:PS):Gd (agR (jg C sum s).1) s (jg C sum s).2:=by
 unfold jg;split
 ·exact Gd.none_ (Stp.is_ ‹_›)
 ·exact argsL_g ss hs _ _ s s (Gd.none_ (Stp.refl (C:=C) s)) (Stp.refl s)
theorem valueF_g {sum:PS→Ex×PS} (ss:∀s,Stp C s (sum s).2) (hs:∀s,Gd (exL (sum s).1) s (sum s).2) (n:Nat) (x:List UInt8) (s:PS):Gd (hdL (iI C sum {hd0 n with x:=x} s).1) s (iI C sum {hd0 n with x:=x} s).2:=by
 unfold iI;split
 ·exact(Gd.none_ (Stp.is_ ‹_›)).eq (by simp[hdL,hd0,exL,cnL,agR])
 ·split
  ·exact(Gd.none_ ((Stp.is_ ‹_›).trans (Stp.name _))).eq (by simp[hdL,hd0,exL,cnL,agR])
  ·split
   ·exact(Gd.none_ ((Stp.is_ ‹_›).trans (Stp.name _))).eq (by simp[hdL,hd0,exL,cnL,agR])
   ·split
    ·exact(((hs _).pre ((Stp.name s).trans (jh ‹_›))).post (Stp.want _ _)).eq (by simp[hdL,hd0,exL,cnL,agR])
    ·split
     ·exact((argsF_g ss hs _).pre ((Stp.name s).trans (jh ‹_›))).eq (by simp[hdL,hd0,exL,cnL])
     ·exact(hs s).eq (by simp[hdL,hd0,exL,cnL,agR])
theorem plainF_g {sum:PS→Ex×PS} {cond:PS→Cn×PS} (ss:∀s,Stp C s (sum s).2) (hs:∀s,Gd (exL (sum s).1) s (sum s).2) (hc:∀s,Gd (cnL (cond s).1) s (cond s).2) (n:Nat) (s:PS):Gd (hdL (gX C sum cond n s).1) s (gX C sum cond n s).2:=by
 unfold gX;split
 ·exact((hs _).pre (Stp.is_ ‹_›)).eq (by simp[hdL,hd0,exL,cnL,agR])
 ·split
  ·exact(((hc _).pre ((Stp.is_ ‹_›).trans (Stp.want _ _))).post (Stp.want _ _)).eq (by simp[hdL,hd0,exL,agR])
  ·split
   ·exact((hs _).pre (((Stp.is_ ‹_›).trans (Stp.name _)).trans (Stp.want _ _))).eq (by simp[hdL,hd0,exL,cnL,agR])
   ·split
    ·exact((argsF_g ss hs _).pre ((Stp.name s).trans (Stp.is_ ‹_›))).eq (by simp[hdL,hd0,exL,cnL])
    ·split
     ·exact((((hs _).pre ((Stp.name s).trans (Stp.is_ ‹_›))).post ((Stp.want _ _).trans (Stp.want _ _))).app (hs _) (ss _)).eq (by simp[hdL,hd0,cnL,agR])
     ·exact(valueF_g ss hs n _ _).pre ((Stp.name s).trans (Stp.want _ _))
theorem name_e (hT:NT C) (h:Stp C (aK C s).2 s2) (he:s2.e=0):(aK C s).1≠[]:=(name_g hT s (h.e0 he)).1 _ (List.mem_singleton.2 rfl)
theorem valueF_n (hT:NT C) {sum:PS→Ex×PS} (n:Nat) (x:List UInt8) (hx:x≠[]) (s:PS):(iI C sum {hd0 n with x:=x} s).2.e=0→HdOk (iI C sum {hd0 n with x:=x} s).1:=by
 unfold iI;split
 ·exact fun _=>⟨fun _=>hx,fun h=>by cases h⟩
 ·split
  ·exact fun he=>⟨fun _=>hx,fun _=>name_e hT (Stp.refl _) he⟩
  ·split
   ·exact fun _=>⟨fun _=>hx,fun h=>by cases h⟩
   ·split
    ·exact fun _=>⟨fun _=>hx,fun h=>by cases h⟩
    ·split
     ·exact fun _=>⟨fun _=>hx,fun h=>by cases h⟩
     ·exact fun _=>⟨fun _=>hx,fun h=>by cases h⟩
theorem plainF_n (hT:NT C) {sum:PS→Ex×PS} {cond:PS→Cn×PS} (ss:∀s,Stp C s (sum s).2) (n:Nat) (s:PS):(gX C sum cond n s).2.e=0→HdOk (gX C sum cond n s).1:=by
 have no:∀k:Nat,k≠0→k≠4→k≠6→¬(k=0∨k=4∨k=6):=fun k a b c h=>by omega
 unfold gX;split
 ·exact fun _=>⟨fun h=>absurd h (no 9 (by decide) (by decide) (by decide)),fun h=>by cases h⟩
 ·split
  ·exact fun _=>⟨fun h=>absurd h (no 12 (by decide) (by decide) (by decide)),fun h=>by cases h⟩
  ·split
   ·exact fun _=>⟨fun h=>absurd h (no 5 (by decide) (by decide) (by decide)),fun h=>by cases h⟩
   ·split
    ·exact fun _=>⟨fun h=>absurd h (no 8 (by decide) (by decide) (by decide)),fun h=>by cases h⟩
    ·split
     ·exact fun _=>⟨fun h=>absurd h (no 7 (by decide) (by decide) (by decide)),fun h=>by cases h⟩
     ·exact fun he=>valueF_n hT n _ (name_e hT ((Stp.want _ _).trans (qN ss _ _)) he) _ he
theorem stmtF_g (hT:NT C) {sum:PS→Ex×PS} {cond:PS→Cn×PS} {block:PS→Sl×PS} (ss:∀s,Stp C s (sum s).2) (hs:∀s,Gd (exL (sum s).1) s (sum s).2) (sc:∀s,Stp C s (cond s).2) (hc:∀s,Gd (cnL (cond s).1) s (cond s).2)
  (sb:∀s,Stp C s (block s).2) (hb:∀s,Sg (block s).1 s (block s).2) (s:PS) (he:(fV C sum cond block s).2.e=0):
  HdG (fV C sum cond block s).1.1∧(allH HdG (fV C sum cond block s).1.2.1∧allH HdG (fV C sum cond block s).1.2.2)∧hsC (fV C sum cond block s).1.1+1+(slW (fV C sum cond block s).1.2.1+slW (fV C sum cond block s).1.2.2)+2*s.i≤2*(fV C sum cond block s).2.i:=by
 have hnx:=qW ss sc sb s he
 have test:∀k:Nat,k=10∨k=11→(isF C [105,102] s.one=true∨isF C [119,104,105,108,101] s.one=true)→∀s3,Stp C (iG C cond s.one).2 s3→s3.e=0→
   HdG {hd0 s.n with k:=k,c:=(iG C cond s.one).1}∧hsC {hd0 s.n with k:=k,c:=(iG C cond s.one).1}+1+s.i≤(iG C cond s.one).2.i:=fun k hk hi s3 h3 he3=>by
  have hlt:s.one.i<C.tk.length:=hi.elim dD dD;have h1:=((hc (aY C [40] s.one.next)).post (Stp.want [41] _)) (h3.e0 he3);have h2:=(Stp.want (C:=C) [40] s.one.next).i1
  have e:hdL {hd0 s.n with k:=k,c:=(iG C cond s.one).1}=cnL (iG C cond s.one).1:=by simp[hdL,hd0,exL,agR]
  refine⟨⟨by rw[e];exact h1.1,⟨fun h=>by simp only at h;omega,fun h=>by simp only at h;omega⟩⟩,?_⟩;rw[←hdL_len,e];have h4:=h1.2;have h5:s.one.next.i=s.i+1:=rfl;unfold iG;simp only;omega
 unfold fV at he hnx⊢;split at he
 ·exact absurd he (ou 53 (by decide) s)
 ·rename_i h0;rw[if_neg h0]at hnx⊢;split at he
  ·rename_i hi;rw[if_pos hi]at hnx⊢;split at he
   ·rename_i hel;rw[if_pos hel]at hnx⊢;have b2:=hb _ he;have st2:=(Stp.is_ hel).trans (sb (block (iG C cond s.one).2).2.next);have b1:=hb _ (st2.e0 he);have b0:=test 10 (.inl rfl) (.inl hi) _ ((sb _).trans st2) he;refine⟨b0.1,⟨b1.1,b2.1⟩,?_⟩;have a0:=b0.2;have a1:slW (block (iG C cond s.one).2).1+2*(iG C cond s.one).2.i≤2*(block (iG C cond s.one).2).2.i:=b1.2
    have a2:slW (block (block (iG C cond s.one).2).2.next).1+2*((block (iG C cond s.one).2).2.i+1)≤2*(block (block (iG C cond s.one).2).2.next).2.i:=b2.2;show hsC {hd0 s.n with k:=10,c:=(iG C cond s.one).1}+1+(slW (block (iG C cond s.one).2).1+slW (block (block (iG C cond s.one).2).2.next).1)+2*s.i≤2*(block (block (iG C cond s.one).2).2.next).2.i
    omega
   ·rename_i hel;rw[if_neg hel]at hnx⊢;have b1:=hb _ he;have b0:=test 10 (.inl rfl) (.inl hi) _ (sb _) he;refine⟨b0.1,⟨b1.1,trivial⟩,?_⟩;have a0:=b0.2;have a1:slW (block (iG C cond s.one).2).1+2*(iG C cond s.one).2.i≤2*(block (iG C cond s.one).2).2.i:=b1.2
    show hsC {hd0 s.n with k:=10,c:=(iG C cond s.one).1}+1+(slW (block (iG C cond s.one).2).1+0)+2*s.i≤2*(block (iG C cond s.one).2).2.i;omega
  ·rename_i hi;rw[if_neg hi]at hnx⊢;split at he
   ·rename_i hw;rw[if_pos hw]at hnx⊢;have b1:=hb _ he;have b0:=test 11 (.inr rfl) (.inr hw) _ (sb _) he;refine⟨b0.1,⟨b1.1,trivial⟩,?_⟩;have a0:=b0.2;have a1:slW (block (iG C cond s.one).2).1+2*(iG C cond s.one).2.i≤2*(block (iG C cond s.one).2).2.i:=b1.2
    show hsC {hd0 s.n with k:=11,c:=(iG C cond s.one).1}+1+(slW (block (iG C cond s.one).2).1+0)+2*s.i≤2*(block (iG C cond s.one).2).2.i;omega
   ·rename_i hw;rw[if_neg hw]at hnx⊢;have st:=Stp.want (C:=C) [59] (gX C sum cond s.n s.one).2;have h1:=plainF_g ss hs hc s.n s.one (st.e0 he);have h2:=plainF_n hT (cond:=cond) ss s.n s.one (st.e0 he);refine⟨⟨h1.1,h2⟩,⟨trivial,trivial⟩,?_⟩;have a1:=h1.2;have a2:=st.i1;have a3:s.one.i=s.i:=rfl;rw[hdL_len]at a1
    have a4:s.i+1≤(aY C [59] (gX C sum cond s.n s.one).2).i:=hnx;show hsC (gX C sum cond s.n s.one).1+1+(0+0)+2*s.i≤2*(aY C [59] (gX C sum cond s.n s.one).2).i;omega
theorem stmtsL_g {stmt:PS→(Hd×Sl×Sl)×PS} (st:∀s,s.e=0→Stp C s (stmt s).2) (hs:∀s,(stmt s).2.e=0→HdG (stmt s).1.1∧(allH HdG (stmt s).1.2.1∧allH HdG (stmt s).1.2.2)∧hsC (stmt s).1.1+1+(slW (stmt s).1.2.1+slW (stmt s).1.2.2)+2*s.i≤2*(stmt s).2.i):
  ∀(f:Nat) (l:Sl) (s0 s:PS),Sg l s0 s→Sg (je C stmt f l s).1 s0 (je C stmt f l s).2
 |0,_,_,_,h=>h
 |f+1,l,s0,s,h=>by
  unfold je;split
  ·exact h
  ·rename_i h0;split
   ·rename_i hi;exact fun he=>⟨(h he).1,by have:=(h he).2;simp only[PS.next];omega⟩
   ·split
    ·exact Sg.fail 51 (by decide)
    ·refine stmtsL_g st hs f _ s0 _ fun he=> ?_;have h1:=hs s he;have h2:=h (by omega);refine⟨allH_snoc h2.1 h1.1 h1.2.1.1 h1.2.1.2,?_⟩;rw[slW_snoc];have:=h1.2.2;have:=h2.2;omega
theorem blockF_g {stmts:PS→Sl×PS} (hs:∀s,Sg (stmts s).1 s (stmts s).2) (s:PS):Sg (iy C stmts s).1 s (iy C stmts s).2:=by
 unfold iy;split
 ·split
  ·exact(hs _).bracket ‹isF C [123] s=true› ‹_›
  ·exact Sg.nil (Stp.nY (by simpa using ‹¬(aV C s).1=true›))
 ·exact Sg.fail 51 (by decide)
theorem stmtD_g (hT:NT C):∀(d:Nat) (s:PS),(nP C d s).2.e=0→HdG (nP C d s).1.1∧(allH HdG (nP C d s).1.2.1∧allH HdG (nP C d s).1.2.2)∧hsC (nP C d s).1.1+1+(slW (nP C d s).1.2.1+slW (nP C d s).1.2.2)+2*s.i≤2*(nP C d s).2.i
 |0,s=>stmtF_g hT (fK 0) (sumD_g hT 0) (iT 0) (condD_g hT 0) (kV fun s=>Stp.refl s) (blockF_g fun s=>Sg.nil (Stp.refl (C:=C) s)) s
 |d+1,s=>stmtF_g hT (fK (d+1)) (sumD_g hT (d+1)) (iT (d+1)) (condD_g hT (d+1)) (kV (qV d)) (blockF_g fun s=>stmtsL_g (mF d) (stmtD_g hT d) _ _ s s (Sg.nil (Stp.refl (C:=C) s))) s
theorem stmtsD_g (hT:NT C) (d:Nat) (s:PS):Sg (jq C d s).1 s (jq C d s).2:=stmtsL_g (mF d) (stmtD_g hT d) _ _ s s (Sg.nil (Stp.refl (C:=C) s))
theorem bodyF_g (hT:NT C) (h0:(qw C (ni C).2).e=0):allH HdG (ni C).1∧slW (ni C).1≤2*C.tk.length:=by
 have he:(ni C).2.e=0:=by
  unfold qw at h0;split at h0
  ·exact absurd h0 (ou 51 (by decide) _)
  ·exact h0
 have h1:=stmtsD_g hT 39 (lsF C).2 he;refine⟨h1.1,?_⟩;have i1:(psF C).2.i≤C.tk.length:=((((Stp.want (C:=C) [102,110] ⟨0,0,0,0,0⟩).trans (Stp.name _)).trans (Stp.want [40] _)).trans (w_ _)).i2 (Nat.zero_le _)
 have i2:(pY C (psF C).2).i≤C.tk.length:=by
  unfold pY;split
  ·rename_i h;simp only[Bool.and_eq_true]at h;obtain⟨e,-,-⟩:=iK h.2;rw[e];exact dD h.1
  ·rw[show∀s:PS,(bT C 51 s).i=s.i from fun s=>by unfold bT;split<;>rfl];split
   ·rename_i h
    have:(aV C (psF C).2).2.i=(psF C).2.i:=by unfold aV;split;rfl;split;(unfold bT;split<;>rfl);rfl
    omega
   ·exact i1
 have i3:=((qB (C:=C) (C.tk.length+1) [] _).trans (qV 39 (lsF C).2)).i2 i2;have h2:=h1.2;have e1:(ni C)=jq C 39 (lsF C).2:=rfl;rw[e1];omega
end
theorem span_pos {p:UInt8→Bool} {c:UInt8} {r:List UInt8} (h:p c=true):(c::r).take (aU p (c::r))≠[]:=by
 rw[bP h];simp
theorem lexL_ne:∀(f:Nat) (l:List UInt8) (i:Nat) (out:List Tok),(∀t∈out,t.k=0→t.t≠[])→∀t∈(fC f l i out).1,t.k=0→t.t≠[]
 |0,_,_,_,h=>h
 |f+1,l,i,out,h=>by
  have snoc:∀(x:Tok),(x.k=0→x.t≠[])→∀t∈out++ [x],t.k=0→t.t≠[]:=fun x hx t ht=>by
   rcases List.mem_append.1 ht with h1|h1
   ·exact h t h1
   ·rw[List.mem_singleton.1 h1];exact hx
  have no:∀{p:Tok→Prop},∀t∈([]:List Tok),p t:=fun t h=>nomatch h;unfold fC
  cases l with
  |nil=>exact h
  |cons c r=>
   simp only;split
   ·exact lexL_ne f _ _ _ h
   ·split
    ·exact lexL_ne f _ _ _ h
    ·split
     ·rename_i hl;split
      ·exact no
      ·exact lexL_ne f _ _ _ (snoc _ fun _=>span_pos (by simp[hl]))
     ·split
      ·split
       ·exact no
       ·repeat' split
        all_goals first|exact no|exact lexL_ne f _ _ _ (snoc ⟨1,_,_⟩ fun h=>absurd (show(1:Nat)=0 from h) (by decide))
      ·split
       ·exact lexL_ne f _ _ _ (snoc ⟨2,_,_⟩ fun h=>absurd (show(2:Nat)=0 from h) (by decide))
       ·split
        ·exact lexL_ne f _ _ _ (snoc ⟨2,_,_⟩ fun h=>absurd (show(2:Nat)=0 from h) (by decide))
        ·exact no
theorem funcF_g (l:List UInt8) (he:(funcF l).2.2=0):allH HdG (funcF l).1.body∧slW (funcF l).1.body≤8192:=by
 unfold funcF at he⊢;split at he
 ·exact absurd he ‹_›
 ·rename_i h0;rw[if_neg h0];have hfit:=Dz l (by omega)
  have hT:∀t∈(o_ l).1,t.k=0→t.t≠[]:=by
   unfold o_;split
   ·exact fun t h=>nomatch h
   ·exact lexL_ne _ _ _ _ fun t h=>nomatch h
  unfold uO at he⊢;split at he
  ·exact absurd he ‹_›
  ·rename_i h1;rw[if_neg h1];have h2:=bodyF_g (C:=⟨(o_ l).1,l.length⟩) hT (by omega);have h5:(o_ l).1.length≤4096:=hfit.len;have h6:slW (ni ⟨(o_ l).1,l.length⟩).1≤2*(o_ l).1.length:=h2.2;exact⟨h2.1,Nat.le_trans h6 (by omega)⟩
end Go.Proofs.YtpndglghpojjkaaGreat
