/-
  6 texts of the proof, in one file: no condition.
-/
import Derived.Test.YtpndglghpojjkaaGreatPua6
set_option maxRecDepth 1000000
set_option maxHeartbeats 8000000
namespace Go.Proofs.YtpndglghpojjkaaGreat
open Go.RowKit Go.Deep
theorem qW {C:PC} {sum:PS→Ex×PS} {cond:PS→Cn×PS} {block:PS→Sl×PS} (hs:∀s,Stp C s (sum s).2) (hc:∀s,Stp C s (cond s).2) (hb:∀s,Stp C s (block s).2) (s:PS) (he:(fV C sum cond block s).2.e=0):s.i+1≤(fV C sum cond block s).2.i:=by
 unfold fV at he⊢;split at he
 ·exact absurd he (ou 53 (by decide) s)
 ·rename_i hk;rw[if_neg hk];split at he
  ·rename_i h1;rw[if_pos h1];have h2:=(((Stp.want (C:=C) [40] s.one.next).trans (hc _)).trans (Stp.want [41] _)).trans (hb _);have i1:s.one.next.i=s.i+1:=rfl;split at he
   ·rename_i h3;rw[if_pos h3];have:=((h2.trans (Stp.is_ h3)).trans (hb _)).i1;simp only[iG]at this⊢;omega
   ·rename_i h3;rw[if_neg h3];have:=h2.i1;simp only[iG]at this⊢;omega
  ·rename_i h1;rw[if_neg h1];split at he
   ·rename_i h2;rw[if_pos h2];have h3:=((((Stp.want (C:=C) [40] s.one.next).trans (hc _)).trans (Stp.want [41] _)).trans (hb _)).i1;have i1:s.one.next.i=s.i+1:=rfl;simp only[iG]at h3⊢;omega
   ·rename_i h2;rw[if_neg h2];have h3:=(rC hs hc s.n s.one).i1;have h4:=jU he;have i1:s.one.i=s.i:=rfl;simp only at h4⊢;omega
theorem jG.vac (f:Nat) (F:PC→PS→Sl×PS):jG f 41 F:=fun C L w s hP hm _=>absurd hP.ok.deep (by omega)
theorem sF (m:Nat) (stmts:PC→PS→Sl×PS) (hst:jG 36 (m+1) stmts) (hs:∀C s,Stp C s (stmts C s).2):jG 132 m (fun C=>iy C (stmts C)):=by
 intro C Z w s hP hm hf;have hM:=Za (Moved.refl hP);have hlt0:=hP.lt;obtain⟨b1,b2,b3,b4,b5,b6,b7⟩:=hP.bounds;show Calls _ _ _ _ (sN C Z (iy C (stmts C) s) w);obtain⟨R,hR⟩:∃x,x=iy C (stmts C) s:=⟨_,rfl⟩;rw[←hR];clear hP
 cases h1:isF C [123] s with
 |false=>
  have hF:Hid (R=(.nil,bT C 51 s)):=Za (by rw[hR];unfold iy;rw[h1];rfl);replace h1:=Za h1;clear hR;go_enter Tryz.func132,Tryz.ntmps132;go_wp2_with fail;refine(aG hM.out [123] h1.out).mono ?_;rintro e w1 ⟨rfl,q1,-⟩;replace q1:=Za q1;go_wp2_with fail;refine(fF q1.out 51 (by decide) rfl).mono ?_;rintro e w2 ⟨rfl,q2,-⟩;replace q2:=Za q2;go_wp2_with fail;go_ret;rw[hF.out];exact⟨_,rfl,q2.out,aQ.nil_ _ _⟩
 |true=>
  cases ho:(aV C s).1 with
  |false=>
   have hF:Hid (R=(.nil,(aV C s).2)):=Za (by rw[hR];unfold iy;simp only[h1,ho];rfl);have ho':=Za (iV ho);replace h1:=Za h1;clear hR ho;go_enter Tryz.func132,Tryz.ntmps132;go_wp2_with fail;refine(aG hM.out [123] h1.out).mono ?_;rintro e w1 ⟨rfl,q1,-⟩;replace q1:=Za q1;go_wp2_with fail;refine(eu q1.out ho'.out).mono ?_;rintro e w2 ⟨rfl,q2,-⟩;replace q2:=Za q2;go_wp2_with fail;go_ret;rw[hF.out];exact⟨_,rfl,q2.out,aQ.nil_ _ _⟩
  |true=>
   obtain⟨e1,_,hlt⟩:=iK ho;have hi:=dD h1;obtain⟨s2,hs2⟩:∃x,x=(aV C s).2:=⟨_,rfl⟩;obtain⟨r,hr⟩:∃x,x=stmts C s2.next:=⟨_,rfl⟩;have hF:Hid (R=(r.1,r.2.shut)):=Za (by rw[hR,hr,hs2];unfold iy;simp only[h1,ho];rfl);have ho':Hid (aV C s=(true,s2)):=Za (by rw[hs2];exact iV ho)
   have hi3:s2.i<C.tk.length:=by rw[hs2,e1];exact hi
   have hdp:m+1≤s2.next.deep:=by rw[hs2,e1];simp only[PS.next];omega
   have hd1:1≤r.2.deep:=by rw[hr,(hs C s2.next).dp];omega
   have hf2:Hid (s2.next.Few):=Za (by rw[hs2,e1];exact hf);replace hr:=Za hr;replace h1:=Za h1;clear hR ho e1 hs2 hf;go_enter Tryz.func132,Tryz.ntmps132;go_wp2_with fail;refine(aG hM.out [123] h1.out).mono ?_;rintro e w1 ⟨rfl,q1,-⟩;replace q1:=Za q1;go_wp2_with fail;refine(eu q1.out ho'.out).mono ?_;rintro e w2 ⟨rfl,q2,-⟩;obtain⟨a0,d0,d1,d2,d3,d4,d5,d6,dfz⟩:=q2.facts;have hi5:=q2.at_.bounds.2.2.1;replace q2:=Za q2;have hw1:=dh (i:=s2.i) (by omega);have hcc:=hst C Z _ s2.next (q2.out.next hi3).at_ hdp hf2.out;rw[←hr.out]at hcc;replace hcc:=Za hcc;go_wp2_with fail;refine hcc.out.mono ?_;clear hcc;rintro e w3 ⟨v,rfl,q3,hE⟩;clear a0 d0 d1 d2 d3 d4 d5 d6 dfz hw1 hi5;have h3:=(q2.out.next hi3).trans q3;have hE3:=hE.ge (B:=w.heap.size) (q2.out.next hi3).wr.size;obtain⟨c1,c2,c3,c4,c5,c6,c7⟩:=h3.bounds;obtain⟨a0,d0,d1,d2,d3,d4,d5,d6,dfz⟩:=h3.facts;replace h3:=Za h3;replace hE3:=Za hE3;clear q3 hE q2 q1;have hw1:=lK hd1 (by omega);go_wp2_with fail;go_ret;rw[hF.out]
   have hst':Writes [some Z.g] w3 (w3.setCell ⟨Z.g,5,none⟩ (.int .i64 ((r.2.deep:Int)-1))):=Writes.store w3 (by simp) _;exact⟨_,rfl,h3.out.shut hd1,hE3.out.pw hst' hlt0⟩
structure nM (C:PC) (L:PL) (stmt:PS→(Hd×Sl×Sl)×PS) (m:Nat) (R:Sl×PS) (f:Nat) (l:Sl) (s:PS) (v:Value) (w0 w:World):Prop where
 eq:je C stmt f l s=R
 fuel:s.e=0→C.tk.length<s.i+f∧l.len≤s.i
 len:l.len≤5000
 dp:m≤s.deep
 few:s.Few
 mv:Moved C L s w0 w
 own:∃vs,w.ownsRow w0.heap.size 63 10 v l.len vs∧aN w (dB w0.heap.size v) l vs
theorem aQ.own {w:World} {base:Nat} {l:Sl} {vs:List Value} {v:Value} (h:w.ownsRow base 63 10 v l.len vs) (h2:aN w (dB base v) l vs) (hl:l.len≤100000):aQ w (Ge base) l v:=by
 obtain⟨A,c,e,hr,hc⟩:=bI.own (S:=Ge base) h (fun g hg=>bD h hg);exact⟨A,c,vs,e,hl,hc,hr,h2.mono fun x _ hx=>hx.1⟩
theorem aN.pw {w w':World} {base g:Nat} {v:Value} {l:Sl} {vs:List Value} (h:aN w (dB base v) l vs) (hW:Writes [some g] w w') (hg:g<base):aN w' (dB base v) l vs:=
 h.keep fun x hx hS=>hW.block x hx fun e=>by simp at e;subst e;exact absurd hS.1 (Nat.not_le_of_lt hg)
theorem aN.push {w2 w3 w4:World} {base:Nat} {v v':Value} {l:Sl} {vs:List Value} {h:Hd} {t e:Sl} {ve vf vc va vt vl:Value} (hl:aN w2 (dB base v) l vs) (hh:dn w2 (dB base v) h ve vf vc va) (ht:aQ w2 (dB base v) t vt) (he:aQ w2 (dB base v) e vl)
  (hb:Below w2.heap.size w2 w3) (hg:w3.grownBy w4 v.ownBlock) (hv:v'.ownBlock=v.ownBlock∨v'.ownBlock=some w3.heap.size):aN w4 (dB base v') (l.snoc h t e) (vs++(h.cells ve vf vc va vt vl).toList):=by
 have h3:aN w3 (dB base v) (l.snoc h t e) (vs++(h.cells ve vf vc va vt vl).toList):=(hl.snoc hh ht he).keep fun x hx _=>hb.block x hx;have h5:aN w3 (fun x=>dB base v x∧dB base v' x) (l.snoc h t e) (vs++(h.cells ve vf vc va vt vl).toList):=h3.mono fun x hx hS=>⟨hS,dB.step hv x hx hS⟩;have h6:aN w4 (fun x=>dB base v x∧dB base v' x) (l.snoc h t e) (vs++(h.cells ve vf vc va vt vl).toList):=h5.keep fun x hx hS=>hg.block x hx fun e=>hS.1.2 e.symm;exact h6.mono fun _ _ hS=>hS.2
section
variable {C:PC} {L:PL} {stmt:PS→(Hd×Sl×Sl)×PS} {m:Nat} {R:Sl×PS} {f:Nat} {l:Sl} {s:PS} {v:Value} {w0 w:World}
theorem nM.stop (h:nM C L stmt m R f l s v w0 w) (hs:s.e≠0):R=(l,s):=by
 rw[←h.eq]
 cases f with
 |zero=>rfl
 |succ f=>unfold je;rw[if_pos hs]
theorem nM.go_ (h:nM C L stmt m R f l s v w0 w) (he:s.e=0) (hi:s.i≤C.tk.length):
  ∃f',f=f'+1∧R=if isF C [125] s then(l,s.next)else if C.tk.length≤s.i then(.nil,bT C 51 s)else je C stmt f' (l.snoc (stmt s).1.1 (stmt s).1.2.1 (stmt s).1.2.2) (stmt s).2:=by
 have hf:=(h.fuel he).1
 cases f with
 |zero=>omega
 |succ f=>
  refine⟨f,rfl,?_⟩;rw[←h.eq]
  conv=>lhs;unfold je
  rw[if_neg (by omega)]
end
theorem Tryz.infoStmt:(Tryz.prog.info? 63).map (fun i=>(i.zero,i.size,i.bytes))=some (some (.agg #[.int .i64 0,.string ⟨#[]⟩,.string ⟨#[]⟩,.pointer none,.pointer none,.pointer none,.slice none 0 0,.slice none 0 0,.slice none 0 0,.int .i64 0]),10,144):=by kernel_rfl
def lZ (f:Nat) (m:Nat) (F:PC→PS→(Hd×Sl×Sl)×PS):Prop:=∀(C:PC) (L:PL) (w:World) (s:PS),PAt C L s w→m≤s.deep→s.n≤200→Calls Tryz.prog f #[.pointer (some ⟨L.g,0,none⟩)] w (iD C L (F C s) w)
theorem qP (m:Nat) (stmt:PC→PS→(Hd×Sl×Sl)×PS) (hst:lZ 81 m stmt) (hs:∀C s,s.e=0→Stp C s (stmt C s).2) (hnx:∀C s,(stmt C s).2.e=0→s.i+1≤(stmt C s).2.i):jG 36 m (fun C=>lC C (stmt C)):=by
 intro C L w s hP hm hfew;obtain⟨iA,hiA,hzA0,hzA1,hzA2⟩:=info_parts Tryz.infoStmt;have hM:=Za (Moved.refl hP);have hlt0:=hP.lt;have hlen:=hP.fit.len;show Calls _ _ _ _ (sN C L (lC C (stmt C) s) w);obtain⟨R,hR⟩:∃x,x=lC C (stmt C) s:=⟨_,rfl⟩;rw[←hR];have hL1:Hid (nM C L (stmt C) m R (C.tk.length+1) .nil s (.slice none 0 0) w w):=Za ⟨hR.symm,fun _=>⟨by omega,Nat.zero_le _⟩,Nat.zero_le _,hm,hfew,hM.out,[],⟨rfl,.inl ⟨rfl,rfl⟩⟩,rfl⟩;clear hR hP hfew;go_enter Tryz.func36,Tryz.ntmps36;go_wp2_with fail;go_loopw [3] (fun av wr=>∃(f:Nat) (l:Sl) (t:PS),Hid (nM C L (stmt C) m R f l t av w wr)) (fun _ wr=>iY L wr)
 case atStart=>exact⟨_,_,_,hL1⟩
 clear hL1;obtain⟨f,l,t,hL⟩:=hrel;rename World=>wl;obtain⟨a0,d0,d1,d2,d3,d4,d5,d6,dfz⟩:=hL.out.mv.facts;obtain⟨b1,b2,b3,b4,b5,b6,b7⟩:=hL.out.mv.bounds;have hll:=hL.out.len;by_cases he:t.e=0
 case neg=>
  have he':((t.e:Int)==0)=false:=by simp;omega
  have hF:=Za (hL.out.stop he);obtain⟨vs,hown,hcells⟩:=hL.out.own;replace hown:=Za hown;replace hcells:=Za hcells;go_wp2_with fail;go_ret;rw[hF.out];exact⟨_,rfl,hL.out.mv,aQ.own hown.out hcells.out (Nat.le_trans hll (by decide))⟩
 have he':((t.e:Int)==0)=true:=by simp;omega
 obtain⟨f',hff,hRR⟩:=hL.out.go_ he b3;have hfu:=hL.out.fuel he;have hst0:=Za (hs C t he);have ht200:=hL.out.few.2 he;have he0:=Za he;obtain⟨vs,hown,hcells⟩:=hL.out.own;replace hown:=Za hown;replace hcells:=Za hcells;clear he
 cases h1:isF C [125] t with
 |true=>
  have hF:Hid (R=(l,t.next)):=Za (by rw[hRR,if_pos h1]);replace h1:=Za h1;clear hRR;go_wp2_with fail;refine(dH hL.out.mv [125] h1.out rfl).mono ?_;rintro e w2 ⟨rfl,q2,hW2⟩;have hO2:=Za (bV hown.out hW2 hlt0);have hC2:=Za (hcells.out.pw hW2 hlt0);replace q2:=Za q2;clear hW2 a0 d0 d1 d2 d3 d4 d5 d6 dfz;go_wp2_with fail;go_ret;rw[hF.out];exact⟨_,rfl,q2.out,aQ.own hO2.out hC2.out (Nat.le_trans hll (by decide))⟩
 |false=>
  rw[if_neg (by rw[h1];simp)]at hRR;replace h1:=Za h1;replace hRR:=Za hRR;go_wp2_with fail;refine(bg hL.out.mv [125] h1.out).mono ?_;rintro e w2 ⟨rfl,q2,hW2⟩;have hO2:=Za (bV hown.out hW2 hlt0);have hC2:=Za (hcells.out.pw hW2 hlt0);clear hW2 a0 d0 d1 d2 d3 d4 d5 d6 dfz;obtain⟨a0,d0,d1,d2,d3,d4,d5,d6,dfz⟩:=q2.facts;replace q2:=Za q2;by_cases hi:C.tk.length≤t.i
  ·have hi2:decide (C.tk.length≤t.i)=true:=by simpa using hi
   have hF:Hid (R=(.nil,bT C 51 t)):=Za (by rw[hRR.out,if_pos hi]);go_wp2_with fail;go_quiet (fail);go_wp2_with fail;refine(fF (q2.out.below (below_drewN (Below.refl _ _) _)) 51 (by decide) rfl).mono ?_;rintro e w3 ⟨rfl,q3,-⟩;replace q3:=Za q3;clear a0 d0 d1 d2 d3 d4 d5 d6 dfz;go_wp2_with fail;go_ret;rw[hF.out];exact⟨_,rfl,q3.out,aQ.nil_ _ _⟩
  ·have hi2:decide (C.tk.length≤t.i)=false:=by simpa using hi
   obtain⟨r,hr⟩:∃x,x=stmt C t:=⟨_,rfl⟩;have hnx0:=hnx C t;rw[←hr]at hnx0;have hstr:Hid (Stp C t r.2):=Za (by rw[hr];exact hst0.out);have hRS:Hid (R=je C (stmt C) f' (l.snoc r.1.1 r.1.2.1 r.1.2.2) r.2):=Za (by rw[hRR.out,if_neg hi,hr]);replace hr:=Za hr;replace hnx0:=Za hnx0;clear hRR hst0;go_wp2_with fail;go_quiet (fail);have q3:=q2.out.below (below_drewN (Below.refl _ w2) nq);have hO3:=own_below hO2.out (below_drewN (Below.refl _ w2) nq);have hC3:=aN.keep (w:=w2) (w':=w2.drewN nq) (fun x hx _=>rfl) hC2.out;obtain⟨w3,hw3⟩:∃x,x=w2.drewN nq:=⟨_,rfl⟩;rw[←hw3]at q3 hO3 hC3⊢;clear hw3 a0 d0 d1 d2 d3 d4 d5 d6 dfz q2 hO2 hC2;replace q3:=Za q3;replace hO3:=Za hO3;replace hC3:=Za hC3;have hcc:=hst C L w3 t q3.out.at_ hL.out.dp ht200;rw[←hr.out]at hcc;replace hcc:=Za hcc;go_wp2_with fail;refine hcc.out.mono ?_;clear hcc;rintro e w4 ⟨ve,vf,vc,va,vt,vl,rfl,q4,hH,hT,hE⟩;have q5:=q3.out.trans q4;have hO4:=bV hO3.out q4.wr hlt0;have hC4:=hC3.out.pw q4.wr hlt0
   have hge:∀x,x<w4.heap.size→Ge w3.heap.size x→dB w.heap.size u3 x:=fun x _ hS=>⟨Nat.le_trans q3.out.wr.size hS,fun e=>by have:=hO3.out.lt x e;have:w3.heap.size≤x:=hS;omega⟩;have hH4:=hH.mono hge;have hT4:=hT.mono hge;have hE4:=hE.mono hge;obtain⟨pe,ee⟩:=hH4.e.vp;obtain⟨pf,ef⟩:=hH4.f.vp;obtain⟨pc,ec⟩:=zX hH4.c;obtain⟨Aa,ca,ea⟩:=lX hH4.a;obtain⟨At,ct,et⟩:=aQ.jr hT4;obtain⟨Ae,ce,el⟩:=aQ.jr hE4;rw[ee,ef,ec,ea]at hH4;rw[et]at hT4;rw[el]at hE4;rw[ee,ef,ec,ea,et,el];clear hH hT hE hge ee ef ec ea et el;have hbn:=aA w4 (.cells #[.int .i64 r.1.1.k,.string (ay r.1.1.x),.string (ay r.1.1.y),.pointer pe,.pointer pf,.pointer pc,.slice Aa r.1.1.args.length ca,.slice At r.1.2.1.len ct,.slice Ae r.1.2.2.len ce,.int .i64 r.1.1.at_] 63);have hO5:=Za (own_below hO4 hbn)
   have hnews:Hid (∀(j:Nat) u,([.int .i64 r.1.1.k,.string (ay r.1.1.x),.string (ay r.1.1.y),.pointer pe,.pointer pf,.pointer pc,.slice Aa r.1.1.args.length ca,.slice At r.1.2.1.len ct,.slice Ae r.1.2.2.len ce,.int .i64 r.1.1.at_]:List Value)[j]? =some u→(w4.alloc (.cells #[.int .i64 r.1.1.k,.string (ay r.1.1.x),.string (ay r.1.1.y),.pointer pe,.pointer pf,.pointer pc,.slice Aa r.1.1.args.length ca,.slice At r.1.2.1.len ct,.slice Ae r.1.2.2.len ce,.int .i64 r.1.1.at_] 63)).cell? ((⟨w4.heap.size,0,none⟩:Addr).add j)=some u):=Za (fun j u hu=>by
    have hh:=Holds.new w4 63 #[.int .i64 r.1.1.k,.string (ay r.1.1.x),.string (ay r.1.1.y),.pointer pe,.pointer pf,.pointer pc,.slice Aa r.1.1.args.length ca,.slice At r.1.2.1.len ct,.slice Ae r.1.2.2.len ce,.int .i64 r.1.1.at_]
    have hadd:(⟨w4.heap.size,0,none⟩:Addr).add j=⟨w4.heap.size,j,none⟩:=by unfold Addr.add;split<;>simp_all
    rw[hadd,hh.cell]
    simpa using hu)
   have hone:Hid (∀u∈([.int .i64 r.1.1.k,.string (ay r.1.1.x),.string (ay r.1.1.y),.pointer pe,.pointer pf,.pointer pc,.slice Aa r.1.1.args.length ca,.slice At r.1.2.1.len ct,.slice Ae r.1.2.2.len ce,.int .i64 r.1.1.at_]:List Value),u.oneCell'=true):=Za (by simp;exact⟨rfl,rfl,rfl,rfl,rfl,rfl,rfl,rfl,rfl,rfl⟩);have hsz:Hid (w.heap.size≤(w4.alloc (.cells #[.int .i64 r.1.1.k,.string (ay r.1.1.x),.string (ay r.1.1.y),.pointer pe,.pointer pf,.pointer pc,.slice Aa r.1.1.args.length ca,.slice At r.1.2.1.len ct,.slice Ae r.1.2.2.len ce,.int .i64 r.1.1.at_] 63)).heap.size):=Za (Nat.le_trans q5.wr.size hbn.size);have q6:=Za (q5.below hbn);replace hbn:=Za hbn;replace hC4:=Za hC4;replace hH4:=Za hH4;replace hT4:=Za hT4;replace hE4:=Za hE4;have hl1:Hid ((l.snoc r.1.1 r.1.2.1 r.1.2.2).len=l.len+1):=Za (Sl.nR _ _ _ _);have hfu2:=hfu.2;replace hfu:=Za hfu;clear q5 hO4 q4;unfold Hd.cells;go_wp2_with
    (at_builtin
     go_loud (refine wpList_append_own_at _ rfl (.tmp 26) (.tmp 29) 24 rfl w.heap.size 63 iA _ 10 144 rfl hiA hzA0 hzA1 hzA2 rfl (by omega) u3 l.len vs rfl hO5.out ⟨w4.heap.size,0,none⟩ 1 1 [.int .i64 r.1.1.k,.string (ay r.1.1.x),.string (ay r.1.1.y),.pointer pe,.pointer pf,.pointer pc,.slice Aa r.1.1.args.length ca,.slice At r.1.2.1.len ct,.slice Ae r.1.2.2.len ce,.int .i64 r.1.1.at_] rfl rfl hnews.out hone.out (by unfold maxLen;omega) (by omega) hsz.out ?_)
     go_loud (
      intro v5 w5 ho5 hg5 _ hv5;have hO7:Hid (w5.ownsRow w.heap.size 63 10 v5 (l.snoc r.1.1 r.1.2.1 r.1.2.2).len (vs++ [.int .i64 r.1.1.k,.string (ay r.1.1.x),.string (ay r.1.1.y),.pointer pe,.pointer pf,.pointer pc,.slice Aa r.1.1.args.length ca,.slice At r.1.2.1.len ct,.slice Ae r.1.2.2.len ce,.int .i64 r.1.1.at_])):=Za (jL ho5 hl1.out.symm);have hC7:Hid (aN w5 (dB w.heap.size v5) (l.snoc r.1.1 r.1.2.1 r.1.2.2) (vs++ [.int .i64 r.1.1.k,.string (ay r.1.1.x),.string (ay r.1.1.y),.pointer pe,.pointer pf,.pointer pc,.slice Aa r.1.1.args.length ca,.slice At r.1.2.1.len ct,.slice Ae r.1.2.2.len ce,.int .i64 r.1.1.at_])):=Za (aN.push hC4.out hH4.out hT4.out hE4.out hbn.out hg5 hv5)
      have q7:Hid (Moved C L r.2 w w5):=Za ⟨q6.out.at_.writes (Writes.bG hg5 (M:= [u3.ownBlock]) (by simp)) (fun k hk=>by have:=bD hO5.out (List.mem_singleton.1 hk).symm;omega),by
       refine q6.out.wr.then_ (Writes.bG hg5 (M:= [u3.ownBlock]) (by simp)) (fun k hk hm=> ?_);have:=bD hO5.out (List.mem_singleton.1 hm).symm
       omega⟩
      clear ho5 hg5 hv5))
   have GH:r.2.Few:=hstr.out.nn hL.out.few
   have hL7:Hid (nM C L (stmt C) m R f' (l.snoc r.1.1 r.1.2.1 r.1.2.2) r.2 v5 w w5):=
    Za ⟨hRS.out.symm,fun h=>by have:=hnx0.out h;have:=hfu.out.1;rw[hl1.out];omega,by rw[hl1.out];omega,by rw[hstr.out.dp];exact hL.out.dp,GH,q7.out,_,hO7.out,hC7.out⟩
   have hm1:=Za hL.out.mv.iY;have hm2:=Za hL7.out.mv.iY;have hb7:=hL7.out.mv.bounds.2.2.1;have hless:=Za (jA he0.out (Nat.le_trans hb7 hlen) hstr.out.i1 (fun h=>by have:=hnx0.out h;omega));exact⟨⟨_,_,_,hL7⟩,by rw[hm1.out,hm2.out];exact hless.out⟩
theorem lZ.of {m:Nat} {sum:PC→PS→Ex×PS} {cond:PC→PS→Cn×PS} {block:PC→PS→Sl×PS} (hsum:dG 130 m sum) (hcond:dL 131 m cond) (pK:jG 132 m block)
  (hs:∀C s,Stp C s (sum C s).2) (hc:∀C s,Stp C s (cond C s).2) (hb:∀C s,Stp C s (block C s).2):lZ 81 m (fun C=>fV C (sum C) (cond C) (block C)):=
 fun C L w s hP hm hn=>Ap m sum cond block hsum hcond pK hs hc hb C L w s hP hm hn
theorem oM:∀d,d≤40→lZ 81 (40-d) (fun C=>nP C d)∧jG 36 (40-d) (fun C=>jq C d)
 |0,_=>by
  have hb:jG 132 40 (fun C=>zB C 0):=sF 40 (fun _ s=>(.nil,s)) (jG.vac _ _) (fun _ s=>Stp.refl s);have h1:lZ 81 40 (fun C=>nP C 0):=lZ.of (j_ 0 (by omega)).2.2 (pV 0 (by omega)).2.2 hb (fun C s=>fK 0 s) (fun C s=>iT 0 s) (fun C s=>kW 0 s);exact⟨h1,qP 40 (fun C=>nP C 0) h1 (fun C s he=>mF 0 s he) (fun C s he=>qW (fK 0) (iT 0) (kW 0) s he)⟩
 |d+1,hd=>by
  obtain⟨_,i2⟩:=oM d (by omega)
  have e:40-d=40-(d+1)+1:=by omega
  rw[e]at i2;have hb:jG 132 (40-(d+1)) (fun C=>zB C (d+1)):=sF _ (fun C=>jq C d) i2 (fun C s=>qV d s);have h1:lZ 81 (40-(d+1)) (fun C=>nP C (d+1)):=lZ.of (j_ (d+1) hd).2.2 (pV (d+1) hd).2.2 hb (fun C s=>fK (d+1) s) (fun C s=>iT (d+1) s) (fun C s=>kW (d+1) s);exact⟨h1,qP _ (fun C=>nP C (d+1)) h1 (fun C s he=>mF (d+1) s he) (fun C s he=>qW (fK (d+1)) (iT (d+1)) (kW (d+1)) s he)⟩
def Vr.cells (v:Vr):List Value:= [.string (ay v.nm),.bool v.ptr]
theorem Tryz.infoVar:(Tryz.prog.info? 79).map (fun i=>(i.zero,i.size,i.bytes))=some (some (.agg #[.string ⟨#[]⟩,.bool false]),2,24):=by kernel_rfl
def yw (C:PC) (L:PL) (B:Nat) (v:Value) (r:List Vr×PS) (w:World) (e:Ending) (w':World):Prop:=
 ∃v',e= .returned v'∧PAt C L r.2 w'∧Writes [some L.g,v.ownBlock] w w'∧w'.ownsRow B 79 2 v' r.1.length (r.1.flatMap Vr.cells)∧(∀x∈r.1,x.nm.length≤4096)
theorem rE {C:PC} {L:PL} (w:World) (s:PS) (hP:PAt C L s w) (B:Nat) (hB:L.g<B) (hBw:B≤w.heap.size) (v:Value) (l:List Vr) (hown:w.ownsRow B 79 2 v l.length (l.flatMap Vr.cells)) (hl:l.length≤5000) (hnm:∀x∈l,x.nm.length≤4096) (ptr:Bool) (most:Nat):
  Calls Tryz.prog 32 #[.pointer (some ⟨L.g,0,none⟩),v,.bool ptr,.int .i64 most] w (yw C L B v (eF C l ptr most s) w):=by
 obtain⟨iA,hiA,hzA0,hzA1,hzA2⟩:=info_parts Tryz.infoVar;obtain⟨R,hR⟩:∃x,x=eF C l ptr most s:=⟨_,rfl⟩;rw[←hR];have hlt0:=hP.lt;obtain⟨A,c,hv,_,_⟩:=bI.own (S:=fun _=>True) hown (fun _ _=>trivial);have hM:=Za (Moved.refl hP);obtain⟨ln,hln⟩:∃x,x=l.length:=⟨_,rfl⟩;rw[←hln]at hv hl;obtain⟨x,hx⟩:∃x,x=(aK C s).1:=⟨_,rfl⟩;obtain⟨s2,hs2⟩:∃x,x=(aK C s).2:=⟨_,rfl⟩;have hnf:Hid (aK C s=(x,s2)):=Za (by rw[hx,hs2]);replace hnm:=Za hnm;replace hown:=Za hown;replace hln:=Za hln;subst hv;clear hP
 have hgoal:∀(b:Bool),cu C s=b→(b=true→ln<most)→Calls Tryz.prog 32 #[.pointer (some ⟨L.g,0,none⟩),.slice A ln c,.bool ptr,.int .i64 most] w (yw C L B (.slice A ln c) R w):=fun b hn hlm=>by
  have hF:Hid (R=(l++ [(⟨x,ptr⟩:Vr)],s2)):=Za (by
   rw[hR,hx,hs2];unfold eF;rw[hn]
   cases b with
   |false=>rfl
   |true=>
    have:=hlm rfl;rw[hln.out]at this;rw[decide_eq_false (by omega)]
    rfl)
  replace hn:=Za hn;clear hR hx hs2;have hbn:=fun(w5:World)=>aA w5 (.cells #[.string (ay x),.bool ptr] 79)
  have hlt2:b=true→(ln:Int)<(most:Int):=fun h=>by have:=hlm h;omega
  have hge2:b=true→decide (most≤ln)=false:=fun h=>by have:=hlm h;simp;omega
  go_enter Tryz.func32,Tryz.ntmps32;go_wp2_with fail;refine(aX hM.out hn.out).mono ?_;rintro e w1 ⟨rfl,q1,hW1⟩;have hO1:=Za (bV hown.out hW1 hB);replace q1:=Za q1;clear hW1
  cases b with
  |true=>
   have hlt3:=hlt2 rfl;have hge3:=hge2 rfl;clear hlt2 hge2 hlm hbn;go_wp2_with fail;refine(dR q1.out hnf.out).mono ?_;rintro e w2 ⟨rfl,q2,hxl,hW2⟩;have hO2:=bV hO1.out hW2 hB;have hbn:=aA w2 (.cells #[.string (ay x),.bool ptr] 79);have hO3:=Za (own_below hO2 hbn)
   have hnews:Hid (∀(q:Nat) u,([.string (ay x),.bool ptr]:List Value)[q]? =some u→(w2.alloc (.cells #[.string (ay x),.bool ptr] 79)).cell? ((⟨w2.heap.size,0,none⟩:Addr).add q)=some u):=Za (fun q u hu=>by
    have hh:=Holds.new w2 79 #[.string (ay x),.bool ptr]
    have hadd:(⟨w2.heap.size,0,none⟩:Addr).add q=⟨w2.heap.size,q,none⟩:=by unfold Addr.add;split<;>simp_all
    rw[hadd,hh.cell]
    simpa using hu)
   have hone:Hid (∀u∈([.string (ay x),.bool ptr]:List Value),u.oneCell'=true):=Za (by simp;exact⟨rfl,rfl⟩);have hsz:Hid (B≤(w2.alloc (.cells #[.string (ay x),.bool ptr] 79)).heap.size):=Za (Nat.le_trans hBw (Nat.le_trans q2.wr.size hbn.size));have q3:=Za (q2.below hbn);clear hO2 hW2 hbn q2;go_wp2_with
    (at_builtin
     go_loud (refine wpList_append_own_at _ rfl (.tmp 20) (.tmp 25) 23 rfl B 79 iA _ 2 24 rfl hiA hzA0 hzA1 hzA2 rfl (by omega) (.slice A ln c) ln (l.flatMap Vr.cells) rfl (jL hO3.out hln.out.symm) ⟨w2.heap.size,0,none⟩ 1 1 [.string (ay x),.bool ptr] rfl rfl hnews.out hone.out (by unfold maxLen;omega) (by omega) hsz.out ?_)
     go_loud (
      intro v5 w5 ho5 hg5 _ _;have hO7:Hid (w5.ownsRow B 79 2 v5 (ln+1) (l.flatMap Vr.cells++ [.string (ay x),.bool ptr])):=Za ho5;have hP7:Hid (PAt C L s2 w5∧Writes [some L.g,(Value.slice A ln c).ownBlock] w w5):=Za ⟨q3.out.at_.writes (Writes.bG hg5 (M:= [(Value.slice A ln c).ownBlock]) (by simp)) (fun k hk=>by have:=bD hO3.out (List.mem_singleton.1 hk).symm;omega),(q3.out.wr.more (by simp)).trans (Writes.bG hg5 (by simp))⟩
      clear ho5 hg5))
   go_ret;rw[hF.out];refine⟨_,rfl,hP7.out.1,hP7.out.2,?_,fun y hy=> ?_⟩
   ·rw[List.length_append,List.length_singleton,←hln.out,List.flatMap_append];exact hO7.out
   ·rcases List.mem_append.1 hy with h1|h1
    ·exact hnm.out y h1
    ·simp at h1;subst h1;exact hxl
  |false=>
   clear hlt2 hge2 hlm hbn;go_wp2_with fail;refine(dR q1.out hnf.out).mono ?_;rintro e w2 ⟨rfl,q2,hxl,hW2⟩;have hO2:=bV hO1.out hW2 hB;have hbn:=aA w2 (.cells #[.string (ay x),.bool ptr] 79);have hO3:=Za (own_below hO2 hbn)
   have hnews:Hid (∀(q:Nat) u,([.string (ay x),.bool ptr]:List Value)[q]? =some u→(w2.alloc (.cells #[.string (ay x),.bool ptr] 79)).cell? ((⟨w2.heap.size,0,none⟩:Addr).add q)=some u):=Za (fun q u hu=>by
    have hh:=Holds.new w2 79 #[.string (ay x),.bool ptr]
    have hadd:(⟨w2.heap.size,0,none⟩:Addr).add q=⟨w2.heap.size,q,none⟩:=by unfold Addr.add;split<;>simp_all
    rw[hadd,hh.cell]
    simpa using hu)
   have hone:Hid (∀u∈([.string (ay x),.bool ptr]:List Value),u.oneCell'=true):=Za (by simp;exact⟨rfl,rfl⟩);have hsz:Hid (B≤(w2.alloc (.cells #[.string (ay x),.bool ptr] 79)).heap.size):=Za (Nat.le_trans hBw (Nat.le_trans q2.wr.size hbn.size));have q3:=Za (q2.below hbn);clear hO2 hW2 hbn q2;go_wp2_with
    (at_builtin
     go_loud (refine wpList_append_own_at _ rfl (.tmp 20) (.tmp 25) 23 rfl B 79 iA _ 2 24 rfl hiA hzA0 hzA1 hzA2 rfl (by omega) (.slice A ln c) ln (l.flatMap Vr.cells) rfl (jL hO3.out hln.out.symm) ⟨w2.heap.size,0,none⟩ 1 1 [.string (ay x),.bool ptr] rfl rfl hnews.out hone.out (by unfold maxLen;omega) (by omega) hsz.out ?_)
     go_loud (
      intro v5 w5 ho5 hg5 _ _;have hO7:Hid (w5.ownsRow B 79 2 v5 (ln+1) (l.flatMap Vr.cells++ [.string (ay x),.bool ptr])):=Za ho5;have hP7:Hid (PAt C L s2 w5∧Writes [some L.g,(Value.slice A ln c).ownBlock] w w5):=Za ⟨q3.out.at_.writes (Writes.bG hg5 (M:= [(Value.slice A ln c).ownBlock]) (by simp)) (fun k hk=>by have:=bD hO3.out (List.mem_singleton.1 hk).symm;omega),(q3.out.wr.more (by simp)).trans (Writes.bG hg5 (by simp))⟩
      clear ho5 hg5))
   go_ret;rw[hF.out];refine⟨_,rfl,hP7.out.1,hP7.out.2,?_,fun y hy=> ?_⟩
   ·rw[List.length_append,List.length_singleton,←hln.out,List.flatMap_append];exact hO7.out
   ·rcases List.mem_append.1 hy with h1|h1
    ·exact hnm.out y h1
    ·simp at h1;subst h1;exact hxl
 cases hn:cu C s with
 |false=>exact hgoal false hn (fun h=>by cases h)
 |true=>
  by_cases hlm:ln<most
  ·exact hgoal true hn (fun _=>hlm)
  ·have hF:Hid (R=(l,bT C 53 s)):=Za (by rw[hR];unfold eF;rw[hn,decide_eq_true (by rw[←hln.out];omega)];rfl)
   have hge:(most:Int)≤(ln:Int):=by omega
   have hge2:decide (most≤ln)=true:=by simp;omega
   replace hn:=Za hn;clear hgoal hR hx hs2 hlm;go_enter Tryz.func32,Tryz.ntmps32;go_wp2_with fail;refine(aX hM.out hn.out).mono ?_;rintro e w1 ⟨rfl,q1,hW1⟩;have hO1:=Za (bV hown.out hW1 hB);replace q1:=Za q1;clear hW1;go_wp2_with fail;refine(fF q1.out 53 (by decide) rfl).mono ?_;rintro e w2 ⟨rfl,q2,hW2⟩;have hO2:=Za (bV hO1.out hW2 hB);replace q2:=Za q2;clear hW2;go_wp2_with fail;go_ret;rw[hF.out];exact⟨_,rfl,q2.out.at_,q2.out.wr.more (by simp),hO2.out,hnm.out⟩
theorem zJ (p:UInt8→Bool):∀l:List UInt8,aU p l≤l.length
 | []=>Nat.le_refl _
 |c::r=>by unfold aU;have:=zJ p r;split<;>simp<;>omega
theorem bP {p:UInt8→Bool} {c:UInt8} {r:List UInt8} (h:p c=true):aU p (c::r)=aU p r+1:=by show(if p c then aU p r+1 else 0)=_;rw[if_pos h]
theorem kT {p:UInt8→Bool} {c:UInt8} {r:List UInt8} (h:p c=false):aU p (c::r)=0:=by show(if p c then aU p r+1 else 0)=_;rw[if_neg (by rw[h];simp)]
def Tok.ok (t:Tok):Prop:=t.at_≤4096∧t.t.length≤4096∧t.k≤2
theorem jy:∀(f:Nat) (l:List UInt8) (i:Nat) (out:List Tok),i+l.length≤4096→out.length≤i→(∀t∈out,t.ok)→(fC f l i out).1.length≤4096∧(∀t∈(fC f l i out).1,t.ok)∧(fC f l i out).2.1≤4096∧(fC f l i out).2.2≤100
 |0,l,i,out,hi,ho,h=>⟨by unfold fC;simp only;omega,h,by unfold fC;simp,by unfold fC;simp⟩
 |f+1,l,i,out,hi,ho,h=>by
  have snoc:∀(t:Tok),t.ok→∀x∈out++ [t],x.ok:=fun t ht x hx=>by
   rcases List.mem_append.1 hx with h1|h1
   ·exact h x h1
   ·simp at h1;subst h1;exact ht
  have err:∀(a b:Nat),a≤4096→b≤100→(([]:List Tok),a,b).1.length≤4096∧(∀t∈(([]:List Tok),a,b).1,t.ok)∧(([]:List Tok),a,b).2.1≤4096∧(([]:List Tok),a,b).2.2≤100:=fun a b h1 h2=>⟨by simp,by simp,h1,h2⟩;unfold fC
  cases l with
  |nil=>exact⟨by simp only;omega,h,by simp,by simp⟩
  |cons c r=>
   simp only[List.length_cons]at hi;simp only;have hs:=fun p=>zJ p (c::r);simp only[List.length_cons]at hs;split
   ·exact jy f r (i+1) out (by omega) (by omega) h
   split
   ·have:=hs fun x=>x.toNat !=10;exact jy f _ _ out (by simp only[List.length_drop,List.length_cons];omega) (by omega) h
   split
   ·rename_i hl;split
    ·exact err i 53 (by omega) (by decide)
    ·have h1:=hs fun x=>eU x||bJ x
     have h2:1≤aU (fun x=>eU x||bJ x) (c::r):=by rw[bP (by simp[hl])];omega
     refine jy f _ _ _ (by simp only[List.length_drop,List.length_cons];omega) (by rw[List.length_append,List.length_singleton];omega) (snoc _ ⟨by simp only;omega,?_,by simp⟩);simp only[List.length_take,List.length_cons];omega
   split
   ·rename_i hd;have h1:=hs bJ
    have h2:1≤aU bJ (c::r):=by rw[bP hd];omega
    have hgo:=jy f ((c::r).drop (aU bJ (c::r))) (i+aU bJ (c::r)) (out++ [⟨1,(c::r).take (aU bJ (c::r)),i⟩]) (by simp only[List.length_drop,List.length_cons];omega) (by rw[List.length_append,List.length_singleton];omega) (snoc _ ⟨by simp only;omega,by simp only[List.length_take,List.length_cons];omega,by simp⟩);split
    ·exact err i 53 (by omega) (by decide)
    split
    all_goals
     split
     ·exact err i 50 (by omega) (by decide)
     ·exact hgo
   split
   ·rename_i h2
    have hr:1≤r.length:=by
     cases r with
     |nil=>simp[jP]at h2
     |cons d q=>simp
    exact jy f _ _ _ (by simp only[List.length_drop,List.length_cons];omega) (by rw[List.length_append,List.length_singleton];omega) (snoc _ ⟨by simp only;omega,by simp;omega,by simp⟩)
   split
   ·exact jy f _ _ _ (by omega) (by rw[List.length_append,List.length_singleton];omega) (snoc _ ⟨by simp only;omega,by simp,by simp⟩)
   ·exact err i 50 (by omega) (by decide)
theorem Dz (l:List UInt8) (he:(o_ l).2.2=0):PC.Fit ⟨(o_ l).1,l.length⟩:=by
 unfold o_ at he⊢;split at he
 ·cases he
 ·rename_i h;rw[if_neg h];obtain⟨h1,h2,_⟩:=jy (l.length+1) l 0 [] (by omega) (by simp) (by simp);exact⟨h1,by simp only;omega,fun t ht=>(h2 t ht).1,fun t ht=>⟨(h2 t ht).2.1,(h2 t ht).2.2⟩⟩
theorem BF (w:World) (c:UInt8):Calls Tryz.prog 79 #[.int .u8 c.toNat] w fun e w'=>e= .returned (.bool (bJ c))∧w'=w:=by
 have hc:=c.toNat_lt;obtain⟨n,hn⟩:∃n,n=c.toNat:=⟨_,rfl⟩;unfold bJ;rw[←hn]at hc⊢;clear hn;rcases Nat.lt_or_ge n 48 with h1|h1
 ·have h2:(48≤n&&n≤57:Bool)=false:=by simp;omega
  have h3:¬(48:Int)≤(n:Int):=by omega
  rw[h2];go_enter Tryz.func79,Tryz.ntmps79;go_wp2_with fail;go_ret;exact⟨rfl,rfl⟩
 ·have h3:(48:Int)≤(n:Int):=by omega
  rcases Nat.lt_or_ge 57 n with h4|h4
  ·have h2:(48≤n&&n≤57:Bool)=false:=by simp;omega
   have h5:¬(n:Int)≤57:=by omega
   rw[h2];go_enter Tryz.func79,Tryz.ntmps79;go_wp2_with fail;go_ret;exact⟨rfl,rfl⟩
  ·have h2:(48≤n&&n≤57:Bool)=true:=by simp;omega
   have h5:(n:Int)≤57:=by omega
   rw[h2];go_enter Tryz.func79,Tryz.ntmps79;go_wp2_with fail;go_ret;exact⟨rfl,rfl⟩
theorem yU (w:World) (c:UInt8):Calls Tryz.prog 78 #[.int .u8 c.toNat] w fun e w'=>e= .returned (.bool (eU c))∧w'=w:=by
 have hc:=c.toNat_lt;obtain⟨n,hn⟩:∃n,n=c.toNat:=⟨_,rfl⟩;unfold eU;rw[←hn]at hc⊢;clear hn;obtain⟨b,hb⟩:∃b,b=((97≤n&&n≤122)|| (65≤n&&n≤90)||n==95:Bool):=⟨_,rfl⟩;rw[←hb];rcases(show(97≤n∧n≤122)∨122<n∨(65≤n∧n≤90)∨n<65∨n=95∨(90<n∧n<97∧n≠95)by omega)with h|h|h|h|h|h
 ·have hB:Hid (b=true):=Za (by rw[hb];simp;omega)
  have g1:(97:Int)≤(n:Int):=by omega
  have g2:(n:Int)≤122:=by omega
  clear hb h;go_enter Tryz.func78,Tryz.ntmps78;go_wp2_with fail;go_ret;rw[hB.out];exact⟨rfl,rfl⟩
 ·have hB:Hid (b=false):=Za (by rw[hb];simp;omega)
  have g1:(97:Int)≤(n:Int):=by omega
  have g2:¬(n:Int)≤122:=by omega
  have g3:(65:Int)≤(n:Int):=by omega
  have g4:¬(n:Int)≤90:=by omega
  have g5:((n:Int)==95)=false:=by simp;omega
  clear hb h;go_enter Tryz.func78,Tryz.ntmps78;go_wp2_with fail;go_ret;rw[hB.out];exact⟨rfl,rfl⟩
 ·have hB:Hid (b=true):=Za (by rw[hb];simp;omega)
  have g1:¬(97:Int)≤(n:Int):=by omega
  have g3:(65:Int)≤(n:Int):=by omega
  have g4:(n:Int)≤90:=by omega
  clear hb h;go_enter Tryz.func78,Tryz.ntmps78;go_wp2_with fail;go_ret;rw[hB.out];exact⟨rfl,rfl⟩
 ·have hB:Hid (b=false):=Za (by rw[hb];simp;omega)
  have g1:¬(97:Int)≤(n:Int):=by omega
  have g3:¬(65:Int)≤(n:Int):=by omega
  have g5:((n:Int)==95)=false:=by simp;omega
  clear hb h;go_enter Tryz.func78,Tryz.ntmps78;go_wp2_with fail;go_ret;rw[hB.out];exact⟨rfl,rfl⟩
 ·have hB:Hid (b=true):=Za (by rw[hb];simp;omega)
  have g1:¬(97:Int)≤(n:Int):=by omega
  have g3:(65:Int)≤(n:Int):=by omega
  have g4:¬(n:Int)≤90:=by omega
  have g5:((n:Int)==95)=true:=by simp;omega
  clear hb h;go_enter Tryz.func78,Tryz.ntmps78;go_wp2_with fail;go_ret;rw[hB.out];exact⟨rfl,rfl⟩
 ·have hB:Hid (b=false):=Za (by rw[hb];simp;omega)
  have g1:¬(97:Int)≤(n:Int):=by omega
  have g3:(65:Int)≤(n:Int):=by omega
  have g4:¬(n:Int)≤90:=by omega
  have g5:((n:Int)==95)=false:=by simp;omega
  clear hb h;go_enter Tryz.func78,Tryz.ntmps78;go_wp2_with fail;go_ret;rw[hB.out];exact⟨rfl,rfl⟩
theorem one_any (w:World) (s:ByteArray) (c:UInt8) (hs:s.size≤100):Calls Tryz.prog 80 #[.string s,.int .u8 c.toNat] w fun e w'=>e= .returned (.bool (s.data.toList.contains c))∧w'=w:=by
 obtain⟨b,hb⟩:∃b,b=s.data.toList.contains c:=⟨_,rfl⟩;rw[←hb];replace hb:=Za hb;have hc:=c.toNat_lt;go_enter Tryz.func80,Tryz.ntmps80;go_wp2_with fail
 go_loop [5] (fun i=>∃k:Nat,k≤s.size∧i= .int .i64 k∧Hid ((s.data.toList.take k).contains c=false)) (fun i=>s.size-(intOf i).toNat)
 case atStart=>exact⟨0,Nat.zero_le _,rfl,Za rfl⟩
 case round=>
  obtain⟨k,hk,rfl,hT⟩:=hrel;by_cases hlt:k<s.size
  ·have hsn:=qO s k hlt;obtain⟨x,hx⟩:∃x,x=s[k]:=⟨_,rfl⟩;have hmem:Hid (x∈s.data.toList):=Za (by rw[hx];exact List.getElem_mem (by simpa using hlt));rw[←hx]at hsn;have hx3:=x.toNat_lt;by_cases hxc:x=c
   ·have hq:(((s[k].toNat:Int))==((c.toNat:Int)))=true:=by rw[←hx,hxc];simp
    have hB:Hid (b=true):=Za (by rw[hb.out,←hxc];simpa using hmem.out);clear hx hsn hmem hxc;go_wp2_with fail;go_ret;rw[hB.out];exact⟨rfl,rfl⟩
   ·have hq:(((s[k].toNat:Int))==((c.toNat:Int)))=false:=by rw[←hx];simp;intro h;exact hxc (UInt8.toNat_inj.1 (by omega))
    have hT2:Hid ((s.data.toList.take (k+1)).contains c=false):=Za (by
     have:=hT.out;rw[hsn];simp only[List.contains_append,this,Bool.false_or]
     simpa using fun h=>hxc h.symm)
    clear hx hsn hmem hT hxc;go_wp2_with fail;go_round
    case rel=>exact⟨k+1,by omega,by go_num,hT2⟩
    case measure=>simp[intOf];omega
  ·have hB:Hid (b=false):=Za (by
    have:=hT.out;rw[List.take_of_length_le (by simp;omega)]at this
    rw[hb.out,this])
   clear hT;go_wp2_with fail;go_ret;rw[hB.out];exact⟨rfl,rfl⟩
structure jk (s:ByteArray) (R:List Tok×Nat×Nat) (f i:Nat) (out:List Tok) (v:Value) (w0 w:World):Prop where
 eq:fC f (s.data.toList.drop i) i out=R
 fuel:s.size<i+f
 len:out.length≤i
 own:w.ownsRow w0.heap.size 123 3 v out.length (out.flatMap Tok.cells)
 bel:Below w0.heap.size w0 w
def Fh (R:List Tok×Nat×Nat) (w:World) (e:Ending) (w':World):Prop:=
 ∃A c,e= .returned (.tuple #[.slice A R.1.length c,.int .i64 R.2.1,.int .i64 R.2.2])∧Row w' w'.heap.size A (R.1.flatMap Tok.cells)∧R.1.length≤c∧Below w.heap.size w w'
theorem drop_cons (s:ByteArray) (i:Nat) (h:i<s.size):s.data.toList.drop i=s[i]::s.data.toList.drop (i+1):=by
 rw[List.drop_eq_getElem_cons (by simpa using h)];rfl
theorem jk.go_ {s:ByteArray} {R:List Tok×Nat×Nat} {f i:Nat} {out:List Tok} {v:Value} {w0 w:World} (h:jk s R f i out v w0 w) (hi:i<s.size):
  ∃f',f=f'+1∧fC (f'+1) (s[i]::s.data.toList.drop (i+1)) i out=R:=by
 have hf:=h.fuel
 cases f with
 |zero=>omega
 |succ f=>exact⟨f,rfl,by rw[←drop_cons s i hi];exact h.eq⟩
theorem Dy (f i:Nat) (out:List Tok):fC f [] i out=(out,0,0):=by
 cases f with
 |zero=>unfold fC;rfl
 |succ f=>unfold fC;rfl
theorem ET {f i:Nat} {c:UInt8} {r:List UInt8} {out:List Tok} (h:wsC c=true):fC (f+1) (c::r) i out=fC f r (i+1) out:=by
 conv=>lhs;unfold fC
 simp only;rw[if_pos h]
theorem Bd {f i:Nat} {c:UInt8} {r:List UInt8} {out:List Tok} (h:wsC c=false) (h2:c.toNat=35):fC (f+1) (c::r) i out=fC f ((c::r).drop (aU (fun x=>x.toNat !=10) (c::r))) (i+aU (fun x=>x.toNat !=10) (c::r)) out:=by
 conv=>lhs;unfold fC
 simp only;rw[if_neg (by rw[h];simp),if_pos h2]
theorem Bf {f i:Nat} {c:UInt8} {r:List UInt8} {out:List Tok} (h:wsC c=false) (h2:c.toNat≠35) (h3:eU c=true):fC (f+1) (c::r) i out=
  if 32<aU (fun x=>eU x||bJ x) (c::r)then([],i,53)
  else fC f ((c::r).drop (aU (fun x=>eU x||bJ x) (c::r))) (i+aU (fun x=>eU x||bJ x) (c::r)) (out++ [⟨0,(c::r).take (aU (fun x=>eU x||bJ x) (c::r)),i⟩]):=by
 conv=>lhs;unfold fC
 simp only;rw[if_neg (by rw[h];simp),if_neg h2,if_pos h3]
theorem Dx {f i:Nat} {c:UInt8} {r:List UInt8} {out:List Tok} (h:wsC c=false) (h2:c.toNat≠35) (h3:eU c=false) (h4:bJ c=true):fC (f+1) (c::r) i out=
  if (oU ((c::r).take (aU bJ (c::r))) 0 false).2||9223372036854775807<(oU ((c::r).take (aU bJ (c::r))) 0 false).1 then([],i,53)
  else if (match (c::r).drop (aU bJ (c::r))with| []=>false|d::_=>eU d)|| (c.toNat==48&&1<aU bJ (c::r))then([],i,50)
  else fC f ((c::r).drop (aU bJ (c::r))) (i+aU bJ (c::r)) (out++ [⟨1,(c::r).take (aU bJ (c::r)),i⟩]):=by
 conv=>lhs;unfold fC
 simp only;rw[if_neg (by rw[h];simp),if_neg h2,if_neg (by rw[h3];simp),if_pos h4];rfl
theorem oZ {f i:Nat} {c:UInt8} {r:List UInt8} {out:List Tok} (h:wsC c=false) (h2:c.toNat≠35) (h3:eU c=false) (h4:bJ c=false):fC (f+1) (c::r) i out=
  if jP (c::r)then fC f ((c::r).drop 2) (i+2) (out++ [⟨2,(c::r).take 2,i⟩])
  else if nC.contains c then fC f r (i+1) (out++ [⟨2,[c],i⟩])else([],i,50):=by
 conv=>lhs;unfold fC
 simp only;rw[if_neg (by rw[h];simp),if_neg h2,if_neg (by rw[h3];simp),if_neg (by rw[h4];simp)]
theorem dw (s:ByteArray) (a b:Nat):s.extract a b=ay ((s.data.toList.drop a).take (b-a)):=by
 unfold ay;apply ByteArray.ext;rw[ByteArray.data_extract];apply Array.toList_inj.1;simp
theorem Tryz.infoTok:(Tryz.prog.info? 123).map (fun i=>(i.zero,i.size,i.bytes))=some (some (.agg #[.int .i64 0,.string ⟨#[]⟩,.int .i64 0]),3,32):=by kernel_rfl
def iP:Code→Option Code
 | .loop c=>some c
 | .seq a b=>match iP a with
  |some c=>some c
  |none=>iP b
 | .block _ c=>iP c
 | .scope c=>iP c
 | .cond _ a b=>match iP a with
  |some c=>some c
  |none=>iP b
 |_=>none
theorem iL (w:World) (c:UInt8):Calls Tryz.prog 78 #[.int .u8 c.toNat] w fun e w'=>e= .returned (.bool (eU c))∧w=w':=(yU w c).mono fun _ _ h=>⟨h.1,h.2.symm⟩
theorem kD (w:World) (c:UInt8):Calls Tryz.prog 79 #[.int .u8 c.toNat] w fun e w'=>e= .returned (.bool (bJ c))∧w=w':=(BF w c).mono fun _ _ h=>⟨h.1,h.2.symm⟩
noncomputable def iU:Code:=((Tryz.f28.body.bind iP).getD .skip)
def WI (s:ByteArray) (R:List Tok×Nat×Nat) (w0:World) (a:Act) (w:World):Prop:=
 ∃ov iv u7 u8 u9 u10 u11 u12 u13 u14 u15 u16 u17 u18 u19 u20 u21 u22 u23 u24 u25 u26 u27 u28 u29 u30 u31 u32 u33 u34 u35 u36 u37 u38 u39 u40 u41 u42 u43 u44 u45 u46 u47 u48 u49 u50 u51 u52 u53 u54 u55 u56 u57 u58 u59 u60 u61 u62 u63 u64 u65 u66 u67 u68 u69 u70 u71 u72 u73 u74 u75 u76 u77 u78 u79 u80 u81 u82 u83 u84 u85 u86 u87 u88 u89 u90 u91 u92 u93 u94 u95 u96 u97 u98 u99 u100 u101 u102 u103 u104 u105 u106 u107 u108 u109 u110 u111 u112 u113 u114 u115 u116 u117 u118 u119 u120 u121 u122 u123 u124 u125 u126 u127 u128 u129 u130 u131 u132 u133 u134 u135 u136 u137 u138 u139 u140 u141 u142 u143 u144 u145 u146 u147 u148 u149 u150 u151 u152 u153 u154 u155 u156 u157 u158 u159 u160 u161 u162 u163 u164 u165 u166 u167 u168 u169 u170 u171 u172 u173 u174 u175 u176 u177 u178 u179 u180 u181 u182 u183 u184 u185 u186 u187 u188 u189 u190 u191 u192 u193 u194 u195 u196 u197 u198 u199 u200 u201 u202 u203 u204 u205 u206 u207 u208 u209 u210 u211 u212 u213 u214 u215 u216 u217 u218 u219 u220 u221 u222 u223 u224 u225 u226 u227 u228:Value,(∃(f i:Nat) (out:List Tok),i≤s.size∧iv= .int .i64 i∧jk s R f i out ov w0 w)∧a=⟨#[.string s,undef,.slice none 0 0,.int .i64 0,.int .i64 0,ov,iv,u7,u8,u9,u10,u11,u12,u13,u14,u15,u16,u17,u18,u19,u20,u21,u22,u23,u24,u25,u26,u27,u28,u29,u30,u31,u32,u33,u34,u35,u36,u37,u38,u39,u40,u41,u42,u43,u44,u45,u46,u47,u48,u49,u50,u51,u52,u53,u54,u55,u56,u57,u58,u59,u60,u61,u62,u63,u64,u65,u66,u67,u68,u69,u70,u71,u72,u73,u74,u75,u76,u77,u78,u79,u80,u81,u82,u83,u84,u85,u86,u87,u88,u89,u90,u91,u92,u93,u94,u95,u96,u97,u98,u99,u100,u101,u102,u103,u104,u105,u106,u107,u108,u109,u110,u111,u112,u113,u114,u115,u116,u117,u118,u119,u120,u121,u122,u123,u124,u125,u126,u127,u128,u129,u130,u131,u132,u133,u134,u135,u136,u137,u138,u139,u140,u141,u142,u143,u144,u145,u146,u147,u148,u149,u150,u151,u152,u153,u154,u155,u156,u157,u158,u159,u160,u161,u162,u163,u164,u165,u166,u167,u168,u169,u170,u171,u172,u173,u174,u175,u176,u177,u178,u179,u180,u181,u182,u183,u184,u185,u186,u187,u188,u189,u190,u191,u192,u193,u194,u195,u196,u197,u198,u199,u200,u201,u202,u203,u204,u205,u206,u207,u208,u209,u210,u211,u212,u213,u214,u215,u216,u217,u218,u219,u220,u221,u222,u223,u224,u225,u226,u227,u228],[]⟩
def WE (s:ByteArray) (R:List Tok×Nat×Nat) (w0:World) (a:Act) (w:World):Prop:=
 ∃(at_ e:Nat) (ov iv u7 u8 u9 u10 u11 u12 u13 u14 u15 u16 u17 u18 u19 u20 u21 u22 u23 u24 u25 u26 u27 u28 u29 u30 u31 u32 u33 u34 u35 u36 u37 u38 u39 u40 u41 u42 u43 u44 u45 u46 u47 u48 u49 u50 u51 u52 u53 u54 u55 u56 u57 u58 u59 u60 u61 u62 u63 u64 u65 u66 u67 u68 u69 u70 u71 u72 u73 u74 u75 u76 u77 u78 u79 u80 u81 u82 u83 u84 u85 u86 u87 u88 u89 u90 u91 u92 u93 u94 u95 u96 u97 u98 u99 u100 u101 u102 u103 u104 u105 u106 u107 u108 u109 u110 u111 u112 u113 u114 u115 u116 u117 u118 u119 u120 u121 u122 u123 u124 u125 u126 u127 u128 u129 u130 u131 u132 u133 u134 u135 u136 u137 u138 u139 u140 u141 u142 u143 u144 u145 u146 u147 u148 u149 u150 u151 u152 u153 u154 u155 u156 u157 u158 u159 u160 u161 u162 u163 u164 u165 u166 u167 u168 u169 u170 u171 u172 u173 u174 u175 u176 u177 u178 u179 u180 u181 u182 u183 u184 u185 u186 u187 u188 u189 u190 u191 u192 u193 u194 u195 u196 u197 u198 u199 u200 u201 u202 u203 u204 u205 u206 u207 u208 u209 u210 u211 u212 u213 u214 u215 u216 u217 u218 u219 u220 u221 u222 u223 u224 u225 u226 u227 u228:Value),(R=([],at_,e)∧Below w0.heap.size w0 w)∧a=⟨#[.string s,undef,.slice none 0 0,.int .i64 at_,.int .i64 e,ov,iv,u7,u8,u9,u10,u11,u12,u13,u14,u15,u16,u17,u18,u19,u20,u21,u22,u23,u24,u25,u26,u27,u28,u29,u30,u31,u32,u33,u34,u35,u36,u37,u38,u39,u40,u41,u42,u43,u44,u45,u46,u47,u48,u49,u50,u51,u52,u53,u54,u55,u56,u57,u58,u59,u60,u61,u62,u63,u64,u65,u66,u67,u68,u69,u70,u71,u72,u73,u74,u75,u76,u77,u78,u79,u80,u81,u82,u83,u84,u85,u86,u87,u88,u89,u90,u91,u92,u93,u94,u95,u96,u97,u98,u99,u100,u101,u102,u103,u104,u105,u106,u107,u108,u109,u110,u111,u112,u113,u114,u115,u116,u117,u118,u119,u120,u121,u122,u123,u124,u125,u126,u127,u128,u129,u130,u131,u132,u133,u134,u135,u136,u137,u138,u139,u140,u141,u142,u143,u144,u145,u146,u147,u148,u149,u150,u151,u152,u153,u154,u155,u156,u157,u158,u159,u160,u161,u162,u163,u164,u165,u166,u167,u168,u169,u170,u171,u172,u173,u174,u175,u176,u177,u178,u179,u180,u181,u182,u183,u184,u185,u186,u187,u188,u189,u190,u191,u192,u193,u194,u195,u196,u197,u198,u199,u200,u201,u202,u203,u204,u205,u206,u207,u208,u209,u210,u211,u212,u213,u214,u215,u216,u217,u218,u219,u220,u221,u222,u223,u224,u225,u226,u227,u228],[]⟩
def WX (s:ByteArray) (R:List Tok×Nat×Nat) (w0:World) (a:Act) (w:World):Prop:=
 ∃(out:List Tok) (ov iv u7 u8 u9 u10 u11 u12 u13 u14 u15 u16 u17 u18 u19 u20 u21 u22 u23 u24 u25 u26 u27 u28 u29 u30 u31 u32 u33 u34 u35 u36 u37 u38 u39 u40 u41 u42 u43 u44 u45 u46 u47 u48 u49 u50 u51 u52 u53 u54 u55 u56 u57 u58 u59 u60 u61 u62 u63 u64 u65 u66 u67 u68 u69 u70 u71 u72 u73 u74 u75 u76 u77 u78 u79 u80 u81 u82 u83 u84 u85 u86 u87 u88 u89 u90 u91 u92 u93 u94 u95 u96 u97 u98 u99 u100 u101 u102 u103 u104 u105 u106 u107 u108 u109 u110 u111 u112 u113 u114 u115 u116 u117 u118 u119 u120 u121 u122 u123 u124 u125 u126 u127 u128 u129 u130 u131 u132 u133 u134 u135 u136 u137 u138 u139 u140 u141 u142 u143 u144 u145 u146 u147 u148 u149 u150 u151 u152 u153 u154 u155 u156 u157 u158 u159 u160 u161 u162 u163 u164 u165 u166 u167 u168 u169 u170 u171 u172 u173 u174 u175 u176 u177 u178 u179 u180 u181 u182 u183 u184 u185 u186 u187 u188 u189 u190 u191 u192 u193 u194 u195 u196 u197 u198 u199 u200 u201 u202 u203 u204 u205 u206 u207 u208 u209 u210 u211 u212 u213 u214 u215 u216 u217 u218 u219 u220 u221 u222 u223 u224 u225 u226 u227 u228:Value),(R=(out,0,0)∧w.ownsRow w0.heap.size 123 3 ov out.length (out.flatMap Tok.cells)∧Below w0.heap.size w0 w)∧a=⟨#[.string s,undef,.slice none 0 0,.int .i64 0,.int .i64 0,ov,iv,u7,u8,u9,u10,u11,u12,u13,u14,u15,u16,u17,u18,u19,u20,u21,u22,u23,u24,u25,u26,u27,u28,u29,u30,u31,u32,u33,u34,u35,u36,u37,u38,u39,u40,u41,u42,u43,u44,u45,u46,u47,u48,u49,u50,u51,u52,u53,u54,u55,u56,u57,u58,u59,u60,u61,u62,u63,u64,u65,u66,u67,u68,u69,u70,u71,u72,u73,u74,u75,u76,u77,u78,u79,u80,u81,u82,u83,u84,u85,u86,u87,u88,u89,u90,u91,u92,u93,u94,u95,u96,u97,u98,u99,u100,u101,u102,u103,u104,u105,u106,u107,u108,u109,u110,u111,u112,u113,u114,u115,u116,u117,u118,u119,u120,u121,u122,u123,u124,u125,u126,u127,u128,u129,u130,u131,u132,u133,u134,u135,u136,u137,u138,u139,u140,u141,u142,u143,u144,u145,u146,u147,u148,u149,u150,u151,u152,u153,u154,u155,u156,u157,u158,u159,u160,u161,u162,u163,u164,u165,u166,u167,u168,u169,u170,u171,u172,u173,u174,u175,u176,u177,u178,u179,u180,u181,u182,u183,u184,u185,u186,u187,u188,u189,u190,u191,u192,u193,u194,u195,u196,u197,u198,u199,u200,u201,u202,u203,u204,u205,u206,u207,u208,u209,u210,u211,u212,u213,u214,u215,u216,u217,u218,u219,u220,u221,u222,u223,u224,u225,u226,u227,u228],[]⟩
def Wmu (s:ByteArray) (a:Act) (_w:World):Nat:=s.size-(intOf (a.tmps.getD 6 undef)).toNat
theorem FH (s:ByteArray) (R:List Tok×Nat×Nat) (w0 w:World) (Q0:Exit→Act→World→Prop) (f i:Nat) (out:List Tok) (ov u7 u8 u9 u10 u11 u12 u13 u14 u15 u16 u17 u18 u19 u20 u21 u22 u23 u24 u25 u26 u27 u28 u29 u30 u31 u32 u33 u34 u35 u36 u37 u38 u39 u40 u41 u42 u43 u44 u45 u46 u47 u48 u49 u50 u51 u52 u53 u54 u55 u56 u57 u58 u59 u60 u61 u62 u63 u64 u65 u66 u67 u68 u69 u70 u71 u72 u73 u74 u75 u76 u77 u78 u79 u80 u81 u82 u83 u84 u85 u86 u87 u88 u89 u90 u91 u92 u93 u94 u95 u96 u97 u98 u99 u100 u101 u102 u103 u104 u105 u106 u107 u108 u109 u110 u111 u112 u113 u114 u115 u116 u117 u118 u119 u120 u121 u122 u123 u124 u125 u126 u127 u128 u129 u130 u131 u132 u133 u134 u135 u136 u137 u138 u139 u140 u141 u142 u143 u144 u145 u146 u147 u148 u149 u150 u151 u152 u153 u154 u155 u156 u157 u158 u159 u160 u161 u162 u163 u164 u165 u166 u167 u168 u169 u170 u171 u172 u173 u174 u175 u176 u177 u178 u179 u180 u181 u182 u183 u184 u185 u186 u187 u188 u189 u190 u191 u192 u193 u194 u195 u196 u197 u198 u199 u200 u201 u202 u203 u204 u205 u206 u207 u208 u209 u210 u211 u212 u213 u214 u215 u216 u217 u218 u219 u220 u221 u222 u223 u224 u225 u226 u227 u228:Value) (hs:s.size≤4096) (hL:Hid (jk s R f i out ov w0 w)) (hlt:i<s.size) (hws:wsC s[i]=true):
  Code.wp Tryz.prog iU (Exit.then (fun a2 w2=>WI s R w0 a2 w2∧Wmu s a2 w2<Wmu s ⟨#[.string s,undef,.slice none 0 0,.int .i64 0,.int .i64 0,ov,(.int .i64 i),u7,u8,u9,u10,u11,u12,u13,u14,u15,u16,u17,u18,u19,u20,u21,u22,u23,u24,u25,u26,u27,u28,u29,u30,u31,u32,u33,u34,u35,u36,u37,u38,u39,u40,u41,u42,u43,u44,u45,u46,u47,u48,u49,u50,u51,u52,u53,u54,u55,u56,u57,u58,u59,u60,u61,u62,u63,u64,u65,u66,u67,u68,u69,u70,u71,u72,u73,u74,u75,u76,u77,u78,u79,u80,u81,u82,u83,u84,u85,u86,u87,u88,u89,u90,u91,u92,u93,u94,u95,u96,u97,u98,u99,u100,u101,u102,u103,u104,u105,u106,u107,u108,u109,u110,u111,u112,u113,u114,u115,u116,u117,u118,u119,u120,u121,u122,u123,u124,u125,u126,u127,u128,u129,u130,u131,u132,u133,u134,u135,u136,u137,u138,u139,u140,u141,u142,u143,u144,u145,u146,u147,u148,u149,u150,u151,u152,u153,u154,u155,u156,u157,u158,u159,u160,u161,u162,u163,u164,u165,u166,u167,u168,u169,u170,u171,u172,u173,u174,u175,u176,u177,u178,u179,u180,u181,u182,u183,u184,u185,u186,u187,u188,u189,u190,u191,u192,u193,u194,u195,u196,u197,u198,u199,u200,u201,u202,u203,u204,u205,u206,u207,u208,u209,u210,u211,u212,u213,u214,u215,u216,u217,u218,u219,u220,u221,u222,u223,u224,u225,u226,u227,u228],[]⟩ w) Q0) ⟨#[.string s,undef,.slice none 0 0,.int .i64 0,.int .i64 0,ov,(.int .i64 i),u7,u8,u9,u10,u11,u12,u13,u14,u15,u16,u17,u18,u19,u20,u21,u22,u23,u24,u25,u26,u27,u28,u29,u30,u31,u32,u33,u34,u35,u36,u37,u38,u39,u40,u41,u42,u43,u44,u45,u46,u47,u48,u49,u50,u51,u52,u53,u54,u55,u56,u57,u58,u59,u60,u61,u62,u63,u64,u65,u66,u67,u68,u69,u70,u71,u72,u73,u74,u75,u76,u77,u78,u79,u80,u81,u82,u83,u84,u85,u86,u87,u88,u89,u90,u91,u92,u93,u94,u95,u96,u97,u98,u99,u100,u101,u102,u103,u104,u105,u106,u107,u108,u109,u110,u111,u112,u113,u114,u115,u116,u117,u118,u119,u120,u121,u122,u123,u124,u125,u126,u127,u128,u129,u130,u131,u132,u133,u134,u135,u136,u137,u138,u139,u140,u141,u142,u143,u144,u145,u146,u147,u148,u149,u150,u151,u152,u153,u154,u155,u156,u157,u158,u159,u160,u161,u162,u163,u164,u165,u166,u167,u168,u169,u170,u171,u172,u173,u174,u175,u176,u177,u178,u179,u180,u181,u182,u183,u184,u185,u186,u187,u188,u189,u190,u191,u192,u193,u194,u195,u196,u197,u198,u199,u200,u201,u202,u203,u204,u205,u206,u207,u208,u209,u210,u211,u212,u213,u214,u215,u216,u217,u218,u219,u220,u221,u222,u223,u224,u225,u226,u227,u228],[]⟩ w:=by
 conv=>arg 2;whnf
 obtain⟨f',rfl,hgo⟩:=hL.out.go_ hlt;obtain⟨c,hc⟩:∃c,s[i]=c:=⟨_,rfl⟩;rw[hc]at hgo;have hc3:=c.toNat_lt;have hdr:=drop_cons s i hlt;rw[hc]at hdr;replace hdr:=Za hdr;have hfu:=hL.out.fuel;have hlo:=hL.out.len
 have hiw:IntKind.i64.wrap ((i:Int)+1)=((i+1:Nat):Int):=by rw[IntWalk.i64_in _ (by omega)];omega
 rw[hc]at hws;have hL2:Hid (jk s R f' (i+1) out ov w0 w):=Za ⟨by rw[←hgo];exact(ET hws).symm,by omega,by omega,hL.out.own,hL.out.bel⟩
 have hcs:c.toNat=32∨c.toNat=9∨c.toNat=13∨c.toNat=10:=by unfold wsC at hws;simpa[or_assoc]using hws
 replace hgo:=Za hgo;clear hws;obtain⟨cn,hcn⟩:∃n,c.toNat=n:=⟨_,rfl⟩;rw[hcn]at hcs hc3;rcases hcs with rfl|rfl|rfl|rfl
 all_goals
  go_wp2_with fail;refine⟨?_,by simp[Wmu,intOf];omega⟩;unfold WI;refine⟨_,_,_,_,_,_,_,_,_,_,_,_,_,_,_,_,_,_,_,_,_,_,_,_,_,_,_,_,_,_,_,_,_,_,_,_,_,_,_,_,_,_,_,_,_,_,_,_,_,_,_,_,_,_,_,_,_,_,_,_,_,_,_,_,_,_,_,_,_,_,_,_,_,_,_,_,_,_,_,_,_,_,_,_,_,_,_,_,_,_,_,_,_,_,_,_,_,_,_,_,_,_,_,_,_,_,_,_,_,_,_,_,_,_,_,_,_,_,_,_,_,_,_,_,_,_,_,_,_,_,_,_,_,_,_,_,_,_,_,_,_,_,_,_,_,_,_,_,_,_,_,_,_,_,_,_,_,_,_,_,_,_,_,_,_,_,_,_,_,_,_,_,_,_,_,_,_,_,_,_,_,_,_,_,_,_,_,_,_,_,_,_,_,_,_,_,_,_,_,_,_,_,_,_,_,_,_,_,_,_,_,_,_,_,_,_,_,_,_,_,_,_,_,_,?_,rfl⟩;exact⟨f',i+1,out,by omega,by simp,hL2.out⟩
theorem CB (s:ByteArray) (R:List Tok×Nat×Nat) (w0 w:World) (Q0:Exit→Act→World→Prop) (f i:Nat) (out:List Tok) (ov u7 u8 u9 u10 u11 u12 u13 u14 u15 u16 u17 u18 u19 u20 u21 u22 u23 u24 u25 u26 u27 u28 u29 u30 u31 u32 u33 u34 u35 u36 u37 u38 u39 u40 u41 u42 u43 u44 u45 u46 u47 u48 u49 u50 u51 u52 u53 u54 u55 u56 u57 u58 u59 u60 u61 u62 u63 u64 u65 u66 u67 u68 u69 u70 u71 u72 u73 u74 u75 u76 u77 u78 u79 u80 u81 u82 u83 u84 u85 u86 u87 u88 u89 u90 u91 u92 u93 u94 u95 u96 u97 u98 u99 u100 u101 u102 u103 u104 u105 u106 u107 u108 u109 u110 u111 u112 u113 u114 u115 u116 u117 u118 u119 u120 u121 u122 u123 u124 u125 u126 u127 u128 u129 u130 u131 u132 u133 u134 u135 u136 u137 u138 u139 u140 u141 u142 u143 u144 u145 u146 u147 u148 u149 u150 u151 u152 u153 u154 u155 u156 u157 u158 u159 u160 u161 u162 u163 u164 u165 u166 u167 u168 u169 u170 u171 u172 u173 u174 u175 u176 u177 u178 u179 u180 u181 u182 u183 u184 u185 u186 u187 u188 u189 u190 u191 u192 u193 u194 u195 u196 u197 u198 u199 u200 u201 u202 u203 u204 u205 u206 u207 u208 u209 u210 u211 u212 u213 u214 u215 u216 u217 u218 u219 u220 u221 u222 u223 u224 u225 u226 u227 u228:Value) (hs:s.size≤4096) (hL:Hid (jk s R f i out ov w0 w)) (hlt:i<s.size) (hws:wsC s[i]=false) (h35:s[i].toNat=35):
  Code.wp Tryz.prog iU (Exit.then (fun a2 w2=>WI s R w0 a2 w2∧Wmu s a2 w2<Wmu s ⟨#[.string s,undef,.slice none 0 0,.int .i64 0,.int .i64 0,ov,(.int .i64 i),u7,u8,u9,u10,u11,u12,u13,u14,u15,u16,u17,u18,u19,u20,u21,u22,u23,u24,u25,u26,u27,u28,u29,u30,u31,u32,u33,u34,u35,u36,u37,u38,u39,u40,u41,u42,u43,u44,u45,u46,u47,u48,u49,u50,u51,u52,u53,u54,u55,u56,u57,u58,u59,u60,u61,u62,u63,u64,u65,u66,u67,u68,u69,u70,u71,u72,u73,u74,u75,u76,u77,u78,u79,u80,u81,u82,u83,u84,u85,u86,u87,u88,u89,u90,u91,u92,u93,u94,u95,u96,u97,u98,u99,u100,u101,u102,u103,u104,u105,u106,u107,u108,u109,u110,u111,u112,u113,u114,u115,u116,u117,u118,u119,u120,u121,u122,u123,u124,u125,u126,u127,u128,u129,u130,u131,u132,u133,u134,u135,u136,u137,u138,u139,u140,u141,u142,u143,u144,u145,u146,u147,u148,u149,u150,u151,u152,u153,u154,u155,u156,u157,u158,u159,u160,u161,u162,u163,u164,u165,u166,u167,u168,u169,u170,u171,u172,u173,u174,u175,u176,u177,u178,u179,u180,u181,u182,u183,u184,u185,u186,u187,u188,u189,u190,u191,u192,u193,u194,u195,u196,u197,u198,u199,u200,u201,u202,u203,u204,u205,u206,u207,u208,u209,u210,u211,u212,u213,u214,u215,u216,u217,u218,u219,u220,u221,u222,u223,u224,u225,u226,u227,u228],[]⟩ w) Q0) ⟨#[.string s,undef,.slice none 0 0,.int .i64 0,.int .i64 0,ov,(.int .i64 i),u7,u8,u9,u10,u11,u12,u13,u14,u15,u16,u17,u18,u19,u20,u21,u22,u23,u24,u25,u26,u27,u28,u29,u30,u31,u32,u33,u34,u35,u36,u37,u38,u39,u40,u41,u42,u43,u44,u45,u46,u47,u48,u49,u50,u51,u52,u53,u54,u55,u56,u57,u58,u59,u60,u61,u62,u63,u64,u65,u66,u67,u68,u69,u70,u71,u72,u73,u74,u75,u76,u77,u78,u79,u80,u81,u82,u83,u84,u85,u86,u87,u88,u89,u90,u91,u92,u93,u94,u95,u96,u97,u98,u99,u100,u101,u102,u103,u104,u105,u106,u107,u108,u109,u110,u111,u112,u113,u114,u115,u116,u117,u118,u119,u120,u121,u122,u123,u124,u125,u126,u127,u128,u129,u130,u131,u132,u133,u134,u135,u136,u137,u138,u139,u140,u141,u142,u143,u144,u145,u146,u147,u148,u149,u150,u151,u152,u153,u154,u155,u156,u157,u158,u159,u160,u161,u162,u163,u164,u165,u166,u167,u168,u169,u170,u171,u172,u173,u174,u175,u176,u177,u178,u179,u180,u181,u182,u183,u184,u185,u186,u187,u188,u189,u190,u191,u192,u193,u194,u195,u196,u197,u198,u199,u200,u201,u202,u203,u204,u205,u206,u207,u208,u209,u210,u211,u212,u213,u214,u215,u216,u217,u218,u219,u220,u221,u222,u223,u224,u225,u226,u227,u228],[]⟩ w:=by
 conv=>arg 2;whnf
 obtain⟨f',rfl,hgo⟩:=hL.out.go_ hlt;obtain⟨c,hc⟩:∃c,s[i]=c:=⟨_,rfl⟩;rw[hc]at hgo;have hc3:=c.toNat_lt;have hdr:=drop_cons s i hlt;rw[hc]at hdr;replace hdr:=Za hdr;have hfu:=hL.out.fuel;have hlo:=hL.out.len
 have hiw:IntKind.i64.wrap ((i:Int)+1)=((i+1:Nat):Int):=by rw[IntWalk.i64_in _ (by omega)];omega
 rw[hc]at hws
 have h32:((c.toNat:Int)==32)=false:=by unfold wsC at hws;simp at hws;simp;omega
 have h9:((c.toNat:Int)==9)=false:=by unfold wsC at hws;simp at hws;simp;omega
 have h13:((c.toNat:Int)==13)=false:=by unfold wsC at hws;simp at hws;simp;omega
 have h10:((c.toNat:Int)==10)=false:=by unfold wsC at hws;simp at hws;simp;omega
 rw[hc]at h35;have hi:i≤s.size:=Nat.le_of_lt hlt
 have hq:((c.toNat:Int)==35)=true:=by simp;omega
 have hne:c.toNat≠10:=by omega
 have hgo2:=Za ((Bd hws h35).symm.trans hgo);replace hws:=Za hws;clear hgo h35;go_wp2_with fail
 go_loop [6] (fun iv=>∃j:Nat,i≤j∧j≤s.size∧iv= .int .i64 j∧Hid (aU (fun x=>x.toNat !=10) (s.data.toList.drop i)=(j-i)+aU (fun x=>x.toNat !=10) (s.data.toList.drop j))) (fun iv=>s.size-(intOf iv).toNat)
 case atStart=>exact⟨i,Nat.le_refl _,hi,rfl,Za (by omega)⟩
 case round=>
  obtain⟨j,hij,hj,rfl,hsp⟩:=hrel
  have hend:aU (fun x=>x.toNat !=10) (s.data.toList.drop j)=0→i<j∧Hid (jk s R f' j out ov w0 w):=fun h0=>by
   have hk:aU (fun x=>x.toNat !=10) (s.data.toList.drop i)=j-i:=by have:=hsp.out;omega
   have h1:1≤aU (fun x=>x.toNat !=10) (s.data.toList.drop i):=by rw[hdr.out,bP (by simpa using hne)];omega
   refine⟨by omega,Za ⟨?_,by omega,by omega,hL.out.own,hL.out.bel⟩⟩;rw[←hgo2.out,←hdr.out,hk,List.drop_drop,show i+(j-i)=j by omega]
  have hjw:IntKind.i64.wrap ((j:Int)+1)=((j+1:Nat):Int):=by rw[IntWalk.i64_in _ (by omega)];omega
  by_cases hjl:j<s.size
  ·have hdj:=drop_cons s j hjl;obtain⟨d,hd⟩:∃d,s[j]=d:=⟨_,rfl⟩;rw[hd]at hdj;have hd3:=d.toNat_lt;by_cases hdn:d.toNat=10
   ·have hq2:((d.toNat:Int) !=10)=false:=by simp;omega
    obtain⟨hij2,hL2⟩:=hend (by rw[hdj,kT (by simp[hdn])]);clear hdj hsp hend hdn;go_wp2_with fail;refine⟨?_,by simp[Wmu,intOf];omega⟩;unfold WI;refine⟨_,_,_,_,_,_,_,_,_,_,_,_,_,_,_,_,_,_,_,_,_,_,_,_,_,_,_,_,_,_,_,_,_,_,_,_,_,_,_,_,_,_,_,_,_,_,_,_,_,_,_,_,_,_,_,_,_,_,_,_,_,_,_,_,_,_,_,_,_,_,_,_,_,_,_,_,_,_,_,_,_,_,_,_,_,_,_,_,_,_,_,_,_,_,_,_,_,_,_,_,_,_,_,_,_,_,_,_,_,_,_,_,_,_,_,_,_,_,_,_,_,_,_,_,_,_,_,_,_,_,_,_,_,_,_,_,_,_,_,_,_,_,_,_,_,_,_,_,_,_,_,_,_,_,_,_,_,_,_,_,_,_,_,_,_,_,_,_,_,_,_,_,_,_,_,_,_,_,_,_,_,_,_,_,_,_,_,_,_,_,_,_,_,_,_,_,_,_,_,_,_,_,_,_,_,_,_,_,_,_,_,_,_,_,_,_,_,_,_,_,_,_,_,_,?_,rfl⟩;exact⟨f',j,out,hj,rfl,hL2.out⟩
   ·have hq2:((d.toNat:Int) !=10)=true:=by simp;omega
    have hsp2:Hid (aU (fun x=>x.toNat !=10) (s.data.toList.drop i)=(j+1-i)+aU (fun x=>x.toNat !=10) (s.data.toList.drop (j+1))):=Za (by rw[hsp.out,hdj,bP (by simpa using hdn)];omega);clear hdj hsp hend hdn;go_wp2_with fail;go_round
    case rel=>exact⟨j+1,by omega,by omega,by go_num,hsp2⟩
    case measure=>simp[intOf];omega
  ·obtain⟨hij2,hL2⟩:=hend (by rw[List.drop_of_length_le (by simp;omega)];rfl);clear hsp hend;go_wp2_with fail;refine⟨?_,by simp[Wmu,intOf];omega⟩;unfold WI;refine⟨_,_,_,_,_,_,_,_,_,_,_,_,_,_,_,_,_,_,_,_,_,_,_,_,_,_,_,_,_,_,_,_,_,_,_,_,_,_,_,_,_,_,_,_,_,_,_,_,_,_,_,_,_,_,_,_,_,_,_,_,_,_,_,_,_,_,_,_,_,_,_,_,_,_,_,_,_,_,_,_,_,_,_,_,_,_,_,_,_,_,_,_,_,_,_,_,_,_,_,_,_,_,_,_,_,_,_,_,_,_,_,_,_,_,_,_,_,_,_,_,_,_,_,_,_,_,_,_,_,_,_,_,_,_,_,_,_,_,_,_,_,_,_,_,_,_,_,_,_,_,_,_,_,_,_,_,_,_,_,_,_,_,_,_,_,_,_,_,_,_,_,_,_,_,_,_,_,_,_,_,_,_,_,_,_,_,_,_,_,_,_,_,_,_,_,_,_,_,_,_,_,_,_,_,_,_,_,_,_,_,_,_,_,_,_,_,_,_,_,_,_,_,_,_,?_,rfl⟩;exact⟨f',j,out,hj,rfl,hL2.out⟩
theorem CG (s:ByteArray) (R:List Tok×Nat×Nat) (w0 w:World) (Q0:Exit→Act→World→Prop) (f i:Nat) (out:List Tok) (ov u7 u8 u9 u10 u11 u12 u13 u14 u15 u16 u17 u18 u19 u20 u21 u22 u23 u24 u25 u26 u27 u28 u29 u30 u31 u32 u33 u34 u35 u36 u37 u38 u39 u40 u41 u42 u43 u44 u45 u46 u47 u48 u49 u50 u51 u52 u53 u54 u55 u56 u57 u58 u59 u60 u61 u62 u63 u64 u65 u66 u67 u68 u69 u70 u71 u72 u73 u74 u75 u76 u77 u78 u79 u80 u81 u82 u83 u84 u85 u86 u87 u88 u89 u90 u91 u92 u93 u94 u95 u96 u97 u98 u99 u100 u101 u102 u103 u104 u105 u106 u107 u108 u109 u110 u111 u112 u113 u114 u115 u116 u117 u118 u119 u120 u121 u122 u123 u124 u125 u126 u127 u128 u129 u130 u131 u132 u133 u134 u135 u136 u137 u138 u139 u140 u141 u142 u143 u144 u145 u146 u147 u148 u149 u150 u151 u152 u153 u154 u155 u156 u157 u158 u159 u160 u161 u162 u163 u164 u165 u166 u167 u168 u169 u170 u171 u172 u173 u174 u175 u176 u177 u178 u179 u180 u181 u182 u183 u184 u185 u186 u187 u188 u189 u190 u191 u192 u193 u194 u195 u196 u197 u198 u199 u200 u201 u202 u203 u204 u205 u206 u207 u208 u209 u210 u211 u212 u213 u214 u215 u216 u217 u218 u219 u220 u221 u222 u223 u224 u225 u226 u227 u228:Value) (hs:s.size≤4096) (hL:Hid (jk s R f i out ov w0 w)) (hlt:i<s.size) (hws:wsC s[i]=false) (h35:s[i].toNat≠35) (hl:eU s[i]=true) (hret:∀a2 w2,WE s R w0 a2 w2→Q0 .ret a2 w2):
  Code.wp Tryz.prog iU (Exit.then (fun a2 w2=>WI s R w0 a2 w2∧Wmu s a2 w2<Wmu s ⟨#[.string s,undef,.slice none 0 0,.int .i64 0,.int .i64 0,ov,(.int .i64 i),u7,u8,u9,u10,u11,u12,u13,u14,u15,u16,u17,u18,u19,u20,u21,u22,u23,u24,u25,u26,u27,u28,u29,u30,u31,u32,u33,u34,u35,u36,u37,u38,u39,u40,u41,u42,u43,u44,u45,u46,u47,u48,u49,u50,u51,u52,u53,u54,u55,u56,u57,u58,u59,u60,u61,u62,u63,u64,u65,u66,u67,u68,u69,u70,u71,u72,u73,u74,u75,u76,u77,u78,u79,u80,u81,u82,u83,u84,u85,u86,u87,u88,u89,u90,u91,u92,u93,u94,u95,u96,u97,u98,u99,u100,u101,u102,u103,u104,u105,u106,u107,u108,u109,u110,u111,u112,u113,u114,u115,u116,u117,u118,u119,u120,u121,u122,u123,u124,u125,u126,u127,u128,u129,u130,u131,u132,u133,u134,u135,u136,u137,u138,u139,u140,u141,u142,u143,u144,u145,u146,u147,u148,u149,u150,u151,u152,u153,u154,u155,u156,u157,u158,u159,u160,u161,u162,u163,u164,u165,u166,u167,u168,u169,u170,u171,u172,u173,u174,u175,u176,u177,u178,u179,u180,u181,u182,u183,u184,u185,u186,u187,u188,u189,u190,u191,u192,u193,u194,u195,u196,u197,u198,u199,u200,u201,u202,u203,u204,u205,u206,u207,u208,u209,u210,u211,u212,u213,u214,u215,u216,u217,u218,u219,u220,u221,u222,u223,u224,u225,u226,u227,u228],[]⟩ w) Q0) ⟨#[.string s,undef,.slice none 0 0,.int .i64 0,.int .i64 0,ov,(.int .i64 i),u7,u8,u9,u10,u11,u12,u13,u14,u15,u16,u17,u18,u19,u20,u21,u22,u23,u24,u25,u26,u27,u28,u29,u30,u31,u32,u33,u34,u35,u36,u37,u38,u39,u40,u41,u42,u43,u44,u45,u46,u47,u48,u49,u50,u51,u52,u53,u54,u55,u56,u57,u58,u59,u60,u61,u62,u63,u64,u65,u66,u67,u68,u69,u70,u71,u72,u73,u74,u75,u76,u77,u78,u79,u80,u81,u82,u83,u84,u85,u86,u87,u88,u89,u90,u91,u92,u93,u94,u95,u96,u97,u98,u99,u100,u101,u102,u103,u104,u105,u106,u107,u108,u109,u110,u111,u112,u113,u114,u115,u116,u117,u118,u119,u120,u121,u122,u123,u124,u125,u126,u127,u128,u129,u130,u131,u132,u133,u134,u135,u136,u137,u138,u139,u140,u141,u142,u143,u144,u145,u146,u147,u148,u149,u150,u151,u152,u153,u154,u155,u156,u157,u158,u159,u160,u161,u162,u163,u164,u165,u166,u167,u168,u169,u170,u171,u172,u173,u174,u175,u176,u177,u178,u179,u180,u181,u182,u183,u184,u185,u186,u187,u188,u189,u190,u191,u192,u193,u194,u195,u196,u197,u198,u199,u200,u201,u202,u203,u204,u205,u206,u207,u208,u209,u210,u211,u212,u213,u214,u215,u216,u217,u218,u219,u220,u221,u222,u223,u224,u225,u226,u227,u228],[]⟩ w:=by
 conv=>arg 2;whnf
 obtain⟨f',rfl,hgo⟩:=hL.out.go_ hlt;obtain⟨c,hc⟩:∃c,s[i]=c:=⟨_,rfl⟩;rw[hc]at hgo;have hc3:=c.toNat_lt;have hdr:=drop_cons s i hlt;rw[hc]at hdr;replace hdr:=Za hdr;have hfu:=hL.out.fuel;have hlo:=hL.out.len
 have hiw:IntKind.i64.wrap ((i:Int)+1)=((i+1:Nat):Int):=by rw[IntWalk.i64_in _ (by omega)];omega
 rw[hc]at hws
 have h32:((c.toNat:Int)==32)=false:=by unfold wsC at hws;simp at hws;simp;omega
 have h9:((c.toNat:Int)==9)=false:=by unfold wsC at hws;simp at hws;simp;omega
 have h13:((c.toNat:Int)==13)=false:=by unfold wsC at hws;simp at hws;simp;omega
 have h10:((c.toNat:Int)==10)=false:=by unfold wsC at hws;simp at hws;simp;omega
 rw[hc]at h35 hl
 have hq:((c.toNat:Int)==35)=false:=by simp;omega
 have hgo2:=Za ((Bf hws h35 hl).symm.trans hgo);have hi:i≤s.size:=Nat.le_of_lt hlt;have hcl:=iL w c;rw[hl]at hcl;replace hcl:=Za hcl;replace hws:=Za hws;replace hl:=Za hl;clear hgo h35;go_wp2_with fail;refine hcl.out.mono ?_;rintro e w' ⟨rfl,rfl⟩;go_wp2_with fail
 go_loop [6] (fun iv=>∃j:Nat,i≤j∧j≤s.size∧iv= .int .i64 j∧Hid (aU (fun x=>eU x||bJ x) (s.data.toList.drop i)=(j-i)+aU (fun x=>eU x||bJ x) (s.data.toList.drop j))) (fun iv=>s.size-(intOf iv).toNat)
 case atStart=>exact⟨i,Nat.le_refl _,hi,rfl,Za (by omega)⟩
 case round=>
  obtain⟨j,hij,hj,rfl,hsp⟩:=hrel
  have hjw:IntKind.i64.wrap ((j:Int)+1)=((j+1:Nat):Int):=by rw[IntWalk.i64_in _ (by omega)];omega
  by_cases hjl:j<s.size
  ·have hdj:=drop_cons s j hjl;obtain⟨d,hd⟩:∃d,s[j]=d:=⟨_,rfl⟩;rw[hd]at hdj;have hd3:=d.toNat_lt;have hld:=iL w d;have hdd:=kD w d
   cases hdl:eU d with
   |true=>
    have hsp2:Hid (aU (fun x=>eU x||bJ x) (s.data.toList.drop i)=(j+1-i)+aU (fun x=>eU x||bJ x) (s.data.toList.drop (j+1))):=Za (by rw[hsp.out,hdj,bP (by simp[hdl])];omega);rw[hdl]at hld;replace hld:=Za hld;clear hdj hsp hdl hdd;go_wp2_with fail;refine hld.out.mono ?_;rintro e w' ⟨rfl,rfl⟩;go_wp2_with fail;go_round
    case rel=>exact⟨j+1,by omega,by omega,by go_num,hsp2⟩
    case measure=>simp[intOf];omega
   |false=>
    cases hdg:bJ d with
    |true=>
     have hsp2:Hid (aU (fun x=>eU x||bJ x) (s.data.toList.drop i)=(j+1-i)+aU (fun x=>eU x||bJ x) (s.data.toList.drop (j+1))):=Za (by rw[hsp.out,hdj,bP (by simp[hdg])];omega);rw[hdl]at hld;rw[hdg]at hdd;replace hld:=Za hld;replace hdd:=Za hdd;clear hdj hsp hdl hdg;go_wp2_with fail;refine hld.out.mono ?_;rintro e w' ⟨rfl,rfl⟩;go_wp2_with fail;refine hdd.out.mono ?_;rintro e w' ⟨rfl,rfl⟩;go_wp2_with fail;go_round
     case rel=>exact⟨j+1,by omega,by omega,by go_num,hsp2⟩
     case measure=>simp[intOf];omega
    |false=>
     have hz:aU (fun x=>eU x||bJ x) (s.data.toList.drop j)=0:=by rw[hdj,kT (by simp[hdl,hdg])]
     rw[hdl]at hld;rw[hdg]at hdd;replace hld:=Za hld;replace hdd:=Za hdd;clear hdj hdl hdg;go_upto_region 21 with(fail);go_wp2_with fail;refine hld.out.mono ?_;rintro e w' ⟨rfl,rfl⟩;go_wp2_with fail;refine hdd.out.mono ?_;rintro e w' ⟨rfl,rfl⟩;have hk:Hid (aU (fun x=>eU x||bJ x) (s.data.toList.drop i)=j-i):=Za (by have:=hsp.out;omega);have h1:Hid (1≤aU (fun x=>eU x||bJ x) (s.data.toList.drop i)):=Za (by rw[hdr.out,bP (by simp[hl.out])];omega)
     have hij2:i<j:=by have:=h1.out;rw[hk.out]at this;omega
     have hsub:IntKind.i64.wrap ((j:Int)-(i:Int))=(j:Int)-(i:Int):=IntWalk.i64_in _ (by omega);have hgo3:=hgo2.out;rw[←hdr.out,hk.out,List.drop_drop,show i+(j-i)=j by omega]at hgo3;clear hz hsp;by_cases h33:32<j-i
     ·have h33':(32:Int)<(j:Int)-(i:Int):=by omega
      rw[if_pos h33]at hgo3;replace hgo3:=Za hgo3;go_wp2_with fail;unfold WE;refine⟨_,_,_,_,_,_,_,_,_,_,_,_,_,_,_,_,_,_,_,_,_,_,_,_,_,_,_,_,_,_,_,_,_,_,_,_,_,_,_,_,_,_,_,_,_,_,_,_,_,_,_,_,_,_,_,_,_,_,_,_,_,_,_,_,_,_,_,_,_,_,_,_,_,_,_,_,_,_,_,_,_,_,_,_,_,_,_,_,_,_,_,_,_,_,_,_,_,_,_,_,_,_,_,_,_,_,_,_,_,_,_,_,_,_,_,_,_,_,_,_,_,_,_,_,_,_,_,_,_,_,_,_,_,_,_,_,_,_,_,_,_,_,_,_,_,_,_,_,_,_,_,_,_,_,_,_,_,_,_,_,_,_,_,_,_,_,_,_,_,_,_,_,_,_,_,_,_,_,_,_,_,_,_,_,_,_,_,_,_,_,_,_,_,_,_,_,_,_,_,_,_,_,_,_,_,_,_,_,_,_,_,_,_,_,_,_,_,_,_,_,_,_,_,_,_,_,?_,rfl⟩;exact⟨hgo3.out.symm,hL.out.bel⟩
     ·have h33':¬(32:Int)<(j:Int)-(i:Int):=by omega
      rw[if_neg h33]at hgo3;have hfin:=Za hgo3;have hext:Hid (s.extract i j=ay ((s.data.toList.drop i).take (j-i))):=Za (dw s i j)
      have c1:(i:Int)≤(j:Int):=by omega
      have c2:(j:Int)≤(s.size:Int):=by omega
      clear hgo3;have hbn:=aA w (.cells #[.int .i64 0,.string (s.extract i j),.int .i64 i] 123);have hO3:=Za (own_below hL.out.own hbn)
      have hnews:Hid (∀(q:Nat) u,([.int .i64 0,.string (s.extract i j),.int .i64 i]:List Value)[q]? =some u→(w.alloc (.cells #[.int .i64 0,.string (s.extract i j),.int .i64 i] 123)).cell? ((⟨w.heap.size,0,none⟩:Addr).add q)=some u):=Za (fun q u hu=>by
       have hh:=Holds.new w 123 #[.int .i64 0,.string (s.extract i j),.int .i64 i]
       have hadd:(⟨w.heap.size,0,none⟩:Addr).add q=⟨w.heap.size,q,none⟩:=by unfold Addr.add;split<;>simp_all
       rw[hadd,hh.cell]
       simpa using hu)
      have hone:Hid (∀u∈([.int .i64 0,.string (s.extract i j),.int .i64 i]:List Value),u.oneCell'=true):=Za (by simp;exact⟨rfl,rfl,rfl⟩);have hsz2:Hid (w0.heap.size≤(w.alloc (.cells #[.int .i64 0,.string (s.extract i j),.int .i64 i] 123)).heap.size):=Za (Nat.le_trans hL.out.bel.size hbn.size);have hB3:=Za (hL.out.bel.trans (hbn.mono hL.out.bel.size));clear hbn;obtain⟨iA,hiA,hzA0,hzA1,hzA2⟩:=info_parts Tryz.infoTok;go_wp2_with
       (at_builtin
        go_loud (refine wpList_append_own_at _ rfl (.tmp 158) (.tmp 165) 65 rfl w0.heap.size 123 iA _ 3 32 rfl hiA hzA0 hzA1 hzA2 rfl (by omega) ov out.length (out.flatMap Tok.cells) rfl hO3.out ⟨w.heap.size,0,none⟩ 1 1 [.int .i64 0,.string (s.extract i j),.int .i64 i] rfl rfl hnews.out hone.out (by unfold maxLen;omega) (by omega) hsz2.out ?_)
        go_loud (
         intro v5 w5 ho5 hg5 _ hv5;have hO7:Hid (w5.ownsRow w0.heap.size 123 3 v5 (out.length+1) (out.flatMap Tok.cells++ [.int .i64 0,.string (s.extract i j),.int .i64 i])):=Za ho5;have hB7:Hid (Below w0.heap.size w0 w5):=Za (hB3.out.trans ((Writes.bG hg5 (M:= [ov.ownBlock]) (by simp)).below hB3.out.size (fun q hq=>bD hO3.out (List.mem_singleton.1 hq).symm)))
         clear ho5 hg5 hv5))
      have hL2:jk s R f' (j) (out++ [⟨0,(s.data.toList.drop i).take (j-i),i⟩]) v5 w0 w5:=⟨hfin.out,by omega,by rw[List.length_append,List.length_singleton];omega,by
       rw[List.length_append,List.flatMap_append];have hx:=hO7.out;rw[hext.out]at hx
       exact hx,hB7.out⟩
      refine⟨?_,by simp[Wmu,intOf];omega⟩;unfold WI;refine⟨_,_,_,_,_,_,_,_,_,_,_,_,_,_,_,_,_,_,_,_,_,_,_,_,_,_,_,_,_,_,_,_,_,_,_,_,_,_,_,_,_,_,_,_,_,_,_,_,_,_,_,_,_,_,_,_,_,_,_,_,_,_,_,_,_,_,_,_,_,_,_,_,_,_,_,_,_,_,_,_,_,_,_,_,_,_,_,_,_,_,_,_,_,_,_,_,_,_,_,_,_,_,_,_,_,_,_,_,_,_,_,_,_,_,_,_,_,_,_,_,_,_,_,_,_,_,_,_,_,_,_,_,_,_,_,_,_,_,_,_,_,_,_,_,_,_,_,_,_,_,_,_,_,_,_,_,_,_,_,_,_,_,_,_,_,_,_,_,_,_,_,_,_,_,_,_,_,_,_,_,_,_,_,_,_,_,_,_,_,_,_,_,_,_,_,_,_,_,_,_,_,_,_,_,_,_,_,_,_,_,_,_,_,_,_,_,_,_,_,_,_,_,_,_,?_,rfl⟩;exact⟨f',j,_,hj,rfl,hL2⟩
  ·have hz:aU (fun x=>eU x||bJ x) (s.data.toList.drop j)=0:=by rw[List.drop_of_length_le (by simp;omega)];rfl
   have hk:Hid (aU (fun x=>eU x||bJ x) (s.data.toList.drop i)=j-i):=Za (by have:=hsp.out;omega);have h1:Hid (1≤aU (fun x=>eU x||bJ x) (s.data.toList.drop i)):=Za (by rw[hdr.out,bP (by simp[hl.out])];omega)
   have hij2:i<j:=by have:=h1.out;rw[hk.out]at this;omega
   have hsub:IntKind.i64.wrap ((j:Int)-(i:Int))=(j:Int)-(i:Int):=IntWalk.i64_in _ (by omega);have hgo3:=hgo2.out;rw[←hdr.out,hk.out,List.drop_drop,show i+(j-i)=j by omega]at hgo3;clear hz hsp;by_cases h33:32<j-i
   ·have h33':(32:Int)<(j:Int)-(i:Int):=by omega
    rw[if_pos h33]at hgo3;replace hgo3:=Za hgo3;go_wp2_with fail;unfold WE;refine⟨_,_,_,_,_,_,_,_,_,_,_,_,_,_,_,_,_,_,_,_,_,_,_,_,_,_,_,_,_,_,_,_,_,_,_,_,_,_,_,_,_,_,_,_,_,_,_,_,_,_,_,_,_,_,_,_,_,_,_,_,_,_,_,_,_,_,_,_,_,_,_,_,_,_,_,_,_,_,_,_,_,_,_,_,_,_,_,_,_,_,_,_,_,_,_,_,_,_,_,_,_,_,_,_,_,_,_,_,_,_,_,_,_,_,_,_,_,_,_,_,_,_,_,_,_,_,_,_,_,_,_,_,_,_,_,_,_,_,_,_,_,_,_,_,_,_,_,_,_,_,_,_,_,_,_,_,_,_,_,_,_,_,_,_,_,_,_,_,_,_,_,_,_,_,_,_,_,_,_,_,_,_,_,_,_,_,_,_,_,_,_,_,_,_,_,_,_,_,_,_,_,_,_,_,_,_,_,_,_,_,_,_,_,_,_,_,_,_,_,_,_,_,_,_,_,_,?_,rfl⟩;exact⟨hgo3.out.symm,hL.out.bel⟩
   ·have h33':¬(32:Int)<(j:Int)-(i:Int):=by omega
    rw[if_neg h33]at hgo3;have hfin:=Za hgo3;have hext:Hid (s.extract i j=ay ((s.data.toList.drop i).take (j-i))):=Za (dw s i j)
    have c1:(i:Int)≤(j:Int):=by omega
    have c2:(j:Int)≤(s.size:Int):=by omega
    clear hgo3;have hbn:=aA w (.cells #[.int .i64 0,.string (s.extract i j),.int .i64 i] 123);have hO3:=Za (own_below hL.out.own hbn)
    have hnews:Hid (∀(q:Nat) u,([.int .i64 0,.string (s.extract i j),.int .i64 i]:List Value)[q]? =some u→(w.alloc (.cells #[.int .i64 0,.string (s.extract i j),.int .i64 i] 123)).cell? ((⟨w.heap.size,0,none⟩:Addr).add q)=some u):=Za (fun q u hu=>by
     have hh:=Holds.new w 123 #[.int .i64 0,.string (s.extract i j),.int .i64 i]
     have hadd:(⟨w.heap.size,0,none⟩:Addr).add q=⟨w.heap.size,q,none⟩:=by unfold Addr.add;split<;>simp_all
     rw[hadd,hh.cell]
     simpa using hu)
    have hone:Hid (∀u∈([.int .i64 0,.string (s.extract i j),.int .i64 i]:List Value),u.oneCell'=true):=Za (by simp;exact⟨rfl,rfl,rfl⟩);have hsz2:Hid (w0.heap.size≤(w.alloc (.cells #[.int .i64 0,.string (s.extract i j),.int .i64 i] 123)).heap.size):=Za (Nat.le_trans hL.out.bel.size hbn.size);have hB3:=Za (hL.out.bel.trans (hbn.mono hL.out.bel.size));clear hbn;obtain⟨iA,hiA,hzA0,hzA1,hzA2⟩:=info_parts Tryz.infoTok;go_wp2_with
     (at_builtin
      go_loud (refine wpList_append_own_at _ rfl (.tmp 158) (.tmp 165) 65 rfl w0.heap.size 123 iA _ 3 32 rfl hiA hzA0 hzA1 hzA2 rfl (by omega) ov out.length (out.flatMap Tok.cells) rfl hO3.out ⟨w.heap.size,0,none⟩ 1 1 [.int .i64 0,.string (s.extract i j),.int .i64 i] rfl rfl hnews.out hone.out (by unfold maxLen;omega) (by omega) hsz2.out ?_)
      go_loud (
       intro v5 w5 ho5 hg5 _ hv5;have hO7:Hid (w5.ownsRow w0.heap.size 123 3 v5 (out.length+1) (out.flatMap Tok.cells++ [.int .i64 0,.string (s.extract i j),.int .i64 i])):=Za ho5;have hB7:Hid (Below w0.heap.size w0 w5):=Za (hB3.out.trans ((Writes.bG hg5 (M:= [ov.ownBlock]) (by simp)).below hB3.out.size (fun q hq=>bD hO3.out (List.mem_singleton.1 hq).symm)))
       clear ho5 hg5 hv5))
    have hL2:jk s R f' (j) (out++ [⟨0,(s.data.toList.drop i).take (j-i),i⟩]) v5 w0 w5:=⟨hfin.out,by omega,by rw[List.length_append,List.length_singleton];omega,by
     rw[List.length_append,List.flatMap_append];have hx:=hO7.out;rw[hext.out]at hx
     exact hx,hB7.out⟩
    refine⟨?_,by simp[Wmu,intOf];omega⟩;unfold WI;refine⟨_,_,_,_,_,_,_,_,_,_,_,_,_,_,_,_,_,_,_,_,_,_,_,_,_,_,_,_,_,_,_,_,_,_,_,_,_,_,_,_,_,_,_,_,_,_,_,_,_,_,_,_,_,_,_,_,_,_,_,_,_,_,_,_,_,_,_,_,_,_,_,_,_,_,_,_,_,_,_,_,_,_,_,_,_,_,_,_,_,_,_,_,_,_,_,_,_,_,_,_,_,_,_,_,_,_,_,_,_,_,_,_,_,_,_,_,_,_,_,_,_,_,_,_,_,_,_,_,_,_,_,_,_,_,_,_,_,_,_,_,_,_,_,_,_,_,_,_,_,_,_,_,_,_,_,_,_,_,_,_,_,_,_,_,_,_,_,_,_,_,_,_,_,_,_,_,_,_,_,_,_,_,_,_,_,_,_,_,_,_,_,_,_,_,_,_,_,_,_,_,_,_,_,_,_,_,_,_,_,_,_,_,_,_,_,_,_,_,_,_,_,_,_,_,?_,rfl⟩;exact⟨f',j,_,hj,rfl,hL2⟩
theorem EJ (s:ByteArray) (R:List Tok×Nat×Nat) (w0 w:World) (Q0:Exit→Act→World→Prop) (f i:Nat) (out:List Tok) (ov u7 u8 u9 u10 u11 u12 u13 u14 u15 u16 u17 u18 u19 u20 u21 u22 u23 u24 u25 u26 u27 u28 u29 u30 u31 u32 u33 u34 u35 u36 u37 u38 u39 u40 u41 u42 u43 u44 u45 u46 u47 u48 u49 u50 u51 u52 u53 u54 u55 u56 u57 u58 u59 u60 u61 u62 u63 u64 u65 u66 u67 u68 u69 u70 u71 u72 u73 u74 u75 u76 u77 u78 u79 u80 u81 u82 u83 u84 u85 u86 u87 u88 u89 u90 u91 u92 u93 u94 u95 u96 u97 u98 u99 u100 u101 u102 u103 u104 u105 u106 u107 u108 u109 u110 u111 u112 u113 u114 u115 u116 u117 u118 u119 u120 u121 u122 u123 u124 u125 u126 u127 u128 u129 u130 u131 u132 u133 u134 u135 u136 u137 u138 u139 u140 u141 u142 u143 u144 u145 u146 u147 u148 u149 u150 u151 u152 u153 u154 u155 u156 u157 u158 u159 u160 u161 u162 u163 u164 u165 u166 u167 u168 u169 u170 u171 u172 u173 u174 u175 u176 u177 u178 u179 u180 u181 u182 u183 u184 u185 u186 u187 u188 u189 u190 u191 u192 u193 u194 u195 u196 u197 u198 u199 u200 u201 u202 u203 u204 u205 u206 u207 u208 u209 u210 u211 u212 u213 u214 u215 u216 u217 u218 u219 u220 u221 u222 u223 u224 u225 u226 u227 u228:Value) (hs:s.size≤4096) (hL:Hid (jk s R f i out ov w0 w)) (hlt:i<s.size) (hws:wsC s[i]=false) (h35:s[i].toNat≠35) (hl:eU s[i]=false) (hd:bJ s[i]=true) (hret:∀a2 w2,WE s R w0 a2 w2→Q0 .ret a2 w2):
  Code.wp Tryz.prog iU (Exit.then (fun a2 w2=>WI s R w0 a2 w2∧Wmu s a2 w2<Wmu s ⟨#[.string s,undef,.slice none 0 0,.int .i64 0,.int .i64 0,ov,(.int .i64 i),u7,u8,u9,u10,u11,u12,u13,u14,u15,u16,u17,u18,u19,u20,u21,u22,u23,u24,u25,u26,u27,u28,u29,u30,u31,u32,u33,u34,u35,u36,u37,u38,u39,u40,u41,u42,u43,u44,u45,u46,u47,u48,u49,u50,u51,u52,u53,u54,u55,u56,u57,u58,u59,u60,u61,u62,u63,u64,u65,u66,u67,u68,u69,u70,u71,u72,u73,u74,u75,u76,u77,u78,u79,u80,u81,u82,u83,u84,u85,u86,u87,u88,u89,u90,u91,u92,u93,u94,u95,u96,u97,u98,u99,u100,u101,u102,u103,u104,u105,u106,u107,u108,u109,u110,u111,u112,u113,u114,u115,u116,u117,u118,u119,u120,u121,u122,u123,u124,u125,u126,u127,u128,u129,u130,u131,u132,u133,u134,u135,u136,u137,u138,u139,u140,u141,u142,u143,u144,u145,u146,u147,u148,u149,u150,u151,u152,u153,u154,u155,u156,u157,u158,u159,u160,u161,u162,u163,u164,u165,u166,u167,u168,u169,u170,u171,u172,u173,u174,u175,u176,u177,u178,u179,u180,u181,u182,u183,u184,u185,u186,u187,u188,u189,u190,u191,u192,u193,u194,u195,u196,u197,u198,u199,u200,u201,u202,u203,u204,u205,u206,u207,u208,u209,u210,u211,u212,u213,u214,u215,u216,u217,u218,u219,u220,u221,u222,u223,u224,u225,u226,u227,u228],[]⟩ w) Q0) ⟨#[.string s,undef,.slice none 0 0,.int .i64 0,.int .i64 0,ov,(.int .i64 i),u7,u8,u9,u10,u11,u12,u13,u14,u15,u16,u17,u18,u19,u20,u21,u22,u23,u24,u25,u26,u27,u28,u29,u30,u31,u32,u33,u34,u35,u36,u37,u38,u39,u40,u41,u42,u43,u44,u45,u46,u47,u48,u49,u50,u51,u52,u53,u54,u55,u56,u57,u58,u59,u60,u61,u62,u63,u64,u65,u66,u67,u68,u69,u70,u71,u72,u73,u74,u75,u76,u77,u78,u79,u80,u81,u82,u83,u84,u85,u86,u87,u88,u89,u90,u91,u92,u93,u94,u95,u96,u97,u98,u99,u100,u101,u102,u103,u104,u105,u106,u107,u108,u109,u110,u111,u112,u113,u114,u115,u116,u117,u118,u119,u120,u121,u122,u123,u124,u125,u126,u127,u128,u129,u130,u131,u132,u133,u134,u135,u136,u137,u138,u139,u140,u141,u142,u143,u144,u145,u146,u147,u148,u149,u150,u151,u152,u153,u154,u155,u156,u157,u158,u159,u160,u161,u162,u163,u164,u165,u166,u167,u168,u169,u170,u171,u172,u173,u174,u175,u176,u177,u178,u179,u180,u181,u182,u183,u184,u185,u186,u187,u188,u189,u190,u191,u192,u193,u194,u195,u196,u197,u198,u199,u200,u201,u202,u203,u204,u205,u206,u207,u208,u209,u210,u211,u212,u213,u214,u215,u216,u217,u218,u219,u220,u221,u222,u223,u224,u225,u226,u227,u228],[]⟩ w:=by
 conv=>arg 2;whnf
 obtain⟨f',rfl,hgo⟩:=hL.out.go_ hlt;obtain⟨c,hc⟩:∃c,s[i]=c:=⟨_,rfl⟩;rw[hc]at hgo;have hc3:=c.toNat_lt;have hdr:=drop_cons s i hlt;rw[hc]at hdr;replace hdr:=Za hdr;have hfu:=hL.out.fuel;have hlo:=hL.out.len
 have hiw:IntKind.i64.wrap ((i:Int)+1)=((i+1:Nat):Int):=by rw[IntWalk.i64_in _ (by omega)];omega
 rw[hc]at hws
 have h32:((c.toNat:Int)==32)=false:=by unfold wsC at hws;simp at hws;simp;omega
 have h9:((c.toNat:Int)==9)=false:=by unfold wsC at hws;simp at hws;simp;omega
 have h13:((c.toNat:Int)==13)=false:=by unfold wsC at hws;simp at hws;simp;omega
 have h10:((c.toNat:Int)==10)=false:=by unfold wsC at hws;simp at hws;simp;omega
 rw[hc]at h35 hl hd;have hi:i≤s.size:=Nat.le_of_lt hlt
 have hq:((c.toNat:Int)==35)=false:=by simp;omega
 have hgo2:=Za ((Dx hws h35 hl hd).symm.trans hgo);have hcl:=iL w c;rw[hl]at hcl;have hcd:=kD w c;rw[hd]at hcd;replace hcl:=Za hcl;replace hcd:=Za hcd;replace hws:=Za hws;replace hl:=Za hl;replace hd:=Za hd;clear hgo h35;go_wp2_with fail;refine hcl.out.mono ?_;rintro e w' ⟨rfl,rfl⟩;go_wp2_with fail;refine hcd.out.mono ?_;rintro e w' ⟨rfl,rfl⟩;go_wp2_with fail
 go_loop [6,9,10] (fun iv nv gv=>∃(j n:Nat) (g:Bool),i≤j∧j≤s.size∧n≤9223372036854775809∧iv= .int .i64 j∧nv= .int .u64 n∧gv= .bool g∧Hid (aU bJ (s.data.toList.drop i)=(j-i)+aU bJ (s.data.toList.drop j))∧Hid (oU ((s.data.toList.drop i).take (aU bJ (s.data.toList.drop i))) 0 false=oU ((s.data.toList.drop j).take (aU bJ (s.data.toList.drop j))) n g)) (fun iv _ _=>s.size-(intOf iv).toNat)
 case atStart=>exact⟨i,0,false,Nat.le_refl _,hi,by omega,rfl,rfl,rfl,Za (by omega),Za rfl⟩
 case round=>
  obtain⟨j,n,g,hij,hj,hn,rfl,rfl,rfl,hsp,hnum⟩:=hrel
  have hjw:IntKind.i64.wrap ((j:Int)+1)=((j+1:Nat):Int):=by rw[IntWalk.i64_in _ (by omega)];omega
  by_cases hjl:j<s.size
  ·have hdj:=drop_cons s j hjl;obtain⟨d,hdd0⟩:∃d,s[j]=d:=⟨_,rfl⟩;rw[hdd0]at hdj;have hd3:=d.toNat_lt;have hld:=iL w d;have hdd:=kD w d
   cases hdg:bJ d with
   |true=>
    have hsp2:Hid (aU bJ (s.data.toList.drop i)=(j+1-i)+aU bJ (s.data.toList.drop (j+1))):=Za (by rw[hsp.out,hdj,bP hdg];omega)
    have hr:48≤d.toNat∧d.toNat≤57:=by unfold bJ at hdg;simpa using hdg
    rw[hdg]at hdd;replace hdd:=Za hdd
    have ht:oU ((s.data.toList.drop j).take (aU bJ (s.data.toList.drop j))) n g=if 922337203685477580<n then oU ((s.data.toList.drop (j+1)).take (aU bJ (s.data.toList.drop (j+1)))) n true else oU ((s.data.toList.drop (j+1)).take (aU bJ (s.data.toList.drop (j+1)))) (10*n+(d.toNat-48)) g:=by rw[hdj,bP hdg,List.take_succ_cons];rfl
    clear hdj hsp hdg hld;by_cases hb:922337203685477580<n
    ·have hb':(922337203685477580:Int)<(n:Int):=by omega
     rw[if_pos hb]at ht;have hn2:=Za (hnum.out.trans ht);clear ht hnum hb;go_wp2_with fail;refine hdd.out.mono ?_;rintro e w' ⟨rfl,rfl⟩;go_wp2_with fail;go_round
     case rel=>exact⟨j+1,n,true,by omega,by omega,hn,by go_num,rfl,rfl,hsp2,hn2⟩
     case measure=>simp[intOf];omega
    ·have hb':¬(922337203685477580:Int)<(n:Int):=by omega
     rw[if_neg hb]at ht;have hn2:=Za (hnum.out.trans ht);have e1:=IntWalk.u64_in (10*(n:Int)) (by omega);have e2:=IntWalk.u64_in (10*(n:Int)+((d.toNat:Int)-48)) (by omega)
     have e3:(0:Int)≤(d.toNat:Int)-48:=by omega
     have e4:(d.toNat:Int)-48<256:=by omega
     have hn3:10*n+(d.toNat-48)≤9223372036854775809:=by omega
     have hval:(10*(n:Int)+((d.toNat:Int)-48))=((10*n+(d.toNat-48):Nat):Int):=by omega
     replace hval:=Za hval;clear ht hnum hb;go_wp2_with fail;refine hdd.out.mono ?_;rintro e w' ⟨rfl,rfl⟩;go_wp2_with fail;go_round
     case rel=>exact⟨j+1,10*n+(d.toNat-48),g,by omega,by omega,hn3,by go_num,by rw[←hval.out],rfl,hsp2,hn2⟩
     case measure=>simp[intOf];omega
   |false=>
    have hz:aU bJ (s.data.toList.drop j)=0:=by rw[hdj,kT hdg]
    rw[hdg]at hdd;replace hdd:=Za hdd;clear hdg;go_wp2_with fail;refine hdd.out.mono ?_;rintro e w' ⟨rfl,rfl⟩;have hk:Hid (aU bJ (s.data.toList.drop i)=j-i):=Za (by have:=hsp.out;omega);have h1:Hid (1≤aU bJ (s.data.toList.drop i)):=Za (by rw[hdr.out,bP hd.out];omega)
    have hij2:i<j:=by have:=h1.out;rw[hk.out]at this;omega
    have hsub:IntKind.i64.wrap ((j:Int)-(i:Int))=(j:Int)-(i:Int):=IntWalk.i64_in _ (by omega)
    have hnum2:oU ((s.data.toList.drop i).take (aU bJ (s.data.toList.drop i))) 0 false=(n,g):=by rw[hnum.out,hz];rfl
    have hgo3:=hgo2.out;rw[←hdr.out,hnum2,hk.out,List.drop_drop,show i+(j-i)=j by omega]at hgo3;have hdj2:=hdj
    cases g with
    |true=>
     have hgo4:([],i,53)=R:=by rw[if_pos (by simp)]at hgo3;exact hgo3
     clear hgo3 hdj hdj2 hz hsp hnum hnum2;replace hgo4:=Za hgo4;go_wp2_with fail;unfold WE;refine⟨_,_,_,_,_,_,_,_,_,_,_,_,_,_,_,_,_,_,_,_,_,_,_,_,_,_,_,_,_,_,_,_,_,_,_,_,_,_,_,_,_,_,_,_,_,_,_,_,_,_,_,_,_,_,_,_,_,_,_,_,_,_,_,_,_,_,_,_,_,_,_,_,_,_,_,_,_,_,_,_,_,_,_,_,_,_,_,_,_,_,_,_,_,_,_,_,_,_,_,_,_,_,_,_,_,_,_,_,_,_,_,_,_,_,_,_,_,_,_,_,_,_,_,_,_,_,_,_,_,_,_,_,_,_,_,_,_,_,_,_,_,_,_,_,_,_,_,_,_,_,_,_,_,_,_,_,_,_,_,_,_,_,_,_,_,_,_,_,_,_,_,_,_,_,_,_,_,_,_,_,_,_,_,_,_,_,_,_,_,_,_,_,_,_,_,_,_,_,_,_,_,_,_,_,_,_,_,_,_,_,_,_,_,_,_,_,_,_,_,_,_,_,_,_,_,_,?_,rfl⟩;exact⟨hgo4.out.symm,hL.out.bel⟩
    |false=>
     by_cases hbg:9223372036854775807<n
     ·have F7:(9223372036854775807:Int)<(n:Int):=by omega
      have hgo4:([],i,53)=R:=by rw[if_pos (by simp[hbg])]at hgo3;exact hgo3
      clear hgo3 hdj hdj2 hz hsp hnum hnum2;replace hgo4:=Za hgo4;go_wp2_with fail;unfold WE;refine⟨_,_,_,_,_,_,_,_,_,_,_,_,_,_,_,_,_,_,_,_,_,_,_,_,_,_,_,_,_,_,_,_,_,_,_,_,_,_,_,_,_,_,_,_,_,_,_,_,_,_,_,_,_,_,_,_,_,_,_,_,_,_,_,_,_,_,_,_,_,_,_,_,_,_,_,_,_,_,_,_,_,_,_,_,_,_,_,_,_,_,_,_,_,_,_,_,_,_,_,_,_,_,_,_,_,_,_,_,_,_,_,_,_,_,_,_,_,_,_,_,_,_,_,_,_,_,_,_,_,_,_,_,_,_,_,_,_,_,_,_,_,_,_,_,_,_,_,_,_,_,_,_,_,_,_,_,_,_,_,_,_,_,_,_,_,_,_,_,_,_,_,_,_,_,_,_,_,_,_,_,_,_,_,_,_,_,_,_,_,_,_,_,_,_,_,_,_,_,_,_,_,_,_,_,_,_,_,_,_,_,_,_,_,_,_,_,_,_,_,_,_,_,_,_,_,_,?_,rfl⟩;exact⟨hgo4.out.symm,hL.out.bel⟩
     ·have F7:¬(9223372036854775807:Int)<(n:Int):=by omega
      rw[if_neg (by simp;omega)]at hgo3;clear hz hsp hnum hnum2 hbg
      have hgo5:(if (eU d|| (c.toNat==48&&decide (1<j-i)))=true then(([]:List Tok),i,50)else fC f' (s.data.toList.drop j) j (out++ [⟨1,(s.data.toList.drop i).take (j-i),i⟩]))=R:=by rw[←hgo3];rw[hdj]
      clear hgo3;have hgo3:=hgo5;clear hgo5;clear hdj hdj2
      cases hdl:eU d with
      |true=>
       have hgo4:([],i,50)=R:=by rw[if_pos (by simp[hdl])]at hgo3;exact hgo3
       rw[hdl]at hld;replace hld:=Za hld;clear hgo3 hdl;replace hgo4:=Za hgo4;go_wp2_with fail;refine hld.out.mono ?_;rintro e w' ⟨rfl,rfl⟩;go_wp2_with fail;unfold WE;refine⟨_,_,_,_,_,_,_,_,_,_,_,_,_,_,_,_,_,_,_,_,_,_,_,_,_,_,_,_,_,_,_,_,_,_,_,_,_,_,_,_,_,_,_,_,_,_,_,_,_,_,_,_,_,_,_,_,_,_,_,_,_,_,_,_,_,_,_,_,_,_,_,_,_,_,_,_,_,_,_,_,_,_,_,_,_,_,_,_,_,_,_,_,_,_,_,_,_,_,_,_,_,_,_,_,_,_,_,_,_,_,_,_,_,_,_,_,_,_,_,_,_,_,_,_,_,_,_,_,_,_,_,_,_,_,_,_,_,_,_,_,_,_,_,_,_,_,_,_,_,_,_,_,_,_,_,_,_,_,_,_,_,_,_,_,_,_,_,_,_,_,_,_,_,_,_,_,_,_,_,_,_,_,_,_,_,_,_,_,_,_,_,_,_,_,_,_,_,_,_,_,_,_,_,_,_,_,_,_,_,_,_,_,_,_,_,_,_,_,_,_,_,_,_,_,_,_,?_,rfl⟩;exact⟨hgo4.out.symm,hL.out.bel⟩
      |false=>
       rw[hdl,Bool.false_or]at hgo3;rw[hdl]at hld;replace hld:=Za hld;clear hdl;by_cases hc0:c.toNat=48
       ·have hq0:((c.toNat:Int)==48)=true:=by simp;omega
        by_cases h1j:1<j-i
        ·have h1j':(1:Int)<(j:Int)-(i:Int):=by omega
         have hgo4:([],i,50)=R:=by rw[if_pos (by simp[hc0,h1j])]at hgo3;exact hgo3
         clear hgo3 hc0;replace hgo4:=Za hgo4;go_wp2_with fail;refine hld.out.mono ?_;rintro e w' ⟨rfl,rfl⟩;go_wp2_with fail;unfold WE;refine⟨_,_,_,_,_,_,_,_,_,_,_,_,_,_,_,_,_,_,_,_,_,_,_,_,_,_,_,_,_,_,_,_,_,_,_,_,_,_,_,_,_,_,_,_,_,_,_,_,_,_,_,_,_,_,_,_,_,_,_,_,_,_,_,_,_,_,_,_,_,_,_,_,_,_,_,_,_,_,_,_,_,_,_,_,_,_,_,_,_,_,_,_,_,_,_,_,_,_,_,_,_,_,_,_,_,_,_,_,_,_,_,_,_,_,_,_,_,_,_,_,_,_,_,_,_,_,_,_,_,_,_,_,_,_,_,_,_,_,_,_,_,_,_,_,_,_,_,_,_,_,_,_,_,_,_,_,_,_,_,_,_,_,_,_,_,_,_,_,_,_,_,_,_,_,_,_,_,_,_,_,_,_,_,_,_,_,_,_,_,_,_,_,_,_,_,_,_,_,_,_,_,_,_,_,_,_,_,_,_,_,_,_,_,_,_,_,_,_,_,_,_,_,_,_,_,_,?_,rfl⟩;exact⟨hgo4.out.symm,hL.out.bel⟩
        ·have h1j':¬(1:Int)<(j:Int)-(i:Int):=by omega
         have hgo4:=hgo3;rw[if_neg (by simp[h1j])]at hgo4;clear hgo3 hc0;have hfin:=Za hgo4;have hext:Hid (s.extract i j=ay ((s.data.toList.drop i).take (j-i))):=Za (dw s i j)
         have c1:(i:Int)≤(j:Int):=by omega
         have c2:(j:Int)≤(s.size:Int):=by omega
         clear hgo4;have hbn:=aA w (.cells #[.int .i64 1,.string (s.extract i j),.int .i64 i] 123);have hO3:=Za (own_below hL.out.own hbn)
         have hnews:Hid (∀(q:Nat) u,([.int .i64 1,.string (s.extract i j),.int .i64 i]:List Value)[q]? =some u→(w.alloc (.cells #[.int .i64 1,.string (s.extract i j),.int .i64 i] 123)).cell? ((⟨w.heap.size,0,none⟩:Addr).add q)=some u):=Za (fun q u hu=>by
          have hh:=Holds.new w 123 #[.int .i64 1,.string (s.extract i j),.int .i64 i]
          have hadd:(⟨w.heap.size,0,none⟩:Addr).add q=⟨w.heap.size,q,none⟩:=by unfold Addr.add;split<;>simp_all
          rw[hadd,hh.cell]
          simpa using hu)
         have hone:Hid (∀u∈([.int .i64 1,.string (s.extract i j),.int .i64 i]:List Value),u.oneCell'=true):=Za (by simp;exact⟨rfl,rfl,rfl⟩);have hsz2:Hid (w0.heap.size≤(w.alloc (.cells #[.int .i64 1,.string (s.extract i j),.int .i64 i] 123)).heap.size):=Za (Nat.le_trans hL.out.bel.size hbn.size);have hB3:=Za (hL.out.bel.trans (hbn.mono hL.out.bel.size));clear hbn;obtain⟨iA,hiA,hzA0,hzA1,hzA2⟩:=info_parts Tryz.infoTok;go_wp2_with fail;refine hld.out.mono ?_;rintro e w' ⟨rfl,rfl⟩;go_wp2_with
          (at_builtin
           go_loud (refine wpList_append_own_at _ rfl (.tmp 219) (.tmp 226) 65 rfl w0.heap.size 123 iA _ 3 32 rfl hiA hzA0 hzA1 hzA2 rfl (by omega) ov out.length (out.flatMap Tok.cells) rfl hO3.out ⟨w.heap.size,0,none⟩ 1 1 [.int .i64 1,.string (s.extract i j),.int .i64 i] rfl rfl hnews.out hone.out (by unfold maxLen;omega) (by omega) hsz2.out ?_)
           go_loud (
            intro v5 w5 ho5 hg5 _ hv5;have hO7:Hid (w5.ownsRow w0.heap.size 123 3 v5 (out.length+1) (out.flatMap Tok.cells++ [.int .i64 1,.string (s.extract i j),.int .i64 i])):=Za ho5;have hB7:Hid (Below w0.heap.size w0 w5):=Za (hB3.out.trans ((Writes.bG hg5 (M:= [ov.ownBlock]) (by simp)).below hB3.out.size (fun q hq=>bD hO3.out (List.mem_singleton.1 hq).symm)))
            clear ho5 hg5 hv5))
         have hL2:jk s R f' (j) (out++ [⟨1,(s.data.toList.drop i).take (j-i),i⟩]) v5 w0 w5:=⟨hfin.out,by omega,by rw[List.length_append,List.length_singleton];omega,by
          rw[List.length_append,List.flatMap_append];have hx:=hO7.out;rw[hext.out]at hx
          exact hx,hB7.out⟩
         refine⟨?_,by simp[Wmu,intOf];omega⟩;unfold WI;refine⟨_,_,_,_,_,_,_,_,_,_,_,_,_,_,_,_,_,_,_,_,_,_,_,_,_,_,_,_,_,_,_,_,_,_,_,_,_,_,_,_,_,_,_,_,_,_,_,_,_,_,_,_,_,_,_,_,_,_,_,_,_,_,_,_,_,_,_,_,_,_,_,_,_,_,_,_,_,_,_,_,_,_,_,_,_,_,_,_,_,_,_,_,_,_,_,_,_,_,_,_,_,_,_,_,_,_,_,_,_,_,_,_,_,_,_,_,_,_,_,_,_,_,_,_,_,_,_,_,_,_,_,_,_,_,_,_,_,_,_,_,_,_,_,_,_,_,_,_,_,_,_,_,_,_,_,_,_,_,_,_,_,_,_,_,_,_,_,_,_,_,_,_,_,_,_,_,_,_,_,_,_,_,_,_,_,_,_,_,_,_,_,_,_,_,_,_,_,_,_,_,_,_,_,_,_,_,_,_,_,_,_,_,_,_,_,_,_,_,_,_,_,_,_,_,?_,rfl⟩;exact⟨f',j,_,hj,rfl,hL2⟩
       ·have hq0:((c.toNat:Int)==48)=false:=by simp;omega
        have hgo4:=hgo3;rw[if_neg (by simp[hc0])]at hgo4;clear hgo3 hc0;have hfin:=Za hgo4;have hext:Hid (s.extract i j=ay ((s.data.toList.drop i).take (j-i))):=Za (dw s i j)
        have c1:(i:Int)≤(j:Int):=by omega
        have c2:(j:Int)≤(s.size:Int):=by omega
        clear hgo4;have hbn:=aA w (.cells #[.int .i64 1,.string (s.extract i j),.int .i64 i] 123);have hO3:=Za (own_below hL.out.own hbn)
        have hnews:Hid (∀(q:Nat) u,([.int .i64 1,.string (s.extract i j),.int .i64 i]:List Value)[q]? =some u→(w.alloc (.cells #[.int .i64 1,.string (s.extract i j),.int .i64 i] 123)).cell? ((⟨w.heap.size,0,none⟩:Addr).add q)=some u):=Za (fun q u hu=>by
         have hh:=Holds.new w 123 #[.int .i64 1,.string (s.extract i j),.int .i64 i]
         have hadd:(⟨w.heap.size,0,none⟩:Addr).add q=⟨w.heap.size,q,none⟩:=by unfold Addr.add;split<;>simp_all
         rw[hadd,hh.cell]
         simpa using hu)
        have hone:Hid (∀u∈([.int .i64 1,.string (s.extract i j),.int .i64 i]:List Value),u.oneCell'=true):=Za (by simp;exact⟨rfl,rfl,rfl⟩);have hsz2:Hid (w0.heap.size≤(w.alloc (.cells #[.int .i64 1,.string (s.extract i j),.int .i64 i] 123)).heap.size):=Za (Nat.le_trans hL.out.bel.size hbn.size);have hB3:=Za (hL.out.bel.trans (hbn.mono hL.out.bel.size));clear hbn;obtain⟨iA,hiA,hzA0,hzA1,hzA2⟩:=info_parts Tryz.infoTok;go_wp2_with fail;refine hld.out.mono ?_;rintro e w' ⟨rfl,rfl⟩;go_wp2_with
         (at_builtin
          go_loud (refine wpList_append_own_at _ rfl (.tmp 219) (.tmp 226) 65 rfl w0.heap.size 123 iA _ 3 32 rfl hiA hzA0 hzA1 hzA2 rfl (by omega) ov out.length (out.flatMap Tok.cells) rfl hO3.out ⟨w.heap.size,0,none⟩ 1 1 [.int .i64 1,.string (s.extract i j),.int .i64 i] rfl rfl hnews.out hone.out (by unfold maxLen;omega) (by omega) hsz2.out ?_)
          go_loud (
           intro v5 w5 ho5 hg5 _ hv5;have hO7:Hid (w5.ownsRow w0.heap.size 123 3 v5 (out.length+1) (out.flatMap Tok.cells++ [.int .i64 1,.string (s.extract i j),.int .i64 i])):=Za ho5;have hB7:Hid (Below w0.heap.size w0 w5):=Za (hB3.out.trans ((Writes.bG hg5 (M:= [ov.ownBlock]) (by simp)).below hB3.out.size (fun q hq=>bD hO3.out (List.mem_singleton.1 hq).symm)))
           clear ho5 hg5 hv5))
        have hL2:jk s R f' (j) (out++ [⟨1,(s.data.toList.drop i).take (j-i),i⟩]) v5 w0 w5:=⟨hfin.out,by omega,by rw[List.length_append,List.length_singleton];omega,by
         rw[List.length_append,List.flatMap_append];have hx:=hO7.out;rw[hext.out]at hx
         exact hx,hB7.out⟩
        refine⟨?_,by simp[Wmu,intOf];omega⟩;unfold WI;refine⟨_,_,_,_,_,_,_,_,_,_,_,_,_,_,_,_,_,_,_,_,_,_,_,_,_,_,_,_,_,_,_,_,_,_,_,_,_,_,_,_,_,_,_,_,_,_,_,_,_,_,_,_,_,_,_,_,_,_,_,_,_,_,_,_,_,_,_,_,_,_,_,_,_,_,_,_,_,_,_,_,_,_,_,_,_,_,_,_,_,_,_,_,_,_,_,_,_,_,_,_,_,_,_,_,_,_,_,_,_,_,_,_,_,_,_,_,_,_,_,_,_,_,_,_,_,_,_,_,_,_,_,_,_,_,_,_,_,_,_,_,_,_,_,_,_,_,_,_,_,_,_,_,_,_,_,_,_,_,_,_,_,_,_,_,_,_,_,_,_,_,_,_,_,_,_,_,_,_,_,_,_,_,_,_,_,_,_,_,_,_,_,_,_,_,_,_,_,_,_,_,_,_,_,_,_,_,_,_,_,_,_,_,_,_,_,_,_,_,_,_,_,_,_,_,?_,rfl⟩;exact⟨f',j,_,hj,rfl,hL2⟩
  ·have hz:aU bJ (s.data.toList.drop j)=0:=by rw[List.drop_of_length_le (by simp;omega)];rfl
   have hdz:s.data.toList.drop j= []:=List.drop_of_length_le (by simp;omega);have hk:Hid (aU bJ (s.data.toList.drop i)=j-i):=Za (by have:=hsp.out;omega);have h1:Hid (1≤aU bJ (s.data.toList.drop i)):=Za (by rw[hdr.out,bP hd.out];omega)
   have hij2:i<j:=by have:=h1.out;rw[hk.out]at this;omega
   have hsub:IntKind.i64.wrap ((j:Int)-(i:Int))=(j:Int)-(i:Int):=IntWalk.i64_in _ (by omega)
   have hnum2:oU ((s.data.toList.drop i).take (aU bJ (s.data.toList.drop i))) 0 false=(n,g):=by rw[hnum.out,hz];rfl
   have hgo3:=hgo2.out;rw[←hdr.out,hnum2,hk.out,List.drop_drop,show i+(j-i)=j by omega]at hgo3;have hdz2:=hdz
   cases g with
   |true=>
    have hgo4:([],i,53)=R:=by rw[if_pos (by simp)]at hgo3;exact hgo3
    clear hgo3 hdz hdz2 hz hsp hnum hnum2;replace hgo4:=Za hgo4;go_wp2_with fail;unfold WE;refine⟨_,_,_,_,_,_,_,_,_,_,_,_,_,_,_,_,_,_,_,_,_,_,_,_,_,_,_,_,_,_,_,_,_,_,_,_,_,_,_,_,_,_,_,_,_,_,_,_,_,_,_,_,_,_,_,_,_,_,_,_,_,_,_,_,_,_,_,_,_,_,_,_,_,_,_,_,_,_,_,_,_,_,_,_,_,_,_,_,_,_,_,_,_,_,_,_,_,_,_,_,_,_,_,_,_,_,_,_,_,_,_,_,_,_,_,_,_,_,_,_,_,_,_,_,_,_,_,_,_,_,_,_,_,_,_,_,_,_,_,_,_,_,_,_,_,_,_,_,_,_,_,_,_,_,_,_,_,_,_,_,_,_,_,_,_,_,_,_,_,_,_,_,_,_,_,_,_,_,_,_,_,_,_,_,_,_,_,_,_,_,_,_,_,_,_,_,_,_,_,_,_,_,_,_,_,_,_,_,_,_,_,_,_,_,_,_,_,_,_,_,_,_,_,_,_,_,?_,rfl⟩;exact⟨hgo4.out.symm,hL.out.bel⟩
   |false=>
    by_cases hbg:9223372036854775807<n
    ·have F7:(9223372036854775807:Int)<(n:Int):=by omega
     have hgo4:([],i,53)=R:=by rw[if_pos (by simp[hbg])]at hgo3;exact hgo3
     clear hgo3 hdz hdz2 hz hsp hnum hnum2;replace hgo4:=Za hgo4;go_wp2_with fail;unfold WE;refine⟨_,_,_,_,_,_,_,_,_,_,_,_,_,_,_,_,_,_,_,_,_,_,_,_,_,_,_,_,_,_,_,_,_,_,_,_,_,_,_,_,_,_,_,_,_,_,_,_,_,_,_,_,_,_,_,_,_,_,_,_,_,_,_,_,_,_,_,_,_,_,_,_,_,_,_,_,_,_,_,_,_,_,_,_,_,_,_,_,_,_,_,_,_,_,_,_,_,_,_,_,_,_,_,_,_,_,_,_,_,_,_,_,_,_,_,_,_,_,_,_,_,_,_,_,_,_,_,_,_,_,_,_,_,_,_,_,_,_,_,_,_,_,_,_,_,_,_,_,_,_,_,_,_,_,_,_,_,_,_,_,_,_,_,_,_,_,_,_,_,_,_,_,_,_,_,_,_,_,_,_,_,_,_,_,_,_,_,_,_,_,_,_,_,_,_,_,_,_,_,_,_,_,_,_,_,_,_,_,_,_,_,_,_,_,_,_,_,_,_,_,_,_,_,_,_,_,?_,rfl⟩;exact⟨hgo4.out.symm,hL.out.bel⟩
    ·have F7:¬(9223372036854775807:Int)<(n:Int):=by omega
     rw[if_neg (by simp;omega)]at hgo3;clear hz hsp hnum hnum2 hbg
     have hgo5:(if (c.toNat==48&&decide (1<j-i))=true then(([]:List Tok),i,50)else fC f' (s.data.toList.drop j) j (out++ [⟨1,(s.data.toList.drop i).take (j-i),i⟩]))=R:=by rw[←hgo3];rw[hdz,Bool.false_or]
     clear hgo3;have hgo3:=hgo5;clear hgo5;clear hdz hdz2;by_cases hc0:c.toNat=48
     ·have hq0:((c.toNat:Int)==48)=true:=by simp;omega
      by_cases h1j:1<j-i
      ·have h1j':(1:Int)<(j:Int)-(i:Int):=by omega
       have hgo4:([],i,50)=R:=by rw[if_pos (by simp[hc0,h1j])]at hgo3;exact hgo3
       clear hgo3 hc0;replace hgo4:=Za hgo4;go_wp2_with fail;unfold WE;refine⟨_,_,_,_,_,_,_,_,_,_,_,_,_,_,_,_,_,_,_,_,_,_,_,_,_,_,_,_,_,_,_,_,_,_,_,_,_,_,_,_,_,_,_,_,_,_,_,_,_,_,_,_,_,_,_,_,_,_,_,_,_,_,_,_,_,_,_,_,_,_,_,_,_,_,_,_,_,_,_,_,_,_,_,_,_,_,_,_,_,_,_,_,_,_,_,_,_,_,_,_,_,_,_,_,_,_,_,_,_,_,_,_,_,_,_,_,_,_,_,_,_,_,_,_,_,_,_,_,_,_,_,_,_,_,_,_,_,_,_,_,_,_,_,_,_,_,_,_,_,_,_,_,_,_,_,_,_,_,_,_,_,_,_,_,_,_,_,_,_,_,_,_,_,_,_,_,_,_,_,_,_,_,_,_,_,_,_,_,_,_,_,_,_,_,_,_,_,_,_,_,_,_,_,_,_,_,_,_,_,_,_,_,_,_,_,_,_,_,_,_,_,_,_,_,_,_,?_,rfl⟩;exact⟨hgo4.out.symm,hL.out.bel⟩
      ·have h1j':¬(1:Int)<(j:Int)-(i:Int):=by omega
       have hgo4:=hgo3;rw[if_neg (by simp[h1j])]at hgo4;clear hgo3 hc0;have hfin:=Za hgo4;have hext:Hid (s.extract i j=ay ((s.data.toList.drop i).take (j-i))):=Za (dw s i j)
       have c1:(i:Int)≤(j:Int):=by omega
       have c2:(j:Int)≤(s.size:Int):=by omega
       clear hgo4;have hbn:=aA w (.cells #[.int .i64 1,.string (s.extract i j),.int .i64 i] 123);have hO3:=Za (own_below hL.out.own hbn)
       have hnews:Hid (∀(q:Nat) u,([.int .i64 1,.string (s.extract i j),.int .i64 i]:List Value)[q]? =some u→(w.alloc (.cells #[.int .i64 1,.string (s.extract i j),.int .i64 i] 123)).cell? ((⟨w.heap.size,0,none⟩:Addr).add q)=some u):=Za (fun q u hu=>by
        have hh:=Holds.new w 123 #[.int .i64 1,.string (s.extract i j),.int .i64 i]
        have hadd:(⟨w.heap.size,0,none⟩:Addr).add q=⟨w.heap.size,q,none⟩:=by unfold Addr.add;split<;>simp_all
        rw[hadd,hh.cell]
        simpa using hu)
       have hone:Hid (∀u∈([.int .i64 1,.string (s.extract i j),.int .i64 i]:List Value),u.oneCell'=true):=Za (by simp;exact⟨rfl,rfl,rfl⟩);have hsz2:Hid (w0.heap.size≤(w.alloc (.cells #[.int .i64 1,.string (s.extract i j),.int .i64 i] 123)).heap.size):=Za (Nat.le_trans hL.out.bel.size hbn.size);have hB3:=Za (hL.out.bel.trans (hbn.mono hL.out.bel.size));clear hbn;obtain⟨iA,hiA,hzA0,hzA1,hzA2⟩:=info_parts Tryz.infoTok;go_wp2_with
        (at_builtin
         go_loud (refine wpList_append_own_at _ rfl (.tmp 219) (.tmp 226) 65 rfl w0.heap.size 123 iA _ 3 32 rfl hiA hzA0 hzA1 hzA2 rfl (by omega) ov out.length (out.flatMap Tok.cells) rfl hO3.out ⟨w.heap.size,0,none⟩ 1 1 [.int .i64 1,.string (s.extract i j),.int .i64 i] rfl rfl hnews.out hone.out (by unfold maxLen;omega) (by omega) hsz2.out ?_)
         go_loud (
          intro v5 w5 ho5 hg5 _ hv5;have hO7:Hid (w5.ownsRow w0.heap.size 123 3 v5 (out.length+1) (out.flatMap Tok.cells++ [.int .i64 1,.string (s.extract i j),.int .i64 i])):=Za ho5;have hB7:Hid (Below w0.heap.size w0 w5):=Za (hB3.out.trans ((Writes.bG hg5 (M:= [ov.ownBlock]) (by simp)).below hB3.out.size (fun q hq=>bD hO3.out (List.mem_singleton.1 hq).symm)))
          clear ho5 hg5 hv5))
       have hL2:jk s R f' (j) (out++ [⟨1,(s.data.toList.drop i).take (j-i),i⟩]) v5 w0 w5:=⟨hfin.out,by omega,by rw[List.length_append,List.length_singleton];omega,by
        rw[List.length_append,List.flatMap_append];have hx:=hO7.out;rw[hext.out]at hx
        exact hx,hB7.out⟩
       refine⟨?_,by simp[Wmu,intOf];omega⟩;unfold WI;refine⟨_,_,_,_,_,_,_,_,_,_,_,_,_,_,_,_,_,_,_,_,_,_,_,_,_,_,_,_,_,_,_,_,_,_,_,_,_,_,_,_,_,_,_,_,_,_,_,_,_,_,_,_,_,_,_,_,_,_,_,_,_,_,_,_,_,_,_,_,_,_,_,_,_,_,_,_,_,_,_,_,_,_,_,_,_,_,_,_,_,_,_,_,_,_,_,_,_,_,_,_,_,_,_,_,_,_,_,_,_,_,_,_,_,_,_,_,_,_,_,_,_,_,_,_,_,_,_,_,_,_,_,_,_,_,_,_,_,_,_,_,_,_,_,_,_,_,_,_,_,_,_,_,_,_,_,_,_,_,_,_,_,_,_,_,_,_,_,_,_,_,_,_,_,_,_,_,_,_,_,_,_,_,_,_,_,_,_,_,_,_,_,_,_,_,_,_,_,_,_,_,_,_,_,_,_,_,_,_,_,_,_,_,_,_,_,_,_,_,_,_,_,_,_,_,?_,rfl⟩;exact⟨f',j,_,hj,rfl,hL2⟩
     ·have hq0:((c.toNat:Int)==48)=false:=by simp;omega
      have hgo4:=hgo3;rw[if_neg (by simp[hc0])]at hgo4;clear hgo3 hc0;have hfin:=Za hgo4;have hext:Hid (s.extract i j=ay ((s.data.toList.drop i).take (j-i))):=Za (dw s i j)
      have c1:(i:Int)≤(j:Int):=by omega
      have c2:(j:Int)≤(s.size:Int):=by omega
      clear hgo4;have hbn:=aA w (.cells #[.int .i64 1,.string (s.extract i j),.int .i64 i] 123);have hO3:=Za (own_below hL.out.own hbn)
      have hnews:Hid (∀(q:Nat) u,([.int .i64 1,.string (s.extract i j),.int .i64 i]:List Value)[q]? =some u→(w.alloc (.cells #[.int .i64 1,.string (s.extract i j),.int .i64 i] 123)).cell? ((⟨w.heap.size,0,none⟩:Addr).add q)=some u):=Za (fun q u hu=>by
       have hh:=Holds.new w 123 #[.int .i64 1,.string (s.extract i j),.int .i64 i]
       have hadd:(⟨w.heap.size,0,none⟩:Addr).add q=⟨w.heap.size,q,none⟩:=by unfold Addr.add;split<;>simp_all
       rw[hadd,hh.cell]
       simpa using hu)
      have hone:Hid (∀u∈([.int .i64 1,.string (s.extract i j),.int .i64 i]:List Value),u.oneCell'=true):=Za (by simp;exact⟨rfl,rfl,rfl⟩);have hsz2:Hid (w0.heap.size≤(w.alloc (.cells #[.int .i64 1,.string (s.extract i j),.int .i64 i] 123)).heap.size):=Za (Nat.le_trans hL.out.bel.size hbn.size);have hB3:=Za (hL.out.bel.trans (hbn.mono hL.out.bel.size));clear hbn;obtain⟨iA,hiA,hzA0,hzA1,hzA2⟩:=info_parts Tryz.infoTok;go_wp2_with
       (at_builtin
        go_loud (refine wpList_append_own_at _ rfl (.tmp 219) (.tmp 226) 65 rfl w0.heap.size 123 iA _ 3 32 rfl hiA hzA0 hzA1 hzA2 rfl (by omega) ov out.length (out.flatMap Tok.cells) rfl hO3.out ⟨w.heap.size,0,none⟩ 1 1 [.int .i64 1,.string (s.extract i j),.int .i64 i] rfl rfl hnews.out hone.out (by unfold maxLen;omega) (by omega) hsz2.out ?_)
        go_loud (
         intro v5 w5 ho5 hg5 _ hv5;have hO7:Hid (w5.ownsRow w0.heap.size 123 3 v5 (out.length+1) (out.flatMap Tok.cells++ [.int .i64 1,.string (s.extract i j),.int .i64 i])):=Za ho5;have hB7:Hid (Below w0.heap.size w0 w5):=Za (hB3.out.trans ((Writes.bG hg5 (M:= [ov.ownBlock]) (by simp)).below hB3.out.size (fun q hq=>bD hO3.out (List.mem_singleton.1 hq).symm)))
         clear ho5 hg5 hv5))
      have hL2:jk s R f' (j) (out++ [⟨1,(s.data.toList.drop i).take (j-i),i⟩]) v5 w0 w5:=⟨hfin.out,by omega,by rw[List.length_append,List.length_singleton];omega,by
       rw[List.length_append,List.flatMap_append];have hx:=hO7.out;rw[hext.out]at hx
       exact hx,hB7.out⟩
      refine⟨?_,by simp[Wmu,intOf];omega⟩;unfold WI;refine⟨_,_,_,_,_,_,_,_,_,_,_,_,_,_,_,_,_,_,_,_,_,_,_,_,_,_,_,_,_,_,_,_,_,_,_,_,_,_,_,_,_,_,_,_,_,_,_,_,_,_,_,_,_,_,_,_,_,_,_,_,_,_,_,_,_,_,_,_,_,_,_,_,_,_,_,_,_,_,_,_,_,_,_,_,_,_,_,_,_,_,_,_,_,_,_,_,_,_,_,_,_,_,_,_,_,_,_,_,_,_,_,_,_,_,_,_,_,_,_,_,_,_,_,_,_,_,_,_,_,_,_,_,_,_,_,_,_,_,_,_,_,_,_,_,_,_,_,_,_,_,_,_,_,_,_,_,_,_,_,_,_,_,_,_,_,_,_,_,_,_,_,_,_,_,_,_,_,_,_,_,_,_,_,_,_,_,_,_,_,_,_,_,_,_,_,_,_,_,_,_,_,_,_,_,_,_,_,_,_,_,_,_,_,_,_,_,_,_,_,_,_,_,_,_,?_,rfl⟩;exact⟨f',j,_,hj,rfl,hL2⟩
end Go.Proofs.YtpndglghpojjkaaGreat
