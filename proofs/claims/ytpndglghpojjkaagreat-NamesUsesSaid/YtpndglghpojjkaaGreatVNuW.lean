/-
  A function's text read: no name is an empty text, and there are no more names than tokens. No program in sight.
-/
import Derived.Test.YtpndglghpojjkaaGreatPua11
import Derived.Test.YtpndglghpojjkaaGreatPua7
set_option maxRecDepth 1000000
set_option maxHeartbeats 8000000

namespace Go.Proofs.YtpndglghpojjkaaGreat

def nE (l:List S):Prop:=∀x∈l,x≠[]
theorem nE.nil:nE []:=fun _ h=>nomatch h
theorem nE.app {l m:List S} (h:nE l) (h2:nE m):nE (l++m):=fun x hx=>(List.mem_append.1 hx).elim (h x) (h2 x)
theorem nE.one {x:S} (h:x≠[]):nE [x]:=fun y hy=>by rw[List.mem_singleton.1 hy];exact h
section
variable {C:PC} {s s2:PS}
theorem Stp.e0 (h:Stp C s s2) (h2:s2.e=0):s.e=0:=Classical.byContradiction fun h3=>h.er h3 h2
def Gd (l:List S) (s s2:PS):Prop:=s2.e=0→nE l∧l.length+s.i≤s2.i
theorem Gd.fail {l:List S} (k:Nat) (hk:k≠0):Gd l s (bT C k s):=fun he=>absurd he (ou k hk s)
theorem Gd.none_ (h:Stp C s s2):Gd [] s s2:=fun _=>⟨nE.nil,by simpa using h.i1⟩
theorem Gd.pre {l:List S} {s1:PS} (h:Stp C s s1) (h2:Gd l s1 s2):Gd l s s2:=fun he=>⟨(h2 he).1,by have:=(h2 he).2;have:=h.i1;omega⟩
theorem Gd.post {l:List S} {s1:PS} (h:Gd l s s1) (h2:Stp C s1 s2):Gd l s s2:=fun he=>⟨(h (h2.e0 he)).1,by have:=(h (h2.e0 he)).2;have:=h2.i1;omega⟩
theorem Gd.app {l m:List S} {s1:PS} (h:Gd l s s1) (h2:Gd m s1 s2) (hs:Stp C s1 s2):Gd (l++m) s s2:=fun he=>⟨(h (hs.e0 he)).1.app (h2 he).1,by have:=(h (hs.e0 he)).2;have:=(h2 he).2;rw[List.length_append];omega⟩
theorem Gd.eq {l m:List S} (h:Gd l s s2) (e:l=m):Gd m s s2:=e▸h
theorem exL_mk {k:Nat} {n:Int} {nm:S} {a b:Ex} (hk:k≠1):exL (.mk k n nm a b)=exL a++exL b:=by simp[exL,hk]
theorem Gd.bracket {l:List S} {t:List UInt8} (_:isF C t s=true) (h:(aV C s).1=true) (h2:Gd l (aV C s).2.next s2):Gd l s s2.shut:=fun he=>by
 obtain⟨e,-,-⟩:=iK h;have h3:=h2 he;rw[e]at h3;exact⟨h3.1,by have:=h3.2;simp only[PS.next,PS.shut]at this⊢;omega⟩
def NT (C:PC):Prop:=∀t∈C.tk,t.k=0→t.t≠[]
theorem name_g (hT:NT C) (s:PS):Gd [(aK C s).1] s (aK C s).2:=by
 unfold aK;split
 ·rename_i h;intro _;unfold cu at h;simp only[Bool.and_eq_true]at h;refine⟨nE.one ?_,by simp[PS.next];omega⟩
  cases hx:C.tk[s.i]? with
  |none=>rw[hx]at h;simp at h
  |some x=>
   rw[hx]at h;simp only[Bool.and_eq_true,beq_iff_eq]at h;exact hT x (List.mem_of_getElem? hx) h.2.1
 ·exact Gd.fail 51 (by decide)
theorem unF_g (hT:NT C) {sum un:PS→Ex×PS} (hs:∀s,Gd (exL (sum s).1) s (sum s).2) (hu:∀s,Gd (exL (un s).1) s (un s).2) (s:PS):Gd (exL (unF C sum un s).1) s (unF C sum un s).2:=by
 unfold unF;split
 ·exact Gd.fail 51 (by decide)
 ·split
  ·exact Gd.fail 51 (by decide)
  ·rename_i x hx;split
   ·split
    ·exact((hu _).bracket ‹isF C [45] s=true› ‹_›).eq (by simp[exL])
    ·exact Gd.none_ (Stp.nY (by simpa using ‹¬(aV C s).1=true›))
   ·split
    ·split
     ·exact((hs _).post (Stp.want [41] _)).bracket ‹isF C [40] s=true› ‹_›
     ·exact Gd.none_ (Stp.nY (by simpa using ‹¬(aV C s).1=true›))
    ·split
     ·exact(Gd.none_ (Stp.next (List.getElem?_eq_some_iff.1 hx).1)).eq (by simp[exL])
     ·split
      ·exact(name_g hT s).eq (by simp[exL])
      ·exact Gd.fail 51 (by decide)
theorem moreL_g {kf:PS→Nat} {part:PS→Ex×PS} (hk:∀s,kf s≠0→s.i<C.tk.length) (h1:∀s,kf s≠1) (hp:∀s,Stp C s (part s).2) (hg:∀s,Gd (exL (part s).1) s (part s).2):∀(f:Nat) (a:Ex) (s0 s:PS),Gd (exL a) s0 s→Gd (exL (moreL kf part f a s).1) s0 (moreL kf part f a s).2
 |0,_,_,_,h=>h
 |f+1,a,s0,s,h=>by
  unfold moreL;split
  ·exact h
  ·split
   ·exact h
   ·rename_i h2;exact moreL_g hk h1 hp hg f _ s0 _ (((h.post (Stp.next (hk s h2))).app (hg _) (hp _)).eq (exL_mk (h1 s)).symm)
theorem prodF_g {un:PS→Ex×PS} (stu:∀s,Stp C s (un s).2) (hu:∀s,Gd (exL (un s).1) s (un s).2) (s:PS):Gd (exL (nX C un s).1) s (nX C un s).2:=moreL_g (fun _=>Dp) AY stu hu _ _ _ _ (hu s)
theorem sumF_g {un:PS→Ex×PS} (stu:∀s,Stp C s (un s).2) (hu:∀s,Gd (exL (un s).1) s (un s).2) (s:PS):Gd (exL (sumF C un s).1) s (sumF C un s).2:=moreL_g (fun _=>EM) CQ (oQ stu) (prodF_g stu hu) _ _ _ _ (prodF_g stu hu s)
theorem unD_g (hT:NT C):∀(d:Nat) (s:PS),Gd (exL (unD C d s).1) s (unD C d s).2
 |0,s=>unF_g hT (sum:=fun s=>(.nil,s)) (un:=fun s=>(.nil,s)) (fun s=>Gd.none_ (Stp.refl (C:=C) s)) (fun s=>Gd.none_ (Stp.refl (C:=C) s)) s
 |d+1,s=>unF_g hT (sumF_g (kR d) (unD_g hT d)) (unD_g hT d) s
theorem sumD_g (hT:NT C) (d:Nat) (s:PS):Gd (exL (sS C d s).1) s (sS C d s).2:=sumF_g (kR d) (unD_g hT d) s
theorem cmpF_g {sum:PS→Ex×PS} (ss:∀s,Stp C s (sum s).2) (hs:∀s,Gd (exL (sum s).1) s (sum s).2) (a:Ex) (s0:PS):∀(l:List (List UInt8)) (k:Nat) (s:PS),Gd (exL a) s0 s→Stp C s0 s→Gd (cnL (pW C sum a k l s).1) s0 (pW C sum a k l s).2
 | [],_,s,_,h2=>Gd.none_ (h2.trans (Stp.fail 51 (by decide) s))
 |t::r,k,s,h,h2=>by
  unfold pW;split
  ·exact((h.post (Stp.is_ ‹_›)).app (hs _) (ss _)).eq (by simp[cnL])
  ·exact cmpF_g ss hs a s0 r (k+1) s h h2
theorem notF_g {sum:PS→Ex×PS} {cond not_:PS→Cn×PS} (ss:∀s,Stp C s (sum s).2) (hs:∀s,Gd (exL (sum s).1) s (sum s).2) (hc:∀s,Gd (cnL (cond s).1) s (cond s).2) (hn:∀s,Gd (cnL (not_ s).1) s (not_ s).2) (s:PS):Gd (cnL (nG C sum cond not_ s).1) s (nG C sum cond not_ s).2:=by
 unfold nG;split
 ·split
  ·exact((hn _).bracket ‹isF C [33] s=true› ‹_›).eq (by simp[cnL,exL])
  ·exact Gd.none_ (Stp.nY (by simpa using ‹¬(aV C s).1=true›))
 ·split
  ·split
   ·exact((hc _).post (Stp.want [41] _)).bracket ‹isF C [40] s=true› ‹_›
   ·exact Gd.none_ (Stp.nY (by simpa using ‹¬(aV C s).1=true›))
  ·split
   ·intro _
    have e:cnL (if fB C (s.i+1)== [33,61]then Cn.mk 8 .nil .nil (.mk 9 .nil .nil .nil .nil (fB C s.i)) .nil []else .mk 9 .nil .nil .nil .nil (fB C s.i))= []:=by split<;>simp[cnL,exL]
    rw[e];exact⟨nE.nil,by simp⟩
   ·exact cmpF_g ss hs _ s _ _ _ (hs s) (ss s)
theorem joinL_g {t:List UInt8} {k:Nat} {part:PS→Cn×PS} (hp:∀s,Stp C s (part s).2) (hg:∀s,Gd (cnL (part s).1) s (part s).2):∀(f:Nat) (c:Cn) (s0 s:PS),Gd (cnL c) s0 s→Gd (cnL (joinL C t k part f c s).1) s0 (joinL C t k part f c s).2
 |0,_,_,_,h=>h
 |f+1,c,s0,s,h=>by
  unfold joinL;split
  ·exact joinL_g hp hg f _ s0 _ (((h.post (Stp.is_ ‹_›)).app (hg _) (hp _)).eq (by simp[cnL,exL]))
  ·exact h
theorem andF_g {n:PS→Cn×PS} (sn:∀s,Stp C s (n s).2) (hn:∀s,Gd (cnL (n s).1) s (n s).2) (s:PS):Gd (cnL (BQ C n s).1) s (BQ C n s).2:=joinL_g sn hn _ _ _ _ (hn s)
theorem condF_g {n:PS→Cn×PS} (sn:∀s,Stp C s (n s).2) (hn:∀s,Gd (cnL (n s).1) s (n s).2) (s:PS):Gd (cnL (zW C n s).1) s (zW C n s).2:=joinL_g (sJ sn) (andF_g sn hn) _ _ _ _ (andF_g sn hn s)
theorem notD_g (hT:NT C):∀(d:Nat) (s:PS),Gd (cnL (qI C d s).1) s (qI C d s).2
 |0,s=>notF_g (cond:=fun s=>(.nil,s)) (not_:=fun s=>(.nil,s)) (fK 0) (sumD_g hT 0) (fun s=>Gd.none_ (Stp.refl (C:=C) s)) (fun s=>Gd.none_ (Stp.refl (C:=C) s)) s
 |d+1,s=>notF_g (fK (d+1)) (sumD_g hT (d+1)) (condF_g (jw d) (notD_g hT d)) (notD_g hT d) s
theorem condD_g (hT:NT C) (d:Nat) (s:PS):Gd (cnL (uT C d s).1) s (uT C d s).2:=condF_g (jw d) (notD_g hT d) s
end
end Go.Proofs.YtpndglghpojjkaaGreat
