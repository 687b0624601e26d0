/-
  What a function that was read and resolved names: the program's way tells what the document's tells. No program in sight.
-/
import Derived.Test.YtpndglghpojjkaaGreatVNuX
import Derived.Test.YtpndglghpojjkaaGreatVNsE
import Derived.Test.YtpndglghpojjkaaGreatVNuH
set_option maxRecDepth 1000000
set_option maxHeartbeats 8000000

namespace Go.Proofs.YtpndglghpojjkaaGreat

theorem hd_ne {h:Hd} {t e:Sl} (H:WfH h t e) (G:HdG h):NeH h:=by
 have hx:∀x∈hdL h,x≠[]:=G.1;unfold hdL at hx;simp only[List.mem_append]at hx;exact⟨fun x h=>hx x (.inl h),fun x h=>hx x (.inr (.inl h)),fun x h=>hx x (.inr (.inr (.inl h))),fun x h=>hx x (.inr (.inr (.inr h))),G.2.1,G.2.2,H.args,fun a ha=>(H.a a ha).2⟩
theorem sl_ne:∀{l:Sl},WfS l→allH HdG l→allH NeH l
 | .nil,_,_=>trivial
 | .cons _ _ _ _,⟨H,ht,he,hr⟩,⟨G,gt,ge,gr⟩=>⟨hd_ne H G,sl_ne ht gt,sl_ne he ge,sl_ne hr gr⟩
theorem foldl_filter_if {α β:Type} (p:β→Bool) (f:α→β→α):∀(l:List β) (a:α),(l.filter p).foldl f a=l.foldl (fun x y=>if p y=true then f x y else x) a
 | [],_=>rfl
 |x::l,a=>by
  rw[List.filter_cons];split
  ·rename_i h;rw[List.foldl_cons,List.foldl_cons,if_pos h];exact foldl_filter_if p f l _
  ·rename_i h;rw[List.foldl_cons,if_neg h];exact foldl_filter_if p f l _
theorem uC_fold (F:FnV):∀(l:Sl) (c:List S),uC F l c=(each (hdR F.K) l).foldl bH c
 | .nil,_=>rfl
 | .cons h t e r,c=>by
  have e1:hC F c h=(hdR F.K h).foldl bH c:=by unfold hC hdR hlR;rw[foldl_filter_if];rfl
  unfold each;rw[List.foldl_append,List.foldl_append,List.foldl_append,←e1,←uC_fold F t,←uC_fold F e,←uC_fold F r];rfl
theorem uA_fold:∀(l:Sl) (c:List S),uA l c=(each jd l).foldl bH c
 | .nil,_=>rfl
 | .cons h t e r,c=>by unfold each;rw[List.foldl_append,List.foldl_append,List.foldl_append,←uA_fold t,←uA_fold e,←uA_fold r];rfl
theorem uL_fold:∀(l:Sl) (c:List S),uL l c=(each iw l).foldl bH c
 | .nil,_=>rfl
 | .cons h t e r,c=>by unfold each;rw[List.foldl_append,List.foldl_append,List.foldl_append,←uL_fold t,←uL_fold e,←uL_fold r];rfl
theorem ag_le (K:List UInt8→Nat):∀l:List Ag,(agR (l.map (fG K))).length≤(agR l).length
 | []=>Nat.le_refl _
 |a::l=>by
  have h:=ag_le K l
  have h2:(exL (fG K a).e).length≤(exL a.e).length:=by
   unfold fG;split
   ·simp[exL]
   ·exact Nat.le_refl _
  simp only[agR,List.map_cons,List.flatMap_cons,List.length_append]at h⊢;omega
theorem head_le (K:List UInt8→Nat) (h:Hd):hsC (n_ K h)≤hsC h:=by
 have ha:=ag_le K h.args;unfold n_;split
 ·simp only[hsC,exL,List.length_nil];omega
 ·simp only[hsC];omega
theorem list_le (K:List UInt8→Nat):∀l:Sl,slW (dI K l)≤slW l
 | .nil=>Nat.le_refl _
 | .cons h t e r=>by have h0:=head_le K h;have h1:=list_le K t;have h2:=list_le K e;have h3:=list_le K r;simp only[slW,dI,jI]at h1 h2 h3⊢;omega
theorem uN_le:∀l:Sl,uN l≤2*slW l
 | .nil=>Nat.le_refl _
 | .cons h t e r=>by
  have h1:=uN_le t;have h2:=uN_le e;have h3:=uN_le r
  have h0:(eY h).length≤(agR h.args).length+1:=by
   unfold eY
   repeat' split
   all_goals simp
  simp only[uN,hN,hlR,slW,jI,hsC,List.length_append]at h1 h2 h3⊢;omega
theorem one_le:∀l:Sl,jI (fun _=>1) l≤slW l
 | .nil=>Nat.le_refl _
 | .cons h t e r=>by have h1:=one_le t;have h2:=one_le e;have h3:=one_le r;simp only[slW,jI]at h1 h2 h3⊢;omega
structure NmOk (r:Fnc):Prop where
 n:uN r.body≤100000
 c:jI (fun h=>hsC h+1) r.body≤500000
 d:jI (fun _=>1) r.body≤500000
 e1:canon (each (hdP (cZ (r.ps++r.ls))) r.body)=uC (fnV0 r) r.body []
 e2:canon (each (globs (cZ (r.ps++r.ls)) jd) r.body)=uA r.body []
 e3:canon (each (globs (cZ (r.ps++r.ls)) iw) r.body)=uL r.body []
theorem NmOk.of {r:Fnc} (h:r=Fnc.none∨Told r):NmOk r:=by
 rcases h with rfl| ⟨l,u,f,a,hf,hr⟩
 ·exact⟨by decide,by decide,by decide,by kernel_rfl,by kernel_rfl,by kernel_rfl⟩
 ·obtain⟨-,e,h1,h2,-⟩:=Gm hr;have hwf:=(xQ l).body;have hg:=funcF_g l (by rw[hf]);rw[hf]at hwf hg;obtain⟨g1,g2'⟩:=hg;have g2:slW f.body≤8192:=g2';have hk:cZ (f.ps++f.ls)=dX (f.ps++f.ls):=DL ((iR _).1 h2);subst e;have w1:=list_le (cZ (f.ps++f.ls)) f.body;have w2:=uN_le (dI (cZ (f.ps++f.ls)) f.body)
  have w3:=one_le (dI (cZ (f.ps++f.ls)) f.body);have hne:allH NeH (dI (cZ (f.ps++f.ls)) f.body):=vW (sl_ne hwf g1);have hfa:=(wB hwf h1).1;refine⟨by simp only;omega,Nat.le_trans w1 (by omega),by simp only;omega,?_,?_,?_⟩
  ·rw[uC_fold];show canon (each (hdP (cZ (f.ps++f.ls))) (dI (cZ (f.ps++f.ls)) f.body))=(each (hdR (dX (f.ps++f.ls))) (dI (cZ (f.ps++f.ls)) f.body)).foldl bH [];rw[Gf hne,hk]
  ·rw[uA_fold];exact Gl hfa
  ·rw[uL_fold];exact Gj hfa
end Go.Proofs.YtpndglghpojjkaaGreat
