/-
  The reference: what a function names.
-/
import Derived.Test.YtpndglghpojjkaaGreatPua14
set_option maxRecDepth 1000000
set_option maxHeartbeats 8000000

namespace Go.Proofs.YtpndglghpojjkaaGreat
open Go.RowKit Go.Deep

theorem ustm_dep (F:FnV) (gu:Nat) (w0:World):∀(m:Nat) (l:Sl),l.dep<m→G6 F gu w0 l
 |0,_,h=>absurd h (Nat.not_lt_zero _)
 |m+1,l,h=>Fv F gu w0 l fun l' h'=>ustm_dep F gu w0 m l' (by omega)
theorem ustmts_any (F:FnV) (gu:Nat) (w0:World) (l:Sl):G6 F gu w0 l:=ustm_dep F gu w0 (l.dep+1) l (Nat.lt_succ_self _)
def NmOut (c a l:List S) (w:World) (e:Ending) (w':World):Prop:=∃X1 X2 X3 k1 k2 k3 n1 n2 n3,e= .returned (.tuple #[.slice X1 n1 k1,.slice X2 n2 k2,.slice X3 n3 k3])∧(c.length=n1∧a.length=n2∧l.length=n3)∧(n1≤100000∧n2≤100000∧n3≤100000)∧(Row w' w'.heap.size X1 (c.map encStr)∧Row w' w'.heap.size X2 (a.map encStr)∧Row w' w'.heap.size X3 (l.map encStr))∧Below w.heap.size w w'
set_option maxHeartbeats 4000000 in
theorem rnames_any (F:FnV) (w:World) (s:Sl) (hF:F.ok w) (hv:aQ w Evr s (.slice F.A3 F.n3 F.c3)) (hn:uN s≤100000):
  Calls Tryz.prog 15 #[.agg F.cells] w (NmOut (uC F s []) (uA s []) (uL s []) w):=by
 have hb1:=aA w (.cells F.cells 26);have hH1:=Holds.new w 26 F.cells;obtain⟨w1,hw1⟩:∃y,y=w.alloc (.cells F.cells 26):=⟨_,rfl⟩;rw[←hw1]at hb1 hH1;have hb2:=aA w1 (.cells (usC F none none none 0 0 0 0 0 0) 106);have hH2:=Holds.new w1 106 (usC F none none none 0 0 0 0 0 0);obtain⟨w2,hw2⟩:∃y,y=w1.alloc (.cells (usC F none none none 0 0 0 0 0 0) 106):=⟨_,rfl⟩
 obtain⟨gu,hgu⟩:∃y,y=w1.heap.size:=⟨_,rfl⟩;obtain⟨gf,hgf⟩:∃y,y=w.heap.size:=⟨_,rfl⟩;rw[←hw2,←hgu]at hH2;rw[←hw2]at hb2;have hB2:=hb1.trans (hb2.mono hb1.size)
 have hU:UsB F gu 0 [] [] [] w w2:=⟨⟨none,none,none,0,0,0,hH2,⟨Row.nil_ _ _ _,Nat.le_refl _⟩,⟨Row.nil_ _ _ _,Nat.le_refl _⟩,Row.nil_ _ _ _,Nat.le_refl _⟩,hF,hB2,by rw[hgu];exact hb1.size,⟨Nat.le_refl _,Nat.le_refl _,Nat.le_refl _⟩⟩;have cN:=Za (ustmts_any F gu w s w2 0 [] [] [] _ hv hU (by omega));have hH1':=hH1.below hb2 hH1.lt;rw[←hgf]at hH1'
 have p3:w2.cell? ⟨gf,3,none⟩=some (.slice F.A3 F.n3 F.c3):=hH1'.cell 3;have pl:=hH1'.lt
 have hf2:Hid ((w.alloc (.cells #[.string (ay F.nm),.slice F.A1 F.ps.length F.c1,.slice F.A2 F.ls.length F.c2,.slice F.A3 F.n3 F.c3] 26)).alloc (.cells #[.string (ay F.nm),.slice F.A1 F.ps.length F.c1,.slice F.A2 F.ls.length F.c2,.slice F.A3 F.n3 F.c3,.slice none 0 0,.slice none 0 0,.slice none 0 0] 106)=w2):=Za (by rw[hw2,hw1];rfl)
 have hg2:Hid (w.heap.size+1=gu):=Za (by rw[hgu,hw1];simp);obtain⟨C,hC⟩:∃y,y=uC F s []:=⟨_,rfl⟩;obtain⟨AA,hA⟩:∃y,y=uA s []:=⟨_,rfl⟩;obtain⟨LL,hL⟩:∃y,y=uL s []:=⟨_,rfl⟩;rw[←hC,←hA,←hL]at cN⊢;have hn':=Za hn;have hst:=Za (show Below w.heap.size w w2 from hB2);clear hb1 hH1 hb2 hH2 hB2 hU hH1' hw1 hw2 hgu hgf hC hA hL hv hF hn
 go_enter Tryz.func15,Tryz.ntmps15;unfold FnV.cells;go_wp2_with fail;rw[hf2.out,hg2.out];clear hf2 hg2 p3 pl;refine cN.out.mono ?_;clear cN;rintro e w3 ⟨rfl,hU3,hW3⟩;have hb3:Below w.heap.size w w3:=hU3.bl;obtain⟨X1,X2,X3,k1,k2,k3,hH3,⟨r1,l1⟩,⟨r2,l2⟩,r3,l3⟩:=hU3.row;obtain⟨m1,m2,m3⟩:=hU3.lc;have hn2:=hn'.out
 have q4:w3.cell? ⟨gu,4,none⟩=some (.slice X1 C.length k1):=hH3.cell 4;have q5:w3.cell? ⟨gu,5,none⟩=some (.slice X2 AA.length k2):=hH3.cell 5;have q6:w3.cell? ⟨gu,6,none⟩=some (.slice X3 LL.length k3):=hH3.cell 6;have ql:=hH3.lt
 have hE:Hid (∀n,NmOut C AA LL w (.returned (.tuple #[.slice X1 C.length k1,.slice X2 AA.length k2,.slice X3 LL.length k3])) (w3.drewN n)):=Za fun n=>
  ⟨X1,X2,X3,k1,k2,k3,_,_,_,rfl,⟨rfl,rfl,rfl⟩,⟨by omega,by omega,by omega⟩,⟨r1,r2,r3⟩,below_drewN hb3 n⟩
 clear hU3 hW3 hb3 hH3 r1 r2 r3 l1 l2 l3 m1 m2 m3 hst hn' hn2;go_wp2_with fail;go_quiet (fail);go_wp2_with fail;refine bodyPost_ret (v:= .tuple #[.slice X1 C.length k1,.slice X2 AA.length k2,.slice X3 LL.length k3]) (by simp[results,Tryz.results15,go_sem]) rfl ?_;exact hE.out _
def fnV0 (r:Fnc):FnV:=⟨r.nm,r.ps,r.ls,none,none,none,0,0,0,0⟩
theorem uC_same (F G:FnV) (h:F.K=G.K):∀(s:Sl) (c:List S),uC F s c=uC G s c
 | .nil,_=>rfl
 | .cons hd t e r,c=>by
  have e1:∀c,hC F c hd=hC G c hd:=fun c=>by unfold hC;congr 1;funext c s;unfold addN;rw[h]
  simp only[uC];rw[e1,uC_same F G h t,uC_same F G h e,uC_same F G h r]
end Go.Proofs.YtpndglghpojjkaaGreat
