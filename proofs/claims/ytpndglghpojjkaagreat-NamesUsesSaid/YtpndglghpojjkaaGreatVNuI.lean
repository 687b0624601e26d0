/-
  The seat's Fn: a function of bytes, resolved, or none.
-/
import Derived.Test.YtpndglghpojjkaaGreatVNuH
import Derived.Test.YtpndglghpojjkaaGreatVNuG
set_option maxRecDepth 1000000
set_option maxHeartbeats 8000000

namespace Go.Proofs.YtpndglghpojjkaaGreat
open Go.RowKit Go.Deep

theorem strV_back (s:ByteArray):∃u:List UInt8,s=ay u:=⟨s.data.toList,by simp[ay]⟩
def FnGot (w:World) (e:Ending) (w':World):Prop:=∃r A1 A2 A3 n1 n2 n3 c1 c2 c3,e= .returned (.agg #[.string (ay r.nm),.slice A1 n1 c1,.slice A2 n2 c2,.slice A3 n3 c3])∧eP w' Evr r (.slice A1 n1 c1) (.slice A2 n2 c2) (.slice A3 n3 c3)∧Below w.heap.size w w'∧(r=Fnc.none∨Told r)
set_option maxHeartbeats 4000000 in
theorem fn_any (b:List UInt8) (w:World) (A:Option Addr) (c:Nat) (hb:Bytes w w.heap.size A b) (hl:b.length≤100000) (kk:Nat) (hkk:kk<4):
  Calls Tryz.prog 13 #[.int .i64 kk,.slice A b.length c] w (FnGot w):=by
 have hb0:=aA w (.cells kY 26);have hH0:=Holds.new w 26 kY;have hby:=Row.more (Row.below hb hb0) hb0.size;obtain⟨w0,hw0⟩:∃y,y=w.alloc (.cells kY 26):=⟨_,rfl⟩;obtain⟨gR,hgR⟩:∃y,y=w.heap.size:=⟨_,rfl⟩;rw[←hw0]at hb0 hH0 hby;rw[←hgR]at hH0;have hB0:=Za hb0;have hR0:=Za hH0;have hby':=Za (show Bytes w0 w0.heap.size A b from hby)
 have hgl:w.heap.size≤gR:=by omega
 have hfo:Hid (w.alloc (.cells #[.string ⟨#[]⟩,.slice none 0 0,.slice none 0 0,.slice none 0 0] 26)=w0):=Za (by rw[hw0];rfl);have hgo:=Za hgR.symm;obtain⟨L,hL⟩:∃y,y=b.length:=⟨_,rfl⟩;rw[←hL];have hL':=Za hL;clear hb0 hH0 hw0 hgR hby hb hL;go_enter Tryz.func13,Tryz.ntmps13;go_wp2_with fail;rw[hfo.out,hgo.out];refine(mname_any w0 kk).mono ?_
 rintro e w1 ⟨⟨s,rfl,hs⟩,hb1⟩;have cT:=mtext_any b w1 A c (Row.more (Row.below hby'.out hb1) hb1.size) hl kk hkk;rw[←hL'.out]at cT;replace cT:=Za cT;have hB1:=Za (hB0.out.trans (hb1.mono hB0.out.size));have hR1:=Za (hR0.out.below hb1 hR0.out.lt);clear hb1 hfo hgo;go_wp2_with fail;refine cT.out.mono ?_;clear cT;rintro e w2 ⟨⟨t,rfl,ht⟩,hb2⟩
 have hB2:=hB1.out.trans (hb2.mono hB1.out.size);have hR2:=hR1.out.below hb2 hR1.out.lt;obtain⟨u,rfl⟩:=strV_back s;rw[oK]at hs;have hb3:=aA w2 (.cells #[.string (ay u),.string t] 102);have hH3:=Holds.new w2 102 #[.string (ay u),.string t];obtain⟨w3,hw3⟩:∃y,y=w2.alloc (.cells #[.string (ay u),.string t] 102):=⟨_,rfl⟩
 obtain⟨g3,hg3⟩:∃y,y=w2.heap.size:=⟨_,rfl⟩;rw[←hw3]at hb3 hH3;rw[←hg3]at hH3;have cP:=Za (program_one w3 g3 u t hs ht (hH3.cell 0) (hH3.cell 1));have hB3:=Za (hB2.trans (hb3.mono hB2.size));have hR3:=Za (hR2.below hb3 hR2.lt);have hfo:=Za hw3.symm;have hgo:=Za hg3.symm;clear hb2 hB2 hR2 hb3 hH3 hw3 hg3 hB1 hR1 hB0 hR0 hby';go_wp2_with fail
 rw[hfo.out,hgo.out];refine cP.out.mono ?_;clear cP hfo hgo;rintro e w4 ⟨v,rfl,hF,hb4⟩;have hB4:=hB3.out.trans (hb4.mono hB3.out.size);have hR4:=hR3.out.below hb4 hR3.out.lt;obtain⟨An,nn,cn,rfl⟩:=hF.slice;have hb5:=aA w4 (.cells #[.slice none 0 0,.slice none 0 0,.slice An nn cn] 97);have hH5:=Holds.new w4 97 #[.slice none 0 0,.slice none 0 0,.slice An nn cn]
 obtain⟨w5,hw5⟩:∃y,y=w4.alloc (.cells #[.slice none 0 0,.slice none 0 0,.slice An nn cn] 97):=⟨_,rfl⟩;obtain⟨g5,hg5⟩:∃y,y=w4.heap.size:=⟨_,rfl⟩;rw[←hw5]at hb5 hH5;rw[←hg5]at hH5;have hB5:=hB4.trans (hb5.mono hB4.size);have hR5:=hR4.below hb5 hR4.lt;have hF5:=hF.below hb5;have hfo:=Za hw5.symm;have hgo:=Za hg5.symm
 have p2:w5.cell? ⟨g5,2,none⟩=some (.slice An nn cn):=hH5.cell 2;have pl:=hH5.lt;have rl:=hR5.lt;have r0:w5.cell? ⟨gR,0,none⟩=some (.string ⟨#[]⟩):=hR5.cell 0;have r1:w5.cell? ⟨gR,1,none⟩=some (.slice none 0 0):=hR5.cell 1;have r2:w5.cell? ⟨gR,2,none⟩=some (.slice none 0 0):=hR5.cell 2;have r3:w5.cell? ⟨gR,3,none⟩=some (.slice none 0 0):=hR5.cell 3
 have z0:=hR5.frozen 0;have z1:=hR5.frozen 1;have z2:=hR5.frozen 2;have z3:=hR5.frozen 3;have hN:=Za (NoN.of rfl rfl rfl rfl hR5);have hR5':=Za hR5;have hB5':=Za hB5;clear hw5 hg5 hb4 hB4 hR4 hF hb5 hH5 hB5 hR5 hB3 hR3;rcases hF5 with h| ⟨q,cq,r,A1,A2,A3,n1,n2,n3,c1,c2,c3,h,hr,hF,hT⟩
 ·injection h with h1 h2 h3;subst h1 h2 h3;go_upto_region 2 with(fail);rw[hfo.out,hgo.out];clear hfo hgo;go_wp2_with fail;have hW:=dU w5 gR (.string ⟨#[]⟩) (.slice none 0 0) (.slice none 0 0) (.slice none 0 0);refine ret_cell1 rfl rfl rfl (hR5'.out.vP _ _ _ _) Tryz.underlying26 Tryz.sFunc ?_
  exact⟨Fnc.none,none,none,none,0,0,0,0,0,0,rfl,eP.none_ _ _,hB5'.out.trans (hW.below hB5'.out.size fun k hk=>by simp at hk;omega),.inl rfl⟩
 ·injection h with h1 h2 h3;subst h1 h2 h3;obtain⟨qb,qo,e1,hqb,hqc⟩:=hr (by simp);injection e1 with e1;injection e1 with e1 e2;subst e1 e2;have q0:w5.cell? ⟨q,0,none⟩=some (.string (ay r.nm)):=hqc 0 _ rfl;have q1:w5.cell? ⟨q,1,none⟩=some (.slice A1 n1 c1):=hqc 1 _ rfl;have q2:w5.cell? ⟨q,2,none⟩=some (.slice A2 n2 c2):=hqc 2 _ rfl
  have q3:w5.cell? ⟨q,3,none⟩=some (.slice A3 n3 c3):=hqc 3 _ rfl;have hF':=Za hF;have hT':=Za hT;clear hqc hr hF hT;go_upto_region 2 with(fail);rw[hfo.out,hgo.out];clear hfo hgo;go_wp2_with fail;have hW:=dU w5 gR (.string (ay r.nm)) (.slice A1 n1 c1) (.slice A2 n2 c2) (.slice A3 n3 c3);refine ret_cell1 rfl rfl rfl (hR5'.out.vP _ _ _ _) Tryz.underlying26 Tryz.sFunc ?_
  exact⟨r,A1,A2,A3,n1,n2,n3,c1,c2,c3,rfl,hF'.out.stored hN.out hW,hB5'.out.trans (hW.below hB5'.out.size fun k hk=>by simp at hk;omega),.inr hT'.out⟩
end Go.Proofs.YtpndglghpojjkaaGreat
