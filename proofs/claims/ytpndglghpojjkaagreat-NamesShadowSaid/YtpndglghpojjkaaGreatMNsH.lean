/-
  The reference's Has.
-/
import Derived.Test.YtpndglghpojjkaaGreatPma9
import Derived.Test.YtpndglghpojjkaaGreatPmd1
import Derived.Test.YtpndglghpojjkaaGreatPma2
set_option maxRecDepth 1000000
set_option maxHeartbeats 8000000

namespace Go.Proofs.YtpndglghpojjkaaGreat
open Go.RowKit

set_option maxHeartbeats 2000000 in
theorem has_any (w:World) (A:Option Addr) (n c:Nat) (l:List S) (x:S) (hn:l.length=n) (hm:n≤100000) (hr:Row w w.heap.size A (l.map encStr)):
  Calls Tryz.prog 20 #[.slice A n c,encStr x] w fun e w'=>e= .returned (.bool (decide (x∈l)))∧w'=w:=by
 have hn':=Lib.hid hn;have hr':=Lib.hid hr;clear hn hr;go_enter Tryz.func20,Tryz.ntmps20;go_wp2_with fail
 go_loop [5] (fun i=>∃k:Nat,k≤n∧i= .int .i64 k∧x∉l.take k) (fun i=>n-(intOf i).toNat)
 case atStart=>exact⟨0,Nat.zero_le _,rfl,by simp⟩
 obtain⟨k,hk,rfl,hno⟩:=hrel;have hno:=Lib.hid hno;rename_i u1;clear u1;by_cases hlt:k<n
 ·have hlt2:k<l.length:=by rw[hn'.out];exact hlt
  obtain⟨b,off,rfl,_,hcell⟩:=hr'.out.at_ (k:=k) (by simpa using hlt2);rw[List.getElem_map]at hcell;have hmem:=Lib.hid (List.getElem_mem hlt2);have htk:=Lib.hid (List.take_succ_eq_append_getElem hlt2);generalize l[k]=y at hcell hmem htk;by_cases hxy:y=x
  ·subst hxy;have hd:Hid (decide (y∈l)=true):=Lib.hid (by simpa using hmem.out);go_wp2_with fail;go_ret;exact⟨by rw[hd.out];rfl,rfl⟩
  ·have hbq:(y==x)=false:=by simpa using hxy
   have hxy2:=Lib.hid hxy;clear hxy;go_wp2_with fail;go_round
   case rel=>exact⟨k+1,by omega,by go_num,by
    rw[htk.out];intro h;rcases List.mem_append.1 h with h|h
    ·exact hno.out h
    ·simp at h
     exact hxy2.out h.symm⟩
   case measure=>simp[intOf];omega
 ·obtain rfl:k=n:=by omega
  have hd:Hid (decide (x∈l)=false):=Lib.hid (by
   have:=hno.out;rw[show l.take k=l by rw[←hn'.out,List.take_length]]at this
   simpa using this)
  go_wp2_with fail;go_ret;exact⟨by rw[hd.out];rfl,rfl⟩
end Go.Proofs.YtpndglghpojjkaaGreat
