/- What is proved here: the statement TopSubtitlesComeTogether where what it reads is of bulk at most 1048576: the law returns true, and each argument reads as it did; tied to the program's text where variables are listed. -/
import Derived.Lib.AtoiAll
import Derived.Lib.AtoiAllCases
import Derived.Lib.ItoaMem
import Derived.Handy
import Derived.BigGuard
import Derived.WalkKit
import Derived.Lib.Walk
import Derived.BigCall
import Derived.Lib.AtoiErrMem
import Derived.Lib.Repeat
import Derived.Lib.LaidU8
import Derived.MakeChecks
import Derived.Shelf.Vars
import Derived.Test.YtbeobbjiogbdlaaGreatDoorRows
import Derived.Test.YtbeobbjiogbdlaaGreatDoorChecked
import Derived.Test.YtbeobbjiogbdlaaGreatDoorCards
import Derived.Test.YtbeobbjiogbdlaaGreatDoorTie
import Derived.SevenTiedAt
import Derived.Lay
import Derived.Test.YtbeobbjiogbdlaaGreatDoorE2X6

namespace Go.Proofs.YtbeobbjiogbdlaaGreatDoor
open Go Go.RowKit
set_option linter.unusedVariables false
set_option linter.unusedSimpArgs false
set_option maxHeartbeats 1000000

namespace M

theorem nk_mul {j k l m n:Nat} (h1:m<10000 ^ j) (h2:n<10000 ^ k) (h:j+k≤l):F.nk l (F.lb (m*n))=true:=F.nk_lb (F.lb_lt (F.mul_lt h1 h2) h)

theorem nk_lt {k:Nat} {l:List Int} (h:F.nk k l=true):F.nv l<10000 ^ k:=by
 obtain⟨m,rfl,hm⟩:=F.nk_of h
 rw[F.nv_lb];exact hm

def stDvi (a:List Int) (b:List Int) (out:List Int) (r:List Int) (i:Int) (lo:Nat) (hi:Nat):St:=⟨[(11,vI hi),(10,vI lo),(8,vI i),(7, .sl (r.map eI)),(6, .own 15),(1, .sl (b.map eI)),(0, .sl (a.map eI))],[(15,⟨false,3,1,out.map eI⟩)]⟩

def stDvi1 (a:(List Int)×(List Int)×(List Int)×(List Int)×Int×Nat×Nat):St:=stDvi a.1 a.2.1 a.2.2.1 a.2.2.2.1 a.2.2.2.2.1 a.2.2.2.2.2.1 a.2.2.2.2.2.2

theorem stDvi_inj (a a':(List Int)×(List Int)×(List Int)×(List Int)×Int×Nat×Nat) (h:stDvi1 a=stDvi1 a'):a=a':=by
 simp only[stDvi1,stDvi]at h
 try simp[ints_inj]at h
 grind

theorem unstDvi0 (a:List Int) (b:List Int) (out:List Int) (r:List Int) (i:Int)  : unenc stDvi1 (St.mk [(11,(vI (9999:Int))),(10,(vI (0:Int))),(8,(vI i)),(7,AV.sl (List.map eI r)),(6, .own 15),(1,AV.sl (List.map eI b)),(0,AV.sl (List.map eI a))] [(15,
 Blk.mk false 3 1 (List.map eI out))])=some (a,b,out,r,i,0,9999):=unenc_of stDvi_inj (a,b,out,r,i,0,9999) rfl

def outDvi (a:List Int) (b:List Int) (out:List Int) (r:List Int) (i:Int) (lo:Nat) (hi:Nat):T (Ex×St):= .ret (.exit 2,⟨[(10,vI (F.nv r / F.nv b:Nat)),(8,vI i),(7, .sl (r.map eI)),(6, .own 15),(1, .sl (b.map eI)),(0, .sl (a.map eI))],[(15,⟨false,3,1,out.map eI⟩)]⟩)

noncomputable def prlDvi (a:List Int) (b:List Int) (out:List Int) (r:List Int) (i:Int) (lo:Nat) (hi:Nat):Bool:=F.nk 200 b&&decide (0<F.nv b)&&F.nk 201 r&&decide (lo≤F.nv r / F.nv b)&&decide (F.nv r / F.nv b≤hi)&&decide (hi≤9999)

noncomputable def lpDvi:Nat×(St→T (Ex×St)):=(10,lpo [11,10,8,7,6,1,0] [15] stDvi1 (fun a=>prlDvi a.1 a.2.1 a.2.2.1 a.2.2.2.1 a.2.2.2.2.1 a.2.2.2.2.2.1 a.2.2.2.2.2.2) fun a=>outDvi a.1 a.2.1 a.2.2.1 a.2.2.2.1 a.2.2.2.2.1 a.2.2.2.2.2.1 a.2.2.2.2.2.2)

def stDv (a:List Int) (b:List Int) (out:List Int) (i:Int):St:=⟨[(8,vI i),(7, .own 7),(6, .own 15),(1, .sl (b.map eI)),(0, .sl (a.map eI))],[(15,⟨false,3,1,out.map eI⟩),(7,⟨false,3,1,[]⟩)]⟩

def stDv1 (a:(List Int)×(List Int)×(List Int)×Int):St:=stDv a.1 a.2.1 a.2.2.1 a.2.2.2

theorem stDv_inj (a a':(List Int)×(List Int)×(List Int)×Int) (h:stDv1 a=stDv1 a'):a=a':=by
 simp only[stDv1,stDv]at h
 try simp[ints_inj]at h
 grind

theorem unstDv (a:List Int) (b:List Int) (out:List Int) (i:Int):unenc stDv1 (St.mk [(8,(vI i)),(7, .own 7),(6, .own 15),(1,AV.sl (List.map eI b)),(0,AV.sl (List.map eI a))] [(15,Blk.mk false 3 1 (List.map eI out)),(7,Blk.mk false 3 1 [])])=some (a,b,out,i):=unenc_of stDv_inj (a,b,out,i) rfl

def outDv (a : List Int) (b : List Int) (out : List Int) (i : Int) : T (Ex × St) := .ifB (decide (i < 0)) (.ret (.exit 0, ⟨[(7, .own 7), (6, .own 15)], [(15, ⟨false, 3, 1, []⟩), (7, ⟨false, 3, 1, []⟩)]⟩))
      (.ret (.exit 0, ⟨[(7, .sl ((F.lb (F.dqo (F.nv b) a).2).map eI)), (6, .own 15)], [(15, ⟨false, 3, 1, (F.dqo (F.nv b) a).1.map eI⟩)]⟩))

noncomputable def prlDv (a:List Int) (b:List Int) (out:List Int) (i:Int):Bool:=F.nk 200 a&&F.nk 200 b&&decide (0<F.nv b)&&decide (out=List.replicate a.length 0)&&decide (i=(a.length:Int) - 1)

noncomputable def lpDv:Nat×(St→T (Ex×St)):=(4,lpo [8,7,6,1,0] [15,7] stDv1 (fun a=>prlDv a.1 a.2.1 a.2.2.1 a.2.2.2) fun a=>outDv a.1 a.2.1 a.2.2.1 a.2.2.2)

noncomputable def enDv:Env:=envH ty noG lks [oTrm,oSml,oCpr,oLes] [] [] [lpDv,lpDvi]

theorem enDv_ok:EnvOK Tryz.prog enDv:=by
 refine envH_ok lks_ok ty_ok ?_ ?_
 ·simp only[List.forall_mem_cons]
  exact⟨okTrm,okSml,okCpr,okLes,by simp⟩
 ·simp

theorem evDviL (a:List Int) (b:List Int) (out:List Int) (r:List Int) (i:Int) (lo:Nat) (hi:Nat):((exec enDv (loopN Tryz.f206 1) (stDvi a b out r i lo hi)).bind (lessX ([11,10,8,7,6,1,0],[15]) ([10,8,7,6,1,0],[15]) ([],[]))).val =
 bif decide ((↑lo:Int)<(↑hi:Int)) then Option.bind (unenc encSml [AV.sl (List.map eI b),(vI (IntKind.i64.wrap (Int.tdiv (IntKind.wrap IntKind.i64
 (IntKind.i64.wrap ((↑lo:Int)+(↑hi:Int))+1)) (2:Int))))]) fun z=>bif F.nk (300:Nat) z.1&&decide ((0:Int)≤z.2) &&
 decide (z.2≤9999) then Option.bind (unenc encCpr [AV.sl (List.map eI (F.lb (F.nv z.1*Int.toNat z.2))),AV.sl (List.map eI r)]) fun z=>bif F.nk (1000:Nat) z.1&&F.nk (1000:Nat) z.2 then bif decide (F.sgnL (↑(F.nv z.1):Int) (↑(F.nv z.2):Int)≤0) then some (Ex.normal,St.mk
 [(11,(vI (↑hi:Int))),(10,(vI (IntKind.i64.wrap (Int.tdiv (IntKind.i64.wrap (IntKind.i64.wrap ((↑lo:Int)+(↑hi:Int))+1)) (2 :
 Int))))),(8,(vI i)),(7,AV.sl (List.map eI r)),(6, .own 15),(1,AV.sl (List.map eI b)),(0,AV.sl (List.map eI a))] [(15,Blk.mk false 3 1 (List.map eI out))]) else
 some (Ex.normal,St.mk [(11,(vI (IntKind.i64.wrap (IntKind.i64.wrap (Int.tdiv (IntKind.i64.wrap (IntKind.i64.wrap ((↑lo:Int)+(↑hi :
 Int))+1)) (2:Int)) - (1:Int))))),(10,(vI (↑lo:Int))),(8,(vI i)),(7,AV.sl (List.map eI r)),(6, .own 15),(1,AV.sl (List.map eI b)),(0,AV.sl
 (List.map eI a))] [(15,Blk.mk false 3 1 (List.map eI out))]) else none else none else some (Ex.exit (2:Nat),St.mk [(10,(vI (↑lo:Int))),(8,(vI i)),(7,AV.sl
 (List.map eI r)),(6, .own 15),(1,AV.sl (List.map eI b)),(0,AV.sl (List.map eI a))] [(15,Blk.mk false 3 1 (List.map eI out))]):=(execR_bind _ _ _).symm.trans (by kernel_rfl)

theorem lpDvi_ok (a:List Int) (b:List Int) (out:List Int) (r:List Int) (i:Int) (lo:Nat) (hi:Nat) (hp:prlDvi a b out r i lo hi=true) : ∀ex s',(outDvi a b out r i lo hi).val=some (ex,s')→LoopOK enDv (loopN Tryz.f206 1) (stDvi a b out r i lo hi) ex s':=by
 simp only[prlDvi,Bool.and_eq_true,decide_eq_true_eq]at hp
 obtain⟨⟨⟨⟨⟨h1,h2⟩,h3⟩,h4⟩,h5⟩,h6⟩:=hp
 have n1:=nk_up h1 (by decide:200≤300)
 have n2:=nk_up h3 (by decide:201≤1000)
 have hbv:=nk_lt h1
 generalize hqe:F.nv r / F.nv b=q at h4 h5
 refine loop_gen (st:=fun p:Nat×Nat=>stDvi a b out r i p.1 p.2) (out:=fun p=>outDvi a b out r i p.1 p.2) (I:=fun p=>p.1≤q∧q≤p.2∧p.2≤9999) (n:=([11,10,8,7,6,1,0],[15])) (e:=([10,8,7,6,1,0],[15])) (r:=([],[])) (fun p=>p.2 - p.1) ?_ (lo,hi) ⟨h4,h5,h6⟩
 clear h4 h5 h6
 rintro⟨lo,hi⟩ ⟨g1,g2,g3⟩
 simp only at g1 g2 g3
 by_cases hlt:lo<hi
 ·right
  obtain⟨m,hm⟩ : ∃m,m=(lo+hi+1) / 2:=⟨_,rfl⟩
  have hm1:lo<m:=by omega
  have hm2:m≤hi:=by omega
  have w1:IntKind.i64.wrap ((lo:Int)+(hi:Int))=((lo+hi:Nat):Int):=by rw[wrap_id (by omega) (by omega)];rfl
  have w2:IntKind.i64.wrap (((lo+hi:Nat):Int)+1)=((lo+hi+1:Nat):Int):=by rw[wrap_id (by omega) (by omega)];rfl
  have w3:(((lo+hi+1:Nat):Int)).tdiv 2=((m:Nat):Int):=by rw[Int.tdiv_eq_ediv_of_nonneg (by omega)];omega
  have w4:IntKind.i64.wrap ((m:Nat):Int)=(m:Int):=wrap_id (by omega) (by omega)
  have w5:IntKind.i64.wrap ((m:Int) - 1)=((m - 1:Nat):Int):=by rw[wrap_id (by omega) (by omega)];omega
  have p1:decide ((0:Int)≤(m:Int))=true:=decide_eq_true (by omega)
  have p2:decide ((m:Int)≤9999)=true:=decide_eq_true (by omega)
  have k1:F.nk 1000 (F.lb (F.nv b*m))=true:=nk_mul (k:=1) hbv (by omega) (by decide)
  have hs:=F.sgnL_le (F.nv b*m) (F.nv r)
  have hd:=F.div_le (b:=F.nv b) (R:=F.nv r) (mid:=m) h2
  rw[hqe]at hd
  by_cases hc:m≤q
  ·refine⟨(m,hi),?_,rfl,⟨hc,g2,g3⟩,by simp only;omega,rfl⟩
   rw[decide_eq_true (hd.2 hc)]at hs
   rw[evDviL]
   simp only[unSml,unCpr,Option.bind_some,cond_true,Bool.and_true,cast_lt hlt,w1,w2,w3,w4,n1,n2,p1,p2,Int.toNat_natCast,k1,F.nv_lb,hs,stDvi]
  ·refine⟨(lo,m - 1),?_,rfl,⟨g1,by simp only;omega,by simp only;omega⟩,by simp only;omega,rfl⟩
   rw[decide_eq_false (fun h=>hc (hd.1 h))]at hs
   rw[evDviL]
   simp only[unSml,unCpr,Option.bind_some,cond_true,cond_false,Bool.and_true,cast_lt hlt,w1,w2,w3,w4,w5,n1,n2,p1,p2,Int.toNat_natCast,k1,F.nv_lb,hs,stDvi]
 ·have hk:lo=q:=by omega
  left
  refine⟨(.exit 2,⟨[(10,vI lo),(8,vI i),(7, .sl (r.map eI)),(6, .own 15),(1, .sl (b.map eI)),(0, .sl (a.map eI))],[(15,⟨false,3,1,out.map eI⟩)]⟩),?_,?_,by simp,rfl⟩
  ·have c2 : ¬(lo:Int)<(hi:Int):=by omega
   rw[evDviL]
   simp only[unSml,unCpr,Option.bind_some,cond_false,decide_eq_false c2]
  ·simp only[outDvi,hqe,hk]
   rfl

end M

theorem F.dqo_step {B:Nat} (hB:0<B) {x:Int} {l:List Int} (hx:0≤x∧x≤9999) (hl:F.okLm l) :
  F.trimL (x::F.lb (F.dqo B l).2)=F.lb (x.toNat+10000*(F.dqo B l).2)∧(x.toNat+10000*(F.dqo B l).2) / B≤9999∧x.toNat+10000*(F.dqo B l).2<10000*B ∧
  B*((x.toNat+10000*(F.dqo B l).2) / B)≤x.toNat+10000*(F.dqo B l).2 ∧
  x.toNat+10000*(F.dqo B l).2 - B*((x.toNat+10000*(F.dqo B l).2) / B)=(F.dqo B (x::l)).2:=by
 have hr:(F.dqo B l).2<B:=by rw[(F.dqo_eq hB hl).2.2.1];exact Nat.mod_lt _ hB
 have hlt:x.toNat+10000*(F.dqo B l).2<10000*B:=by omega
 have e:=Nat.div_add_mod (x.toNat+10000*(F.dqo B l).2) B
 refine⟨?_,?_,hlt,?_,?_⟩
 ·have:=F.trimL_cons (x:=x.toNat) (r:=(F.dqo B l).2) (by omega)
  rwa[Int.toNat_of_nonneg hx.1]at this
 ·have:=(Nat.div_lt_iff_lt_mul (k:=B) (x:=x.toNat+10000*(F.dqo B l).2) (y:=10000) hB).2 hlt
  omega
 ·omega
 ·rw[F.dqo];show _=_ % B;omega

theorem F.set_rep (n:Nat) (v:Int) (D:List Int):(List.replicate (n+1) (0:Int)++D).set n v=List.replicate n 0++v::D:=by
 rw[List.replicate_succ',List.append_assoc,List.set_append_right _ _ (by simp),List.length_replicate,Nat.sub_self]
 rfl

namespace M

theorem unTrm_c (x:Int) (l:List Int):unenc encTrm [.sl ([vI x]::l.map eI)]=some (x::l):=unTrm (x::l)

def stDvS (a b out rs:List Int) (i:Int):St:=⟨[(8,vI i),(7, .sl (rs.map eI)),(6, .own 15),(1, .sl (b.map eI)),(0, .sl (a.map eI))],[(15,⟨false,3,1,out.map eI⟩)]⟩

theorem evDvS (a b out rs:List Int) (i:Int):((exec enDv (loopN Tryz.f206 0) (stDvS a b out rs i)).bind (lessX ([8,7,6,1,0],[15,7]) ([7,6],[15,7]) ([],[]))).val =
 bif decide ((0:Int)≤i) then Option.bind (idx i) fun z=>Option.bind (unenc (List.map eI) (List.map eI a)) fun z_1=>bif decide (z<List.length
 z_1) then bif Nat.ble (((1:Nat)+List.length (List.map eI rs))*8) 140737488355328&&List.all (List.map eI rs) fun(r:Row)=>Nat.beq (List.length
 r) (TI.mk false (1:Nat) [] [AV.e0] (3:Nat) (1:Nat) (8:Nat) [(vI 0)] none (4:Nat) []).esize then Option.bind (unenc encTrm [AV.sl ([(vI (List.getD z_1 z
 (0:Int)))]::List.map eI rs)]) fun z=>bif decide (List.length z≤100000) then Option.bind (unenc stDvi1 (St.mk [(11,(vI 9999)),(10,
 (vI 0)),(8,(vI i)),(7,AV.sl (List.map eI (F.trimL z))),(6, .own 15),(1,AV.sl (List.map eI b)),(0,AV.sl (List.map eI a))] [(15,Blk.mk false 3 1 (List.map
 eI out))])) fun z=>(fun(q:Nat×Nat)=>(fun(q_1:Nat)=>(fun(q_2:List AV)=>bif F.nk (200 :
 Nat) z.2.1&&decide ((0:Nat)<F.nv z.2.1)&&F.nk (201:Nat) z.2.2.2.1&&decide (q.fst≤q_1)&&decide (q_1≤q.snd)&&decide (q.snd≤9999)&&true then Option.bind (idx z.2.2.2.2.1) fun z_2=>bif decide (z_2<List.length (Blk.mk false 3 1 (List.map eI z.2.2.1)).rows) then
 Option.bind (unenc (List.map eI) (List.map eI z.2.2.1)) fun z_3=>bif decide (z_2<List.length z_3) then Option.bind (unenc encSml (AV.sl (List.map eI
 z.2.1)::q_2)) fun z_4=>bif F.nk (300:Nat) z_4.1&&decide ((0:Int)≤z_4.2)&&decide (z_4.2≤9999) then Option.bind (unenc
 encLes [AV.sl (List.map eI z.2.2.2.1),AV.sl (List.map eI (F.lb (F.nv z_4.1*Int.toNat z_4.2)))]) fun z_5=>bif F.nk (1000:Nat)
 z_5.1&&F.nk (1000:Nat) z_5.2&&decide (F.nv z_5.2≤F.nv z_5.1) then some (Ex.normal,St.mk [(8,(vI (IntKind.i64.wrap (z.2.2.2.2.1 - (1 :
 Int))))),(7,AV.sl (List.map eI (F.lb (F.nv z_5.1 - F.nv z_5.2)))),(6, .own 15),(1,AV.sl (List.map eI z.2.1)),(0,AV.sl (List.map eI z.1))] [(15,Blk.mk
 false 3 1 (List.set (List.map eI z.2.2.1) z_2 q_2))]) else none else none else none else none else none) [(vI (↑(Nat.div (F.nv z.2.2.2.1) (F.nv z.2.1)) :
 Int))]) (F.nv z.2.2.2.1 / F.nv z.2.1)) z.2.2.2.2.2 else none else none else none else some (Ex.exit (0:Nat),St.mk [(7,AV.sl (List.map eI rs)),
 (6, .own 15)] [(15,Blk.mk false 3 1 (List.map eI out))]):=(execR_bind _ _ _).symm.trans (by kernel_rfl)

theorem evDvN (a b out:List Int) (i:Int):((exec enDv (loopN Tryz.f206 0) (stDv a b out i)).bind (lessX ([8,7,6,1,0],[15,7]) ([7,6],[15,7]) ([],[]))).val =
 bif decide ((0:Int)≤i) then Option.bind (idx i) fun z=>Option.bind (unenc (List.map eI) (List.map eI a)) fun z_1=>bif decide (z<List.length
 z_1) then Option.bind (unenc encTrm [AV.sl [[(vI (List.getD z_1 z 0))]]]) fun z=>bif decide (List.length z≤100000) then Option.bind (unenc
 stDvi1 (St.mk [(11,(vI 9999)),(10,(vI 0)),(8,(vI i)),(7,AV.sl (List.map eI (F.trimL z))),(6, .own 15),(1,AV.sl (List.map eI b)),(0,AV.sl
 (List.map eI a))] [(15,Blk.mk false 3 1 (List.map eI out))])) fun z=>(fun(q:Nat×Nat)=>(fun(q_1 :
 Nat)=>(fun(q_2:List AV)=>bif F.nk (200:Nat) z.2.1&&decide ((0:Nat)<F.nv z.2.1)&&F.nk (201:Nat) z.2.2.2.1&&decide (q.fst≤q_1) &&
 decide (q_1≤q.snd)&&decide (q.snd≤9999)&&true then Option.bind (idx z.2.2.2.2.1) fun z_2=>bif decide (z_2<List.length (Blk.mk false 3
 1 (List.map eI z.2.2.1)).rows) then Option.bind (unenc (List.map eI) (List.map eI z.2.2.1)) fun z_3=>bif decide (z_2<List.length z_3) then
 Option.bind (unenc encSml (AV.sl (List.map eI z.2.1)::q_2)) fun z_4=>bif F.nk (300:Nat) z_4.1&&decide ((0:Int)≤z_4.2)&&decide
 (z_4.2≤9999) then Option.bind (unenc encLes [AV.sl (List.map eI z.2.2.2.1),AV.sl (List.map eI (F.lb (F.nv z_4.1*Int.toNat z_4.2)))]) fun(z_5 :
 List Int×List Int)=>bif F.nk (1000:Nat) z_5.1&&F.nk (1000:Nat) z_5.2&&decide (F.nv z_5.2≤F.nv z_5.1) then some (Ex.normal,St.mk [(8,(vI
 (IntKind.i64.wrap (z.2.2.2.2.1 - (1:Int))))),(7,AV.sl (List.map eI (F.lb (F.nv z_5.1 - F.nv z_5.2)))),(6, .own 15),(1,AV.sl (List.map eI
 z.2.1)),(0,AV.sl (List.map eI z.1))] [(15,Blk.mk false 3 1 (List.set (List.map eI z.2.2.1) z_2 q_2))]) else none else none else none else none else none)
 [(vI (↑(Nat.div (F.nv z.2.2.2.1) (F.nv z.2.1)):Int))]) (F.nv z.2.2.2.1 / F.nv z.2.1)) z.2.2.2.2.2 else none else none else some
 (Ex.exit (0:Nat),St.mk [(7, .own 7),(6, .own 15)] [(15,Blk.mk false 3 1 (List.map eI out)),(7,Blk.mk false 3 1 [])]):=(execR_bind _ _ _).symm.trans (by kernel_rfl)

def stDx (a b:List Int):Option Nat→St
 | none=>stDv a b (List.replicate a.length 0) ((a.length:Int) - 1)
 | some n=>stDvS a b (List.replicate n 0++(F.dqo (F.nv b) (a.drop n)).1) (F.lb (F.dqo (F.nv b) (a.drop n)).2) ((n:Int) - 1)

def outDx (a b:List Int):Option Nat→T (Ex×St)
 | none=>outDv a b (List.replicate a.length 0) ((a.length:Int) - 1)
 | some n=> .ret (.exit 0,⟨[(7, .sl ((F.lb (F.dqo (F.nv b) a).2).map eI)),(6, .own 15)],[(15,⟨false,3,1,(F.dqo (F.nv b) a).1.map eI⟩)]⟩)

theorem dv_step {a b:List Int} (h1:F.nk 200 a=true) (h2:F.nk 200 b=true) (h3:0<F.nv b) {n:Nat} (hlt:n<a.length) (rs:List Int) (hrs:rs=F.lb (F.dqo (F.nv b) (a.drop (n+1))).2) (out:List Int) (ho:out=List.replicate (n+1) 0++(F.dqo (F.nv b) (a.drop (n+1))).1) :
  ((exec enDv (loopN Tryz.f206 0) (stDvS a b out rs n)).bind (lessX ([8,7,6,1,0],[15,7]) ([7,6],[15,7]) ([],[]))).val=some (.normal,stDx a b (some n)) ∧
  (rs=[]→((exec enDv (loopN Tryz.f206 0) (stDv a b out n)).bind (lessX ([8,7,6,1,0],[15,7]) ([7,6],[15,7]) ([],[]))).val=some (.normal,stDx a b (some n))):=by
 have l1:=F.nk_len h1
 have o1:=F.nk_ok h1
 have n2:=nk_up h2 (by decide:200≤300)
 have hbv:=nk_lt h2
 have hx:a[n]? = some a[n]:=List.getElem?_eq_getElem hlt
 have hxo:=o1 _ (List.getElem_mem hlt)
 generalize hxe:a[n]=x at hx hxo
 obtain⟨q1,q2,q3,q4,q5⟩:=F.dqo_step h3 hxo (F.okLm_drop (n+1) o1)
 have hD:(F.dqo (F.nv b) (x::a.drop (n+1))).1=(((x.toNat+10000*(F.dqo (F.nv b) (a.drop (n+1))).2) / F.nv b:Nat):Int)::(F.dqo (F.nv b) (a.drop (n+1))).1:=by rw[F.dqo]
 have hdl:(F.dqo (F.nv b) (a.drop (n+1))).1.length+(n+1)=a.length:=by
  rw[(F.dqo_eq h3 (F.okLm_drop (n+1) o1)).2.2.2,List.length_drop];omega
 have hset:=F.set_rep n (((x.toNat+10000*(F.dqo (F.nv b) (a.drop (n+1))).2) / F.nv b:Nat):Int) (F.dqo (F.nv b) (a.drop (n+1))).1
 rw[←ho,←hD,←drop_y hx]at hset
 rw[←hrs]at q1
 rw[←drop_y hx]at q5
 have hol:out.length=a.length:=by rw[ho,List.length_append,List.length_replicate];omega
 have hrl:rs.length≤200:=by
  rw[hrs]
  refine F.lb_len ?_
  have:(F.dqo (F.nv b) (a.drop (n+1))).2<F.nv b:=by rw[(F.dqo_eq h3 (F.okLm_drop (n+1) o1)).2.2.1];exact Nat.mod_lt _ h3
  omega
 generalize hy:x.toNat+10000*(F.dqo (F.nv b) (a.drop (n+1))).2=y at q1 q2 q3 q4 q5 hset
 generalize hqe:y / F.nv b=q at q2 q4 q5 hset
 have hylt:y<10000 ^ 1*10000 ^ 200:=by rw[Nat.pow_one];exact Nat.lt_of_lt_of_le q3 (Nat.mul_le_mul_left _ (Nat.le_of_lt hbv))
 have k201:F.nk 201 (F.lb y)=true:=F.nk_lb (by rw[←Nat.pow_add]at hylt;exact F.lb_lt hylt (by decide))
 have k1000:=nk_up k201 (by decide:201≤1000)
 have k1000b:F.nk 1000 (F.lb (F.nv b*q))=true:=nk_mul (k:=1) hbv (by omega) (by decide)
 have hi0:decide ((0:Int)≤(n:Int))=true:=decide_eq_true (by omega)
 have i2:idx (n:Int)=some n:=idx_n (by omega)
 have hbr:Nat.ble ((1+rs.length)*8) 140737488355328=true:=ble_t (by omega)
 have hall:((rs.map eI).all fun r=>(List.length r).beq 1)=true:=List.all_eq_true.2 fun r hr=>by
  obtain⟨x,_,rfl⟩:=List.mem_map.1 hr
  rfl
 have hc1:decide ((x::rs).length≤100000)=true:=decide_eq_true (by simp only[List.length_cons];omega)
 have hc2:decide (([x]:List Int).length≤100000)=true:=decide_eq_true (by simp)
 have hdv : ∀u v:Nat,Nat.div u v=u / v:=fun _ _=>rfl
 have hq9:decide (q≤9999)=true:=decide_eq_true q2
 have hz0:decide ((0:Int)≤(q:Int))=true:=decide_eq_true (by omega)
 have hz9:decide ((q:Int)≤9999)=true:=decide_eq_true (by omega)
 have hno:decide (n<out.length)=true:=decide_eq_true (by omega)
 have hle:decide (F.nv b*q≤y)=true:=decide_eq_true q4
 have hw:IntKind.i64.wrap ((n:Int) - 1)=(n:Int) - 1:=wrap_id (by omega) (by omega)
 refine⟨?_,fun he=>?_⟩
 ·rw[evDvS]
  simp only[unSml,unLes,unstDvi0,Option.bind_some,List.length_map,unInts,cond_true,Bool.and_true,Bool.true_and,hi0,i2,decide_eq_true hlt,getD_at hx,hbr,hall,unTrm_c,hc1,q1,h2,n2,decide_eq_true h3,k201,k1000,k1000b,hdv,hqe,F.nv_lb,hq9,hz0,hz9,hno,hle,q5,decide_true,Nat.zero_le,Nat.le_refl,Int.toNat_natCast,hw]
  rw[stDx,←hset,stDvS,List.map_set]
  rfl
 ·subst he
  rw[evDvN]
  simp only[unSml,unLes,unstDvi0,Option.bind_some,List.length_map,unInts,cond_true,Bool.and_true,Bool.true_and,hi0,i2,decide_eq_true hlt,getD_at hx,unTrm_1,hc2,q1,h2,n2,decide_eq_true h3,k201,k1000,k1000b,hdv,hqe,F.nv_lb,hq9,hz0,hz9,hno,hle,q5,decide_true,Nat.zero_le,Nat.le_refl,Int.toNat_natCast,hw]
  rw[stDx,←hset,stDvS,List.map_set]
  rfl

end M

namespace M

theorem dq_nil (B:Nat):F.dqo B []=([],0):=rfl

theorem lpDv_ok (a:List Int) (b:List Int) (out:List Int) (i:Int) (hp:prlDv a b out i=true) : ∀ex s',(outDv a b out i).val=some (ex,s')→LoopOK enDv (loopN Tryz.f206 0) (stDv a b out i) ex s':=by
 simp only[prlDv,Bool.and_eq_true,decide_eq_true_eq]at hp
 obtain⟨⟨⟨⟨h1,h2⟩,h3⟩,h4⟩,h5⟩:=hp
 subst h4 h5
 have l1:=F.nk_len h1
 refine loop_gen (st:=stDx a b) (out:=outDx a b) (I:=fun o=>∀n,o=some n→n<a.length) (n:=([8,7,6,1,0],[15,7])) (e:=([7,6],[15,7])) (r:=([],[])) (fun o=>match o with | none=>a.length+1 | some n=>n) ?_ none (fun n h=>by cases h)
 intro o ho
 cases o with
 | none=>
  by_cases hz:a.length=0
  ·left
   have ha:a=[]:=List.length_eq_zero_iff.1 hz
   subst ha
   refine⟨(.exit 0,⟨[(7, .own 7),(6, .own 15)],[(15,⟨false,3,1,[]⟩),(7,⟨false,3,1,[]⟩)]⟩),?_,rfl,by simp,rfl⟩
   show((exec enDv (loopN Tryz.f206 0) (stDv [] b (List.replicate 0 0) (-1))).bind _).val=_
   rw[evDvN]
   rfl
  ·right
   obtain⟨n,hn⟩ : ∃n,a.length=n+1:=⟨a.length - 1,by omega⟩
   have hd:a.drop (n+1)=[]:=List.drop_eq_nil_of_le (by omega)
   have e1:([]:List Int)=F.lb (F.dqo (F.nv b) (a.drop (n+1))).2:=by rw[hd,dq_nil,F.lb_zero]
   have e2:List.replicate (n+1) (0:Int)=List.replicate (n+1) 0++(F.dqo (F.nv b) (a.drop (n+1))).1:=by rw[hd,dq_nil];exact(List.append_nil _).symm
   have hs:=(dv_step h1 h2 h3 (n:=n) (by omega) [] e1 _ e2).2 rfl
   refine⟨some n,?_,?_,fun m h=>by cases h;omega,by simp only;omega,?_⟩
   ·have e:stDx a b none=stDv a b (List.replicate (n+1) 0) (n:Int):=by
     show stDv a b (List.replicate a.length 0) ((a.length:Int) - 1)=_
     rw[hn,show((n+1:Nat):Int) - 1=(n:Int) by omega]
    rw[e];exact hs
   ·rfl
   ·have hf:decide ((a.length:Int) - 1<0)=false:=decide_eq_false (by omega)
    simp only[outDx,outDv,hf]
    rfl
 | some m=>
  have hm:=ho m rfl
  cases m with
  | zero=>
   left
   refine⟨(.exit 0,⟨[(7, .sl ((F.lb (F.dqo (F.nv b) a).2).map eI)),(6, .own 15)],[(15,⟨false,3,1,(F.dqo (F.nv b) a).1.map eI⟩)]⟩),?_,rfl,by simp,rfl⟩
   show((exec enDv (loopN Tryz.f206 0) (stDvS a b (List.replicate 0 0++(F.dqo (F.nv b) (a.drop 0)).1) (F.lb (F.dqo (F.nv b) (a.drop 0)).2) (-1))).bind _).val=_
   rw[evDvS]
   rfl
  | succ n=>
   right
   have hs:=(dv_step h1 h2 h3 (n:=n) (by omega) _ rfl _ rfl).1
   refine⟨some n,?_,rfl,fun m h=>by cases h;omega,by simp only;omega,rfl⟩
   have e:stDx a b (some (n+1))=stDvS a b (List.replicate (n+1) 0++(F.dqo (F.nv b) (a.drop (n+1))).1) (F.lb (F.dqo (F.nv b) (a.drop (n+1))).2) (n:Int):=by
    show stDvS a b _ _ (((n+1:Nat):Int) - 1)=_
    rw[show((n+1:Nat):Int) - 1=(n:Int) by omega]
   rw[e];exact hs

theorem evDv (a:List Int) (b:List Int):(runF enDv false Tryz.f206 [.sl (a.map eI), .sl (b.map eI)]).val =
 bif Nat.ble (List.length (List.map eI a)) (List.length (List.map eI a))&&Nat.ble (List.length (List.map eI a)*8) 140737488355328 then Option.bind
 (unenc stDv1 (St.mk [(8,(vI (IntKind.i64.wrap ((↑(List.length (List.map eI a)):Int) - (1:Int))))),(7, .own 7),(6, .own 15),(1,AV.sl (List.map eI b)),(0,
 AV.sl (List.map eI a))] [(15,Blk.mk false 3 1 (List.replicate (List.length (List.map eI a)) [(vI 0)])),(7,Blk.mk false 3 1 [])])) fun z=>bif F.nk (200:Nat) z.1&&F.nk (200:Nat) z.2.1&&decide ((0:Nat)<F.nv z.2.1)&&decide (z.2.2.1=List.replicate (List.length
 z.1) (0:Int))&&decide (z.2.2.2=(↑(List.length z.1):Int) - (1:Int))&&true then bif decide (z.2.2.2<0) then Option.bind (unenc encTrm
 [AV.sl []]) fun z=>bif decide (List.length z≤100000) then some (AV.tup [AV.sl (List.map eI (F.trimL z)),AV.sl []],[]) else none else Option.bind
 (unenc encTrm [AV.sl (List.map eI (F.dqo (F.nv z.2.1) z.1).fst)]) fun z_1=>bif decide (List.length z_1≤100000) then some (AV.tup [AV.sl
 (List.map eI (F.trimL z_1)),AV.sl (List.map eI (F.lb (F.dqo (F.nv z.2.1) z.1).snd))],[]) else none else none else none:=(runFR_val).symm.trans (by kernel_rfl)

def encDv1 (a:List Int) (b:List Int):List AV:=[.sl (a.map eI), .sl (b.map eI)]

def encDv (a:(List Int)×(List Int)):List AV:=encDv1 a.1 a.2

theorem encDv_inj (a a':(List Int)×(List Int)) (h:encDv a=encDv a'):a=a':=by
 simp only[encDv,encDv1]at h
 try simp[ints_inj]at h
 grind

theorem unDv (a:List Int) (b:List Int):unenc encDv ([AV.sl (List.map eI a),AV.sl (List.map eI b)])=some (a,b):=unenc_of encDv_inj (a,b) rfl

def resDv1 (a:List Int) (b:List Int):AV×Heap:=(.tup [.sl ((F.lb (F.nv a / F.nv b)).map eI), .sl ((F.lb (F.nv a % F.nv b)).map eI)],[])

def preDv1 (a:List Int) (b:List Int):Bool:=F.nk 200 a&&F.nk 200 b&&decide (0<F.nv b)

noncomputable def oDv:Orc:=orc 206 false encDv (fun a=>preDv1 a.1 a.2) fun a=>resDv1 a.1 a.2

theorem okDv:OrcOK Tryz.prog noG oDv:=by
 refine mk_ok Tryz.f206 (keep:=false) (by kernel_rfl) (by kernel_rfl) enDv_ok mixed (two_loops (x0:=loopN Tryz.f206 0) (x1:=loopN Tryz.f206 1) (by kernel_rfl) (lpo_ok ?_) (lpo_ok ?_)) (by first | exact fun _ _=>⟨rfl,rfl⟩ | (intro h;cases h)) ?_
 ·rintro⟨a,b,out,i⟩ hp
  exact lpDv_ok a b out i hp
 ·rintro⟨a,b,out,r,i,lo,hi⟩ hp
  exact lpDvi_ok a b out r i lo hi hp
 rintro⟨a,b⟩ hpre hok
 show(runF enDv false _ (encDv1 _ _)).val=some (resDv1 _ _)
 unfold encDv1 resDv1
 rw[evDv]
 have hpre:(F.nk 200 a&&F.nk 200 b&&decide (0<F.nv b))=true:=hpre
 have hpre2:=hpre
 rw[Bool.and_eq_true,Bool.and_eq_true,decide_eq_true_eq]at hpre2
 obtain⟨⟨p1,p2⟩,p3⟩:=hpre2
 have l1:=F.nk_len p1
 have hres:F.trimL (F.dqo (F.nv b) a).1=F.lb (F.nv a / F.nv b)∧(F.dqo (F.nv b) a).2=F.nv a % F.nv b:=by
  obtain⟨m,hm1,hm⟩:=F.nk_of p1
  rw[hm1,F.nv_lb]
  exact F.dqo_lb p3 m
 have hrep : ∀n:Nat,List.replicate n [vI (0:Int)]=(List.replicate n (0:Int)).map eI:=fun n=>by rw[List.map_replicate];rfl
 have w0:IntKind.i64.wrap ((a.length:Int) - 1)=(a.length:Int) - 1:=wrap_id (by omega) (by omega)
 have hb1:Nat.ble a.length a.length=true:=ble_t (Nat.le_refl _)
 have hb2:Nat.ble (a.length*8) 140737488355328=true:=ble_t (by omega)
 have hdl:=(F.dqo_eq p3 (F.nk_ok p1)).2.2.2
 have hl:decide ((F.dqo (F.nv b) a).1.length≤100000)=true:=decide_eq_true (by omega)
 have u0:unenc encTrm [.sl []]=some []:=unTrm []
 simp only[unTrm,unstDv,Option.bind_some,List.length_map,cond_true,Bool.and_true,p1,p2,w0,hrep,decide_eq_true p3,hb1,hb2,hl,decide_true,hres.1,hres.2,u0]
 by_cases hz:(a.length:Int) - 1<0
 ·have ha:a=[]:=List.length_eq_zero_iff.1 (by omega)
  subst ha
  rw[decide_eq_true hz,cond_true,show F.nv []=0 from rfl,Nat.zero_div,Nat.zero_mod,F.lb_zero]
  rfl
 ·rw[decide_eq_false hz,cond_false]

end M

namespace M

def stCom (a:List Int) (b:List Int):St:=⟨[(1, .sl (b.map eI)),(0, .sl (a.map eI))],[]⟩

def stCom1 (a:(List Int)×(List Int)):St:=stCom a.1 a.2

theorem stCom_inj (a a':(List Int)×(List Int)) (h:stCom1 a=stCom1 a'):a=a':=by
 simp only[stCom1,stCom]at h
 try simp[ints_inj]at h
 grind

theorem unstCom (a:List Int) (b:List Int):unenc stCom1 (St.mk [(1,AV.sl (List.map eI b)),(0,AV.sl (List.map eI a))] [])=some (a,b):=unenc_of stCom_inj (a,b) rfl

def outCom (a:List Int) (b:List Int):T (Ex×St):= .ret (.exit 0,⟨[(0, .sl ((F.lb (Nat.gcd (F.nv b) (F.nv a))).map eI))],[]⟩)

noncomputable def prlCom (a:List Int) (b:List Int):Bool:=F.nk 200 a&&F.nk 200 b

noncomputable def lpCom:Nat×(St→T (Ex×St)):=(1,lpo [1,0] [] stCom1 (fun a=>prlCom a.1 a.2) fun a=>outCom a.1 a.2)

noncomputable def enCom:Env:=envH ty noG lks [oDv] [] [] [lpCom]

theorem enCom_ok:EnvOK Tryz.prog enCom:=by
 refine envH_ok lks_ok ty_ok ?_ ?_
 ·simp only[List.forall_mem_cons]
  exact⟨okDv,by simp⟩
 ·simp

theorem evComL (a:List Int) (b:List Int):((exec enCom (loopN Tryz.f212 0) (stCom a b)).bind (lessX ([1,0],[]) ([0],[]) ([],[]))).val =
 bif decide ((0:Int)<(↑(List.length (List.map eI b)):Int)) then Option.bind (unenc encDv [AV.sl (List.map eI a),AV.sl (List.map eI b)]) fun(z:List Int×List Int)
 =>bif F.nk (200:Nat) z.1&&F.nk (200:Nat) z.2&&decide ((0:Nat)<F.nv z.2) then some (Ex.normal,St.mk [(1,AV.sl (List.map eI (F.lb (Nat.mod (F.nv z.1)
 (F.nv z.2))))),(0,AV.sl (List.map eI b))] []) else none else some (Ex.exit (0:Nat),St.mk [(0,AV.sl (List.map eI a))] []):=(execR_bind _ _ _).symm.trans (by kernel_rfl)

theorem lpCom_ok (a:List Int) (b:List Int) (hp:prlCom a b=true) : ∀ex s',(outCom a b).val=some (ex,s')→LoopOK enCom (loopN Tryz.f212 0) (stCom a b) ex s':=by
 simp only[prlCom,Bool.and_eq_true]at hp
 obtain⟨h1,h2⟩:=hp
 obtain⟨m,rfl,hm⟩:=F.nk_of h1
 obtain⟨n,rfl,hn⟩:=F.nk_of h2
 clear h1 h2
 refine loop_gen (st:=fun p:Nat×Nat=>stCom (F.lb p.1) (F.lb p.2)) (out:=fun p=>outCom (F.lb p.1) (F.lb p.2)) (I:=fun p=>p.1<10000 ^ 200∧p.2<10000 ^ 200) (n:=([1,0],[])) (e:=([0],[])) (r:=([],[])) (fun p=>p.2) ?_ (m,n) ⟨hm,hn⟩
 clear hm hn
 rintro⟨m,n⟩ ⟨hm,hn⟩
 simp only at hm hn
 have k1:=F.nk_lb hm
 have k2:=F.nk_lb hn
 have hl:=F.lb_emp n
 by_cases hz:n=0
 ·left
  refine⟨(.exit 0,⟨[(0, .sl ((F.lb m).map eI))],[]⟩),?_,?_,by simp,rfl⟩
  ·have c : ¬(0:Int)<((F.lb n).length:Int):=by omega
   rw[evComL]
   simp only[unDv,Option.bind_some,List.length_map,cond_false,decide_eq_false c]
  ·simp only[outCom,F.nv_lb,hz,Nat.gcd_zero_left]
   rfl
 ·right
  have c:(0:Int)<((F.lb n).length:Int):=by omega
  have hm2:m % n<n:=Nat.mod_lt _ (by omega)
  refine⟨(n,m % n),?_,rfl,⟨hn,Nat.lt_trans hm2 hn⟩,hm2,?_⟩
  ·have hp:decide (0<n)=true:=decide_eq_true (by omega)
   rw[evComL]
   simp only[unDv,Option.bind_some,List.length_map,cond_true,Bool.and_true,decide_eq_true c,k1,k2,F.nv_lb,hp,stCom]
   rfl
  ·simp only[outCom,F.nv_lb]
   rw[←Nat.gcd_rec]

theorem evCom (a:List Int) (b:List Int):(runF enCom false Tryz.f212 [.sl (a.map eI), .sl (b.map eI)]).val =
 Option.bind (unenc stCom1 (St.mk [(1,AV.sl (List.map eI b)),(0,AV.sl (List.map eI a))] [])) fun z=>bif F.nk (200:Nat) z.1&&F.nk (200 :
 Nat) z.2&&true then some (AV.sl (List.map eI (F.lb (Nat.gcd (F.nv z.2) (F.nv z.1)))),[]) else none:=(runFR_val).symm.trans (by kernel_rfl)

def encCom1 (a:List Int) (b:List Int):List AV:=[.sl (a.map eI), .sl (b.map eI)]

def encCom (a:(List Int)×(List Int)):List AV:=encCom1 a.1 a.2

theorem encCom_inj (a a':(List Int)×(List Int)) (h:encCom a=encCom a'):a=a':=by
 simp only[encCom,encCom1]at h
 try simp[ints_inj]at h
 grind

theorem unCom (a:List Int) (b:List Int):unenc encCom ([AV.sl (List.map eI a),AV.sl (List.map eI b)])=some (a,b):=unenc_of encCom_inj (a,b) rfl

def resCom1 (a:List Int) (b:List Int):AV×Heap:=(.sl ((F.lb (Nat.gcd (F.nv b) (F.nv a))).map eI),[])

def preCom1 (a:List Int) (b:List Int):Bool:=F.nk 200 a&&F.nk 200 b

noncomputable def oCom:Orc:=orc 212 false encCom (fun a=>preCom1 a.1 a.2) fun a=>resCom1 a.1 a.2

theorem okCom:OrcOK Tryz.prog noG oCom:=by
 refine mk_ok Tryz.f212 (keep:=false) (by kernel_rfl) (by kernel_rfl) enCom_ok mixed (one_loop (x0:=loopN Tryz.f212 0) (by kernel_rfl) (lpo_ok ?_)) (by first | exact fun _ _=>⟨rfl,rfl⟩ | (intro h;cases h)) ?_
 ·rintro⟨a,b⟩ hp
  exact lpCom_ok a b hp
 rintro⟨a,b⟩ hpre hok
 show(runF enCom false _ (encCom1 _ _)).val=some (resCom1 _ _)
 unfold encCom1 resCom1
 rw[evCom]
 have hpre:(F.nk 200 a&&F.nk 200 b)=true:=hpre
 simp only[unstCom,Option.bind_some,cond_true,Bool.and_true,hpre]

theorem unCpr_1 (a:List Int):unenc encCpr [.sl (a.map eI), .sl [[vI 1]]]=some (a,[1]):=unCpr a [1]

theorem nk_one {k:Nat} (h:1≤k):F.nk k [1]=true:=by
 have:=F.nk_lb (k:=k) (n:=1) (F.lb_lt (m:=1) (by decide) h)
 rwa[F.lb_one]at this

theorem nv_one:F.nv [1]=1:=rfl

theorem len_nv {k:Nat} {l:List Int} (h:F.nk k l=true):((l.length:Int)==0)=decide (F.nv l=0):=by
 obtain⟨m,rfl,hm⟩:=F.nk_of h
 rw[F.nv_lb]
 have:=F.lb_emp m
 by_cases hz:m=0
 ·rw[decide_eq_true hz,this.2 hz];rfl
 ·rw[decide_eq_false hz]
  have:(F.lb m).length≠0:=fun e=>hz (this.1 e)
  simp;exact fun e=>hz (F.lb_nil.1 e)

theorem lb_nv {k:Nat} {l:List Int} (h:F.nk k l=true):F.lb (F.nv l)=l:=by
 obtain⟨m,rfl,hm⟩:=F.nk_of h
 rw[F.nv_lb]

noncomputable def enLow:Env:=envH ty noG lks [oCom,oCpr,oDv] [] [] []

theorem enLow_ok:EnvOK Tryz.prog enLow:=by
 refine envH_ok lks_ok ty_ok ?_ ?_
 ·simp only[List.forall_mem_cons]
  exact⟨okCom,okCpr,okDv,by simp⟩
 ·simp

theorem evLow (ng:Bool) (tp:List Int) (bt:List Int):(runF enLow false Tryz.f166 [vB ng, .sl (tp.map eI), .sl (bt.map eI)]).val =
 bif (↑(List.length (List.map eI tp)):Int)==0 then some (AV.agg [(vB false),AV.sl [],AV.sl [[(vI 1)]]],[]) else Option.bind (unenc encCom [AV.sl
 (List.map eI tp),AV.sl (List.map eI bt)]) fun z=>bif F.nk (200:Nat) z.1&&F.nk (200:Nat) z.2 then Option.bind (unenc encCpr [AV.sl
 (List.map eI (F.lb (Nat.gcd (F.nv z.2) (F.nv z.1)))),AV.sl [[(vI 1)]]]) fun z_1=>bif F.nk (1000:Nat) z_1.1&&F.nk (1000:Nat)
 z_1.2 then bif F.sgnL (↑(F.nv z_1.1):Int) (↑(F.nv z_1.2):Int)==0 then some (AV.agg [(vB ng),AV.sl (List.map eI tp),AV.sl (List.map eI bt)],[]) else
 Option.bind (unenc encDv [AV.sl (List.map eI tp),AV.sl (List.map eI (F.lb (Nat.gcd (F.nv z.2) (F.nv z.1))))]) fun z_2=>bif F.nk (200:Nat)
 z_2.1&&F.nk (200:Nat) z_2.2&&decide ((0:Nat)<F.nv z_2.2) then Option.bind (unenc encDv [AV.sl (List.map eI bt),AV.sl (List.map eI (F.lb (Nat.gcd (F.nv
 z.2) (F.nv z.1))))]) fun z=>bif F.nk (200:Nat) z.1&&F.nk (200:Nat) z.2&&decide ((0:Nat)<F.nv z.2) then some (AV.agg [(vB
 ng),AV.sl (List.map eI (F.lb (Nat.div (F.nv z_2.1) (F.nv z_2.2)))),AV.sl (List.map eI (F.lb (Nat.div (F.nv z.1) (F.nv z.2))))],[]) else none else none else none
 else none:=(runFR_val).symm.trans (by kernel_rfl)

def encLow1 (ng:Bool) (tp:List Int) (bt:List Int):List AV:=[vB ng, .sl (tp.map eI), .sl (bt.map eI)]

def encLow (a:Bool×(List Int)×(List Int)):List AV:=encLow1 a.1 a.2.1 a.2.2

theorem encLow_inj (a a':Bool×(List Int)×(List Int)) (h:encLow a=encLow a'):a=a':=by
 simp only[encLow,encLow1]at h
 try simp[ints_inj]at h
 grind

theorem unLow (ng:Bool) (tp:List Int) (bt:List Int):unenc encLow ([(vB ng),AV.sl (List.map eI tp),AV.sl (List.map eI bt)])=some (ng,tp,bt):=unenc_of encLow_inj (ng,tp,bt) rfl

def resLow1 (ng:Bool) (tp:List Int) (bt:List Int):AV×Heap:=(.agg [vB (ng&&decide (0<F.nv tp)), .sl ((F.lb (F.nv tp / Nat.gcd (F.nv bt) (F.nv tp))).map eI), .sl ((F.lb (F.nv bt / Nat.gcd (F.nv bt) (F.nv tp))).map eI)],[])

def preLow1 (ng:Bool) (tp:List Int) (bt:List Int):Bool:=F.nk 200 tp&&F.nk 200 bt&&decide (0<F.nv bt)

noncomputable def oLow:Orc:=orc 166 false encLow (fun a=>preLow1 a.1 a.2.1 a.2.2) fun a=>resLow1 a.1 a.2.1 a.2.2

theorem okLow:OrcOK Tryz.prog noG oLow:=by
 refine mk_ok Tryz.f166 (keep:=false) (by kernel_rfl) (by kernel_rfl) enLow_ok mixed (no_loops (by kernel_rfl)) (by first | exact fun _ _=>⟨rfl,rfl⟩ | (intro h;cases h)) ?_
 rintro⟨ng,tp,bt⟩ hpre hok
 show(runF enLow false _ (encLow1 _ _ _)).val=some (resLow1 _ _ _)
 unfold encLow1 resLow1
 rw[evLow]
 have hpre:(F.nk 200 tp&&F.nk 200 bt&&decide (0<F.nv bt))=true:=hpre
 rw[Bool.and_eq_true,Bool.and_eq_true,decide_eq_true_eq]at hpre
 obtain⟨⟨p1,p2⟩,p3⟩:=hpre
 have hdv : ∀u v:Nat,Nat.div u v=u / v:=fun _ _=>rfl
 have hg:0<Nat.gcd (F.nv bt) (F.nv tp):=Nat.gcd_pos_of_pos_left _ p3
 have hgl:Nat.gcd (F.nv bt) (F.nv tp)<10000 ^ 200:=Nat.lt_of_le_of_lt (Nat.gcd_le_left _ p3) (nk_lt p2)
 have k1:=F.nk_lb hgl
 have k2:=nk_up k1 (by decide:200≤1000)
 have hs:=F.sgnL_eq (Nat.gcd (F.nv bt) (F.nv tp)) 1
 have e1:=lb_nv p1
 have e2:=lb_nv p2
 simp only[unCom,unDv,Option.bind_some,List.length_map,cond_true,Bool.and_true,Bool.true_and,p1,p2,unCpr_1,len_nv p1,nk_one (by decide:1≤1000),nv_one,F.nv_lb,k1,k2,hdv,decide_eq_true hg]
 by_cases hz:F.nv tp=0
 ·rw[decide_eq_true hz,hz,Nat.gcd_zero_right,Nat.zero_div,Nat.div_self p3,F.lb_zero,F.lb_one]
  simp
  rfl
 ·have hp:decide (0<F.nv tp)=true:=decide_eq_true (by omega)
  rw[decide_eq_false hz,hp,Bool.and_true,cond_false]
  have hs:(F.sgnL ((Nat.gcd (F.nv bt) (F.nv tp):Nat):Int) 1==0)=decide (Nat.gcd (F.nv bt) (F.nv tp)=1):=hs
  simp only[Int.natCast_one]
  rw[hs]
  by_cases h1:Nat.gcd (F.nv bt) (F.nv tp)=1
  ·rw[decide_eq_true h1,h1,Nat.div_one,Nat.div_one,e1,e2];rfl
  ·rw[decide_eq_false h1];rfl

end M

def F.lowT (t b:Nat):List Int:=F.lb (t / Nat.gcd b t)

def F.lowB (t b:Nat):List Int:=F.lb (b / Nat.gcd b t)

namespace M

theorem nk_le {j k n:Nat} (h:n<10000 ^ j) (hjk:j≤k):F.nk k (F.lb n)=true:=F.nk_lb (F.lb_lt h hjk)

noncomputable def enNum:Env:=envH ty noG lks [oTmz,oAdd,oLes,oCpr,oLow] [] [] []

theorem enNum_ok:EnvOK Tryz.prog enNum:=by
 refine envH_ok lks_ok ty_ok ?_ ?_
 ·simp only[List.forall_mem_cons]
  exact⟨okTmz,okAdd,okLes,okCpr,okLow,by simp⟩
 ·simp

theorem evLms (xn:Bool) (xt:List Int) (xb:List Int) (yn:Bool) (yt:List Int) (yb:List Int):(runF enNum false Tryz.f110 [.agg [vB xn, .sl (xt.map eI), .sl (xb.map eI)], .agg [vB yn, .sl (yt.map eI), .sl (yb.map eI)]]).val =
 Option.bind (unenc encTmz [AV.sl (List.map eI xt),AV.sl (List.map eI yt)]) fun z=>bif F.nk (400:Nat) z.1&&F.nk (400:Nat) z.2 then
 Option.bind (unenc encTmz [AV.sl (List.map eI xb),AV.sl (List.map eI yb)]) fun z_1=>bif F.nk (400:Nat) z_1.1&&F.nk (400:Nat) z_1.2
 then Option.bind (unenc encLow [(vB !xn==yn),AV.sl (List.map eI (F.lb (F.nv z.1*F.nv z.2))),AV.sl (List.map eI (F.lb (F.nv z_1.1*F.nv z_1.2)))]) fun(z :
 Bool×List Int×List Int)=>bif F.nk (200:Nat) z.2.1&&F.nk (200:Nat) z.2.2&&decide ((0:Nat)<F.nv z.2.2) then some (AV.agg [(vB (z.1&&decide
 ((0:Nat)<F.nv z.2.1))),AV.sl (List.map eI (F.lb (Nat.div (F.nv z.2.1) (Nat.gcd (F.nv z.2.2) (F.nv z.2.1))))),AV.sl (List.map eI (F.lb (Nat.div (F.nv
 z.2.2) (Nat.gcd (F.nv z.2.2) (F.nv z.2.1)))))],[]) else none else none else none:=(runFR_val).symm.trans (by kernel_rfl)

def encLms1 (xn:Bool) (xt:List Int) (xb:List Int) (yn:Bool) (yt:List Int) (yb:List Int):List AV:=[.agg [vB xn, .sl (xt.map eI), .sl (xb.map eI)], .agg [vB yn, .sl (yt.map eI), .sl (yb.map eI)]]

def encLms (a:Bool×(List Int)×(List Int)×Bool×(List Int)×(List Int)):List AV:=encLms1 a.1 a.2.1 a.2.2.1 a.2.2.2.1 a.2.2.2.2.1 a.2.2.2.2.2

theorem encLms_inj (a a':Bool×(List Int)×(List Int)×Bool×(List Int)×(List Int)) (h:encLms a=encLms a'):a=a':=by
 simp only[encLms,encLms1]at h
 try simp[ints_inj]at h
 grind

theorem unLms (xn:Bool) (xt:List Int) (xb:List Int) (yn:Bool) (yt:List Int) (yb:List Int):unenc encLms ([AV.agg [(vB xn),AV.sl (List.map eI xt),AV.sl (List.map eI xb)],AV.agg [(vB yn),AV.sl (List.map eI yt),AV.sl (List.map eI yb)]])=some (xn,xt,xb,yn,yt,yb):=unenc_of encLms_inj (xn,xt,xb,yn,yt,yb) rfl

def resLms1 (xn:Bool) (xt:List Int) (xb:List Int) (yn:Bool) (yt:List Int) (yb:List Int):AV×Heap:=(.agg [vB ((xn != yn)&&decide (0<F.nv xt*F.nv yt)), .sl ((F.lowT (F.nv xt*F.nv yt) (F.nv xb*F.nv yb)).map eI), .sl ((F.lowB (F.nv xt*F.nv yt) (F.nv xb*F.nv yb)).map eI)],[])

def preLms1 (xn:Bool) (xt:List Int) (xb:List Int) (yn:Bool) (yt:List Int) (yb:List Int):Bool:=F.nk 90 xt&&F.nk 90 xb&&F.nk 90 yt&&F.nk 90 yb&&decide (0<F.nv xb)&&decide (0<F.nv yb)

noncomputable def oLms:Orc:=orc 110 false encLms (fun a=>preLms1 a.1 a.2.1 a.2.2.1 a.2.2.2.1 a.2.2.2.2.1 a.2.2.2.2.2) fun a=>resLms1 a.1 a.2.1 a.2.2.1 a.2.2.2.1 a.2.2.2.2.1 a.2.2.2.2.2

theorem okLms:OrcOK Tryz.prog noG oLms:=by
 refine mk_ok Tryz.f110 (keep:=false) (by kernel_rfl) (by kernel_rfl) enNum_ok mixed (no_loops (by kernel_rfl)) (by first | exact fun _ _=>⟨rfl,rfl⟩ | (intro h;cases h)) ?_
 rintro⟨xn,xt,xb,yn,yt,yb⟩ hpre hok
 show(runF enNum false _ (encLms1 _ _ _ _ _ _)).val=some (resLms1 _ _ _ _ _ _)
 unfold encLms1 resLms1
 rw[evLms]
 have hpre:(F.nk 90 xt&&F.nk 90 xb&&F.nk 90 yt&&F.nk 90 yb&&decide (0<F.nv xb)&&decide (0<F.nv yb))=true:=hpre
 simp only[Bool.and_eq_true,decide_eq_true_eq]at hpre
 obtain⟨⟨⟨⟨⟨p1,p2⟩,p3⟩,p4⟩,p5⟩,p6⟩:=hpre
 have k1:=nk_mul (l:=200) (nk_lt p1) (nk_lt p3) (by decide)
 have k2:=nk_mul (l:=200) (nk_lt p2) (nk_lt p4) (by decide)
 have hp:decide (0<F.nv xb*F.nv yb)=true:=decide_eq_true (Nat.mul_pos p5 p6)
 simp only[unTmz,unLow,Option.bind_some,cond_true,Bool.and_true,nk_up p1 (by decide:90≤400),nk_up p2 (by decide:90≤400),nk_up p3 (by decide:90≤400),nk_up p4 (by decide:90≤400),F.nv_lb,k1,k2,hp]
 rfl

theorem evOvr (xn:Bool) (xt:List Int) (xb:List Int) (yn:Bool) (yt:List Int) (yb:List Int):(runF enNum false Tryz.f109 [.agg [vB xn, .sl (xt.map eI), .sl (xb.map eI)], .agg [vB yn, .sl (yt.map eI), .sl (yb.map eI)]]).val =
 Option.bind (unenc encTmz [AV.sl (List.map eI xt),AV.sl (List.map eI yb)]) fun z=>bif F.nk (400:Nat) z.1&&F.nk (400:Nat) z.2 then
 Option.bind (unenc encTmz [AV.sl (List.map eI xb),AV.sl (List.map eI yt)]) fun z_1=>bif F.nk (400:Nat) z_1.1&&F.nk (400:Nat) z_1.2
 then Option.bind (unenc encLow [(vB !xn==yn),AV.sl (List.map eI (F.lb (F.nv z.1*F.nv z.2))),AV.sl (List.map eI (F.lb (F.nv z_1.1*F.nv z_1.2)))]) fun(z :
 Bool×List Int×List Int)=>bif F.nk (200:Nat) z.2.1&&F.nk (200:Nat) z.2.2&&decide ((0:Nat)<F.nv z.2.2) then some (AV.agg [(vB (z.1&&decide
 ((0:Nat)<F.nv z.2.1))),AV.sl (List.map eI (F.lb (Nat.div (F.nv z.2.1) (Nat.gcd (F.nv z.2.2) (F.nv z.2.1))))),AV.sl (List.map eI (F.lb (Nat.div (F.nv
 z.2.2) (Nat.gcd (F.nv z.2.2) (F.nv z.2.1)))))],[]) else none else none else none:=(runFR_val).symm.trans (by kernel_rfl)

def encOvr1 (xn:Bool) (xt:List Int) (xb:List Int) (yn:Bool) (yt:List Int) (yb:List Int):List AV:=[.agg [vB xn, .sl (xt.map eI), .sl (xb.map eI)], .agg [vB yn, .sl (yt.map eI), .sl (yb.map eI)]]

def encOvr (a:Bool×(List Int)×(List Int)×Bool×(List Int)×(List Int)):List AV:=encOvr1 a.1 a.2.1 a.2.2.1 a.2.2.2.1 a.2.2.2.2.1 a.2.2.2.2.2

theorem encOvr_inj (a a':Bool×(List Int)×(List Int)×Bool×(List Int)×(List Int)) (h:encOvr a=encOvr a'):a=a':=by
 simp only[encOvr,encOvr1]at h
 try simp[ints_inj]at h
 grind

theorem unOvr (xn:Bool) (xt:List Int) (xb:List Int) (yn:Bool) (yt:List Int) (yb:List Int):unenc encOvr ([AV.agg [(vB xn),AV.sl (List.map eI xt),AV.sl (List.map eI xb)],AV.agg [(vB yn),AV.sl (List.map eI yt),AV.sl (List.map eI yb)]])=some (xn,xt,xb,yn,yt,yb):=unenc_of encOvr_inj (xn,xt,xb,yn,yt,yb) rfl

def resOvr1 (xn:Bool) (xt:List Int) (xb:List Int) (yn:Bool) (yt:List Int) (yb:List Int):AV×Heap:=(.agg [vB ((xn != yn)&&decide (0<F.nv xt*F.nv yb)), .sl ((F.lowT (F.nv xt*F.nv yb) (F.nv xb*F.nv yt)).map eI), .sl ((F.lowB (F.nv xt*F.nv yb) (F.nv xb*F.nv yt)).map eI)],[])

def preOvr1 (xn:Bool) (xt:List Int) (xb:List Int) (yn:Bool) (yt:List Int) (yb:List Int):Bool:=F.nk 90 xt&&F.nk 90 xb&&F.nk 90 yt&&F.nk 90 yb&&decide (0<F.nv xb)&&decide (0<F.nv yt)

noncomputable def oOvr:Orc:=orc 109 false encOvr (fun a=>preOvr1 a.1 a.2.1 a.2.2.1 a.2.2.2.1 a.2.2.2.2.1 a.2.2.2.2.2) fun a=>resOvr1 a.1 a.2.1 a.2.2.1 a.2.2.2.1 a.2.2.2.2.1 a.2.2.2.2.2

theorem okOvr:OrcOK Tryz.prog noG oOvr:=by
 refine mk_ok Tryz.f109 (keep:=false) (by kernel_rfl) (by kernel_rfl) enNum_ok mixed (no_loops (by kernel_rfl)) (by first | exact fun _ _=>⟨rfl,rfl⟩ | (intro h;cases h)) ?_
 rintro⟨xn,xt,xb,yn,yt,yb⟩ hpre hok
 show(runF enNum false _ (encOvr1 _ _ _ _ _ _)).val=some (resOvr1 _ _ _ _ _ _)
 unfold encOvr1 resOvr1
 rw[evOvr]
 have hpre:(F.nk 90 xt&&F.nk 90 xb&&F.nk 90 yt&&F.nk 90 yb&&decide (0<F.nv xb)&&decide (0<F.nv yt))=true:=hpre
 simp only[Bool.and_eq_true,decide_eq_true_eq]at hpre
 obtain⟨⟨⟨⟨⟨p1,p2⟩,p3⟩,p4⟩,p5⟩,p6⟩:=hpre
 have k1:=nk_mul (l:=200) (nk_lt p1) (nk_lt p4) (by decide)
 have k2:=nk_mul (l:=200) (nk_lt p2) (nk_lt p3) (by decide)
 have hp:decide (0<F.nv xb*F.nv yt)=true:=decide_eq_true (Nat.mul_pos p5 p6)
 simp only[unTmz,unLow,Option.bind_some,cond_true,Bool.and_true,nk_up p1 (by decide:90≤400),nk_up p2 (by decide:90≤400),nk_up p3 (by decide:90≤400),nk_up p4 (by decide:90≤400),F.nv_lb,k1,k2,hp]
 rfl

end M

def F.dvA (acc:Nat) (l:List UInt8):Nat:=l.foldl (fun a c=>a*10+(c.toNat - 48)) acc

theorem F.dvA_nil (acc:Nat):F.dvA acc []=acc:=by unfold F.dvA;exact List.foldl_nil

theorem F.dvA_cons (acc:Nat) (c:UInt8) (r:List UInt8):F.dvA acc (c::r)=F.dvA (acc*10+(c.toNat - 48)) r:=by unfold F.dvA;exact List.foldl_cons ..

def F.dgB (c:UInt8):Bool:=decide (48≤c.toNat)&&decide (c.toNat≤57)

def F.dv (s:ByteArray):Nat:=F.dvA 0 (F.bs s)

theorem F.dvA_le : ∀(l:List UInt8) (acc:Nat),acc≤F.dvA acc l
 | [],acc=>by rw[F.dvA_nil];exact Nat.le_refl _
 | c::r,acc=>by
  have:=F.dvA_le r (acc*10+(c.toNat - 48))
  rw[F.dvA_cons];omega

theorem F.dvA_app : ∀(a b:List UInt8) (acc:Nat),F.dvA acc (a++b)=F.dvA (F.dvA acc a) b
 | [],b,acc=>by rw[F.dvA_nil];rfl
 | c::a,b,acc=>by rw[List.cons_append,F.dvA_cons,F.dvA_cons,F.dvA_app a b]

theorem F.dvA_acc : ∀(l:List UInt8) (acc:Nat),F.dvA acc l=acc*10 ^ l.length+F.dvA 0 l
 | [],acc=>by rw[F.dvA_nil,F.dvA_nil,List.length_nil,Nat.pow_zero];omega
 | c::r,acc=>by
  rw[F.dvA_cons,F.dvA_cons,F.dvA_acc r,F.dvA_acc r (0*10+(c.toNat - 48)),Nat.zero_mul,Nat.zero_add,List.length_cons,Nat.pow_succ,Nat.add_mul,Nat.mul_assoc,Nat.mul_comm 10,Nat.add_assoc]

theorem F.dvA_lt : ∀(l:List UInt8),l.all F.dgB=true→F.dvA 0 l<10 ^ l.length
 | [],_=>by rw[F.dvA_nil];decide
 | c::r,h=>by
  rw[List.all_cons,Bool.and_eq_true]at h
  have hc:=h.1
  unfold F.dgB at hc
  simp only[Bool.and_eq_true,decide_eq_true_eq]at hc
  have ih:=F.dvA_lt r h.2
  rw[F.dvA_cons,F.dvA_acc,List.length_cons,Nat.pow_succ]
  have:(0*10+(c.toNat - 48))*10 ^ r.length≤9*10 ^ r.length:=Nat.mul_le_mul_right _ (by omega)
  omega

theorem F.pu_dvA : ∀(l:List UInt8) (acc:Nat),l.all F.dgB=true→F.dvA acc l<18446744073709551616→Lib.parseUint10 acc l = .ok (F.dvA acc l)
 | [],acc,_,_=>by rw[F.dvA_nil];rfl
 | c::r,acc,h,hb=>by
  rw[List.all_cons,Bool.and_eq_true]at h
  have hc:=h.1
  unfold F.dgB at hc
  simp only[Bool.and_eq_true,decide_eq_true_eq]at hc
  rw[F.dvA_cons]at hb ⊢
  have:=F.dvA_le r (acc*10+(c.toNat - 48))
  rw[Lib.parseUint10,if_pos ⟨by omega,by omega⟩,if_neg (by omega),if_neg (by omega),F.pu_dvA r _ h.2 hb]

def F.isD (s:ByteArray):Bool:=(F.bs s).all F.dgB&&decide (0<s.size)&&decide (F.dv s≤9223372036854775807)

theorem F.isD_ato {s:ByteArray} (h:F.isD s=true):Lib.atoiAll s.data.toList = .ok ((F.dv s:Nat):Int):=by
 unfold F.isD at h
 simp only[Bool.and_eq_true,decide_eq_true_eq]at h
 obtain⟨⟨h1,h2⟩,h3⟩:=h
 have hl:=F.bs_len s
 show Lib.atoiAll (F.bs s)=_
 unfold F.dv at h3 ⊢
 cases hs:F.bs s with
 | nil=>rw[hs]at hl;simp at hl;omega
 | cons c r=>
  rw[hs]at h1 h3
  have hc:=h1
  rw[List.all_cons,Bool.and_eq_true]at hc
  have hc:=hc.1
  unfold F.dgB at hc
  simp only[Bool.and_eq_true,decide_eq_true_eq]at hc
  have hp:Lib.parseMag (c::r) = .ok (F.dvA 0 (c::r)):=by
   unfold Lib.parseMag
   rw[if_neg (by simp)]
   exact F.pu_dvA _ 0 h1 (by omega)
  rw[Lib.atoiAll_plain c r (by omega) (by omega),hp]
  unfold Lib.signless
  simp only[]
  rw[if_neg (by omega)]

theorem F.dd_ok (n:Nat):(Lib.decDigits n).all F.dgB=true∧F.dvA 0 (Lib.decDigits n)=n∧Lib.decDigits n≠[]:=by
 induction n using Nat.strongRecOn with
 | ind n ih=>
  by_cases h:n<10
  ·have hn:(UInt8.ofNat (48+n)).toNat=48+n:=by rw[UInt8.toNat_ofNat'];omega
   rw[Lib.decDigits,dif_pos h]
   refine⟨?_,?_,by simp⟩
   ·simp only[List.all_cons,List.all_nil,Bool.and_true,F.dgB,hn,Bool.and_eq_true,decide_eq_true_eq];omega
   ·rw[F.dvA_cons,F.dvA_nil,hn];omega
  ·obtain⟨i1,i2,i3⟩:=ih (n / 10) (by omega)
   have hn:(UInt8.ofNat (48+n % 10)).toNat=48+n % 10:=by rw[UInt8.toNat_ofNat'];omega
   rw[Lib.decDigits,dif_neg h]
   refine⟨?_,?_,by simp⟩
   ·rw[List.all_append,i1]
    simp only[List.all_cons,List.all_nil,Bool.and_true,F.dgB,hn,Bool.and_eq_true,decide_eq_true_eq,Bool.true_and];omega
   ·rw[F.dvA_app,i2,F.dvA_cons,F.dvA_nil,hn];omega

theorem F.itoa_n (n:Nat):F.bs (F.itoa (n:Int))=Lib.decDigits n:=by
 unfold F.bs F.itoa
 rw[Lib.itoa_nonneg]

theorem F.dv_itoa (n:Nat):F.dv (F.itoa (n:Int))=n:=by
 unfold F.dv
 rw[F.itoa_n]
 exact(F.dd_ok n).2.1

theorem F.all_itoa (n:Nat):(F.bs (F.itoa (n:Int))).all F.dgB=true:=by
 rw[F.itoa_n]
 exact(F.dd_ok n).1

theorem F.itoa_pos (n:Nat):0<(F.itoa (n:Int)).size:=by
 rw[←F.bs_len,F.itoa_n]
 exact List.length_pos_iff.2 (F.dd_ok n).2.2

theorem F.isD_itoa {n:Nat} (h:n≤9223372036854775807):F.isD (F.itoa (n:Int))=true:=by
 unfold F.isD
 rw[F.all_itoa,F.dv_itoa,decide_eq_true (F.itoa_pos n),decide_eq_true h]
 rfl

def F.pad4 (l:List UInt8):List UInt8:=List.replicate (4 - l.length) 48++l

theorem F.dd_lt {n:Nat} (h:n<10):Lib.decDigits n=[UInt8.ofNat (48+n)]:=by rw[Lib.decDigits,dif_pos h]

theorem F.dd_ge {n:Nat} (h : ¬n<10):Lib.decDigits n=Lib.decDigits (n / 10)++[UInt8.ofNat (48+n % 10)]:=by rw[Lib.decDigits,dif_neg h]

theorem F.pad_dd {b:Nat} (h:b<10000):F.pad4 (Lib.decDigits b)=[UInt8.ofNat (48+b / 1000),UInt8.ofNat (48+b / 100 % 10),UInt8.ofNat (48+b / 10 % 10),UInt8.ofNat (48+b % 10)]:=by
 by_cases h1:b<10
 ·rw[F.dd_lt h1,show b / 1000=0 by omega,show b / 100 % 10=0 by omega,show b / 10 % 10=0 by omega,show b % 10=b by omega]
  rfl
 ·rw[F.dd_ge h1]
  by_cases h2:b / 10<10
  ·rw[F.dd_lt h2,show b / 1000=0 by omega,show b / 100 % 10=0 by omega,show b / 10 % 10=b / 10 by omega]
   rfl
  ·rw[F.dd_ge h2]
   by_cases h3:b / 10 / 10<10
   ·rw[F.dd_lt h3,show b / 1000=0 by omega,show b / 100 % 10=b / 10 / 10 by omega]
    rfl
   ·rw[F.dd_ge h3,F.dd_lt (by omega:b / 10 / 10 / 10<10),show b / 1000=b / 10 / 10 / 10 by omega,show b / 100 % 10=b / 10 / 10 % 10 by omega]
    rfl

theorem F.dd_app {a b:Nat} (ha:0<a) (h:b<10000):Lib.decDigits (a*10000+b)=Lib.decDigits a++F.pad4 (Lib.decDigits b):=by
 rw[F.pad_dd h,F.dd_ge (n:=a*10000+b) (by omega),F.dd_ge (n:=(a*10000+b) / 10) (by omega),F.dd_ge (n:=(a*10000+b) / 10 / 10) (by omega),F.dd_ge (n:=(a*10000+b) / 10 / 10 / 10) (by omega)]
 rw[show(a*10000+b) / 10 / 10 / 10 / 10=a by omega,show(a*10000+b) / 10 / 10 / 10 % 10=b / 1000 by omega,show(a*10000+b) / 10 / 10 % 10=b / 100 % 10 by omega,show(a*10000+b) / 10 % 10=b / 10 % 10 by omega,show(a*10000+b) % 10=b % 10 by omega]
 simp

def F.pcs (s:ByteArray):List Int:=if h:s.size=0 then [] else ((F.dv (s.extract (s.size - 4) s.size):Nat):Int)::F.pcs (s.extract 0 (s.size - 4))
termination_by s.size
decreasing_by rw[ByteArray.size_extract];omega

theorem F.dv_split {s:ByteArray} (k:Nat) (hk:k≤s.size):F.dv s=F.dv (s.extract 0 k)*10 ^ (s.size - k)+F.dv (s.extract k s.size):=by
 have hl:=F.bs_len s
 unfold F.dv
 rw[F.bs_ext,F.bs_ext,List.drop_zero,List.take_of_length_le (by omega:(F.bs s).length≤s.size)]
 conv=>lhs;rw[←List.take_append_drop k (F.bs s)]
 rw[F.dvA_app,F.dvA_acc,List.length_drop,hl]

theorem F.all_ext {s:ByteArray} (h:(F.bs s).all F.dgB=true) (i j:Nat):(F.bs (s.extract i j)).all F.dgB=true:=by
 rw[F.bs_ext,List.all_eq_true]
 intro x hx
 exact List.all_eq_true.1 h x (List.mem_of_mem_take (List.mem_of_mem_drop hx))

theorem F.pcs_ok : ∀(n:Nat) (s:ByteArray),s.size≤n→(F.bs s).all F.dgB=true→F.okLm (F.pcs s)∧F.vl (F.pcs s)=((F.dv s:Nat):Int):=by
 intro n
 induction n with
 | zero=>
  intro s hs _
  have h0:s.size=0:=by omega
  rw[F.pcs,dif_pos h0]
  have:F.bs s=[]:=List.length_eq_zero_iff.1 (by rw[F.bs_len,h0])
  exact⟨F.okLm_nil,by unfold F.dv;rw[this];rfl⟩
 | succ n ih=>
  intro s hs hd
  by_cases h0:s.size=0
  ·exact ih s (by omega) hd
  ·rw[F.pcs,dif_neg h0]
   have hz:(s.extract 0 (s.size - 4)).size=s.size - 4:=by rw[ByteArray.size_extract];omega
   have hz2:(s.extract (s.size - 4) s.size).size=s.size - (s.size - 4):=by rw[ByteArray.size_extract];omega
   obtain⟨i1,i2⟩:=ih (s.extract 0 (s.size - 4)) (by omega) (F.all_ext hd _ _)
   have hlt:=F.dvA_lt _ (F.all_ext hd (s.size - 4) s.size)
   rw[F.bs_len,hz2]at hlt
   have h4:10 ^ (s.size - (s.size - 4))≤10 ^ 4:=Nat.pow_le_pow_right (by decide) (by clear hlt hs hz hz2;omega)
   have hlt2:F.dv (s.extract (s.size - 4) s.size)<10000:=Nat.lt_of_lt_of_le hlt h4
   refine⟨F.okLm_cons (by omega) i1,?_⟩
   have hsp:=F.dv_split (s:=s) (s.size - 4) (by omega)
   rw[F.vl,i2,hsp]
   by_cases h:4≤s.size
   ·rw[show s.size - (s.size - 4)=4 by clear hlt hlt2 hsp;omega]
    clear hlt hlt2 hsp
    omega
   ·have e0:F.bs (s.extract 0 (s.size - 4))=[]:=List.length_eq_zero_iff.1 (by rw[F.bs_len,hz];omega)
    have e1:F.dv (s.extract 0 (s.size - 4))=0:=by unfold F.dv;rw[e0];rfl
    rw[e1];omega

theorem F.pcs_lb {s:ByteArray} (h:(F.bs s).all F.dgB=true):F.trimL (F.pcs s)=F.lb (F.dv s):=by
 obtain⟨q1,q2⟩:=F.pcs_ok s.size s (Nat.le_refl _) h
 rw[F.trimL_eq q1,q2];rfl

end Go.Proofs.YtbeobbjiogbdlaaGreatDoor

namespace Go.Proofs.YtbeobbjiogbdlaaGreatDoor
open Go Go.RowKit Go.Lib Go.Sort
set_option linter.unusedVariables false
set_option linter.unusedSimpArgs false
set_option maxHeartbeats 4000000
set_option maxRecDepth 100000

theorem holds_zero0 (w:World) (T:TypeId) (nd:Nat) (hs:nd≤24):Holds (fun(b:UInt8)=>Value.int .u8 (b.toNat:Int)) (w.alloc (.cells Lib.zeros24 T)) w.heap.size 0 (Array.replicate nd (0:UInt8)):=fun j hj=>by
 have hj':j<nd:=by simpa using hj
 refine⟨?_,World.frozen?_alloc_new _ _ _ _⟩
 rw[World.cell?_alloc_new,Lib.zeros24_at _ (by omega),getElem!_pos _ j hj]
 simp

theorem fin_pos0 (w:World) (o:Obj) (dk:Array UInt8) (k:Nat) : ∃os,(putRow (fun(b:UInt8)=>Value.int .u8 (b.toNat:Int)) (w.alloc o) w.heap.size 0 dk).drewN k=grow (w.drewN k) os:=by
 rw[Go.Sort.alloc_eq_grow]
 obtain⟨os',_,e⟩:=Go.Sort.putRow_grow_new (fun(b:UInt8)=>Value.int .u8 (b.toNat:Int)) w #[o] w.heap.size 0 dk (Nat.le_refl _)
 exact⟨os',by rw[e];rfl⟩

theorem fmtU_in (u : Nat) (hu64 : u < 18446744073709551616) (w : World) (htab : Lib.TabIs Tryz.prog w "internal/strconv.uint64pow10" .u64 Lib.pow10Tab) :
  Calls Tryz.prog 213 #[.int .u64 u, .int .i64 10] w fun e w'=>e = .returned (.string ⟨(Lib.decDigits u).toArray⟩) ∧ ∃k os,w'=grow (w.drewN k) os:=by
 by_cases hs:u<100
 ·have hs2:(u:Int)<100:=by omega
  go_enter Tryz.func213,Tryz.ntmps213
  go_wp2_with (go_at_call 185;refine(Tryz.internal_strconv_small u hs _).mono ?_;rintro e w' ⟨rfl,rfl⟩)
  go_ret
  exact⟨rfl,0, #[],by simp[World.drewN_zero]⟩
 ·have hs2 : ¬(u:Int)<100:=by omega
  have hu1:1≤u:=by omega
  have hnd20:Lib.nDigits u≤20:=by have:=Lib.numDigits_eq u hu1 hu64;split at this<;>omega
  have hb3:Lib.nDigits u≤24:=by omega
  have hal:Tryz.prog.arrayLen 246=24:=by kernel_rfl
  have hsl1 : ∀W,(Instr.sliceAt 246 (.pointer (some ⟨w.heap.size,0,none⟩)) none (some (.int .i64 (Lib.nDigits u:Int))) none).run Tryz.prog W = .ok (.slice (some ⟨w.heap.size,0,none⟩) (Lib.nDigits u) 24) W:=fun W=>by
   rw[run_sliceAt_array_h W 246 ⟨w.heap.size,0,none⟩ (by kernel_rfl) .i64 (Lib.nDigits u:Int) (by omega) (by rw[hal];omega)]
   go_simp
  have hH0:=holds_zero0 w 246 (Lib.nDigits u) hb3
  have hfmt:=Tryz.internal_strconv_formatBase10 w.heap.size 0 24 u (Array.replicate (Lib.nDigits u) 0) (w.alloc (.cells Lib.zeros24 246)) hH0 (by rw[Array.size_replicate];exact Lib.lt_pow_nDigits u) hu64 (by rw[Array.size_replicate];omega)
  rw[Array.size_replicate]at hfmt
  have HH0:=Lib.hid hH0
  clear hH0 hal
  go_enter Tryz.func213,Tryz.ntmps213
  go_wp2_with (first
   | (go_at_call 186;refine(Tryz.internal_strconv_numDigits u hu1 hu64 _ (Lib.tabIs_alloc htab _)).mono ?_;rintro e w' ⟨rfl,rfl⟩))
  go_at_call 187
  refine hfmt.mono ?_
  rintro e w' ⟨rfl,k,v',dk,rfl,hF⟩
  have hcv:(convert 26 9 (.slice (some ⟨w.heap.size,0,none⟩) (Lib.nDigits u) 24)).run Tryz.prog ((putRow (fun(b:UInt8)=>Value.int .u8 (b.toNat:Int)) (w.alloc (.cells Lib.zeros24 246)) w.heap.size 0 dk).drewN k) = .ok (.string ⟨(Lib.decDigits u).toArray⟩) ((putRow (fun(b:UInt8)=>Value.int .u8 (b.toNat:Int)) (w.alloc (.cells Lib.zeros24 246)) w.heap.size 0 dk).drewN k):=by
   have h:=run_convert_bytes_back (P:=Tryz.prog) ((putRow (fun(b:UInt8)=>Value.int .u8 (b.toNat:Int)) (w.alloc (.cells Lib.zeros24 246)) w.heap.size 0 dk).drewN k) 26 9 5 ⟨w.heap.size,0,none⟩ 24 (Lib.decDigits u) (by kernel_rfl) (by kernel_rfl) (by kernel_rfl) (fun j hj=>by
    rw[Lib.row_is_numeral hF j hj,Lib.add_plain,World.cell?_drewN]
    exact cell?_putRow (fun(b:UInt8)=>Value.int .u8 (b.toNat:Int)) _ w.heap.size 0 _ dk HH0.out (by rw[hF.size,Array.size_replicate]) j (by rw[hF.size];rw[Lib.decDigits_length]at hj;exact hj))
   rw[Lib.decDigits_length]at h
   exact h
  go_wp2
  go_ret
  obtain⟨os,eo⟩:=fin_pos0 w (.cells Lib.zeros24 246) dk k
  exact⟨rfl,k,os,eo⟩

theorem fmtU (u : Nat) (hu64 : u < 18446744073709551616) (w : World) (htab : Lib.TabIs Tryz.prog w "internal/strconv.uint64pow10" .u64 Lib.pow10Tab) :
  Calls Tryz.prog 168 #[.int .u64 u, .int .i64 10] w fun e w'=>e = .returned (.string ⟨(Lib.decDigits u).toArray⟩) ∧ ∃k os,w'=grow (w.drewN k) os:=by
 have hI:=fmtU_in u hu64 w htab
 go_enter Tryz.func168,Tryz.ntmps168
 go_wp2_with (go_at_call 213;refine hI.mono ?_;rintro e w' ⟨rfl,k,os,rfl⟩)
 go_ret
 exact⟨rfl,k,os,rfl⟩

namespace M

def encFmt1 (n:Nat):List AV:=[.v (.int .u64 n),vI 10]

def encFmt (a:Nat):List AV:=encFmt1 a

theorem encFmt_inj (a a':Nat) (h:encFmt a=encFmt a'):a=a':=by
 simp only[encFmt,encFmt1]at h
 try simp[]at h
 grind

theorem unFmt (n:Nat):unenc encFmt ([AV.v (Value.int IntKind.u64 (↑n:Int)),(vI (10:Int))])=some (n):=unenc_of encFmt_inj (n) rfl

def resFmt1 (n:Nat):AV×Heap:=(vS (F.itoa n),[])

def preFmt1 (n:Nat):Bool:=decide (n≤18446744073709551615)

noncomputable def oFmt:Orc:=orc 168 true encFmt (fun a=>preFmt1 a) fun a=>resFmt1 a

theorem okFmt:OrcOK Tryz.prog noG oFmt:=by
 refine orc_ok ⟨Tryz.f168,by kernel_rfl,by kernel_rfl,by kernel_rfl⟩ (fun n hp _=>?_) (fun _ _=>⟨rfl,rfl⟩)
 have hp:n≤18446744073709551615:=of_decide_eq_true hp
 have e:F.itoa (n:Int)=⟨(Lib.decDigits n).toArray⟩:=by unfold F.itoa;rw[Lib.itoa_nonneg]
 have hl:Lib.nDigits n≤20:=by
  by_cases h:n<10
  ·rw[Lib.nDigits_small h];omega
  ·have:=Lib.numDigits_eq n (by omega) (by omega);split at this<;>omega
 have hz:(F.itoa (n:Int)).size≤9223372036854775807:=by
  rw[e]
  show(Lib.decDigits n).toArray.size≤_
  rw[List.size_toArray,Lib.decDigits_length];omega
 refine SpecP.below2 (fun w S=>rv_mk (by show(F.itoa (n:Int)).size≤9223372036854775807;exact hz)) fun _ _ w S hG=>?_
 have hg:=hG 2 ⟨[],fun cs=>cs=(Lib.pow10Tab.map fun z=>Value.int .u64 z).toArray⟩ rfl
 obtain⟨cs,ty,o,h1,h2⟩:=hg.cells
 have htab : Lib.TabIs Tryz.prog w "internal/strconv.uint64pow10" .u64 Lib.pow10Tab := by
  have hn : Tryz.prog.globalNamed "internal/strconv.uint64pow10" = some 2 := by kernel_rfl
  simp only[Lib.TabIs,World.var?,hn,Option.bind_some,h1]
  rw[h2]
 refine(fmtU n (by omega) w htab).mono ?_
 rintro e' w' ⟨he,k,os,rfl⟩
 rw[←e]at he
 exact⟨he,below_grow w k os⟩

end M

end Go.Proofs.YtbeobbjiogbdlaaGreatDoor

namespace Go.Proofs.YtbeobbjiogbdlaaGreatDoor
open Go Go.RowKit
set_option linter.unusedVariables false
set_option linter.unusedSimpArgs false
set_option maxHeartbeats 1000000

theorem F.isD_le {s:ByteArray} (h:F.isD s=true):F.dv s≤9223372036854775807:=by
 unfold F.isD at h
 simp only[Bool.and_eq_true,decide_eq_true_eq]at h
 exact h.2

namespace M

def encLat1 (s:ByteArray):List AV:=[vS s]

def encLat (a:ByteArray):List AV:=encLat1 a

theorem encLat_inj (a a':ByteArray) (h:encLat a=encLat a'):a=a':=by
 simp only[encLat,encLat1]at h
 try simp[]at h
 grind

theorem unLat (s:ByteArray):unenc encLat ([(vS s)])=some (s):=unenc_of encLat_inj (s) rfl

def resLat1 (s:ByteArray):AV×Heap:=(.tup [vI (F.dv s:Nat), .v .nilIface],[])

def preLat1 (s:ByteArray):Bool:=F.isD s&&decide (s.size≤1000)

noncomputable def oLat:Orc:=orc 164 true encLat (fun a=>preLat1 a) fun a=>resLat1 a

theorem okLat:OrcOK Tryz.prog noG oLat:=by
 refine orc_ok ⟨Tryz.f164,by kernel_rfl,by kernel_rfl,by kernel_rfl⟩ (fun s hp _=>?_) (fun _ _=>⟨rfl,rfl⟩)
 simp only[preLat1,Bool.and_eq_true,decide_eq_true_eq]at hp
 have h1:=F.isD_ato hp.1
 have h2:=F.isD_le hp.1
 refine SpecP.below1 (rv:= .tuple #[.int .i64 (F.dv s:Nat), .nilIface]) (fun w S=>⟨[_,_],rfl,R0.v (by simp only[okAtom,IntKind.min,IntKind.max,IntKind.signed,IntKind.bits];simp;omega),R0.v trivial,trivial⟩) fun hk w S hG=>?_
 refine(Tryz.strconv_Atoi_ok s (by omega) (F.dv s:Nat) h1 w).mono ?_
 rintro e w' ⟨he,h | ⟨t,h⟩⟩
 ·subst h;exact⟨he,Below.refl _ _⟩
 ·subst h;exact⟨he,Lib.bytesWorld_below w _ _⟩

end M

theorem F.isD_ext {s:ByteArray} (h:(F.bs s).all F.dgB=true) (hs:s.size≤1000) (h0:s.size≠0):F.isD (s.extract (s.size - 4) s.size)=true:=by
 have hz2:(s.extract (s.size - 4) s.size).size=s.size - (s.size - 4):=by rw[ByteArray.size_extract];omega
 have ha:=F.all_ext h (s.size - 4) s.size
 have hlt:=F.dvA_lt _ ha
 rw[F.bs_len,hz2]at hlt
 have h4:10 ^ (s.size - (s.size - 4))≤10 ^ 4:=Nat.pow_le_pow_right (by decide) (by clear hlt hz2;omega)
 have hlt2:F.dv (s.extract (s.size - 4) s.size)<10000:=Nat.lt_of_lt_of_le hlt h4
 unfold F.isD
 rw[ha,decide_eq_true (by clear hlt h4 hlt2;omega),decide_eq_true (by clear hlt h4;omega)]
 rfl

namespace M

def stLim (s:ByteArray) (acc:List Int):St:=⟨[(3, .own 3),(0,vS s)],[(3,⟨false,3,1,acc.map eI⟩)]⟩

def stLim1 (a:ByteArray×(List Int)):St:=stLim a.1 a.2

theorem stLim_inj (a a':ByteArray×(List Int)) (h:stLim1 a=stLim1 a'):a=a':=by
 simp only[stLim1,stLim]at h
 try simp[ints_inj]at h
 grind

theorem unstLim0 (s:ByteArray)  : unenc stLim1 (St.mk [(3, .own 3),(0,(vS s))] [(3,Blk.mk false 3 1 [])])=some (s,[]):=unenc_of stLim_inj (s,[]) rfl

def outLim (s:ByteArray) (acc:List Int):T (Ex×St):= .ret (.exit 0,⟨[(3, .own 3)],[(3,⟨false,3,1,(acc++F.pcs s).map eI⟩)]⟩)

noncomputable def prlLim (s:ByteArray) (acc:List Int):Bool:=(F.bs s).all F.dgB&&decide (s.size≤1000)&&decide (acc.length+s.size≤1000)

noncomputable def lpLim:Nat×(St→T (Ex×St)):=(2,lpo [3,0] [3] stLim1 (fun a=>prlLim a.1 a.2) fun a=>outLim a.1 a.2)

noncomputable def enLim:Env:=envH ty noG lks [oTrm,oLat] [] [] [lpLim]

theorem enLim_ok:EnvOK Tryz.prog enLim:=by
 refine envH_ok lks_ok ty_ok ?_ ?_
 ·simp only[List.forall_mem_cons]
  exact⟨okTrm,okLat,by simp⟩
 ·simp

theorem evLimL (s:ByteArray) (acc:List Int):((exec enLim (loopN Tryz.f163 0) (stLim s acc)).bind (lessX ([3,0],[3]) ([3],[3]) ([],[]))).val =
 bif decide ((0:Int)<(↑(ByteArray.size s):Int)) then Option.bind (idx (max (0:Int) (IntKind.i64.wrap ((↑(ByteArray.size s):Int) - (4:Int))))) fun(z :
 Nat)=>bif Nat.ble z (ByteArray.size s)&&Nat.ble (ByteArray.size s) (ByteArray.size s) then Option.bind (unenc encLat [(vS (ByteArray.extract s z (ByteArray.size s)))])
 fun z=>bif F.isD z&&decide (ByteArray.size z≤1000) then bif Nat.ble ((List.length (List.map eI acc)+1)*8) 140737488355328&&true then Option.bind (idx (max (0:Int) (IntKind.i64.wrap ((↑(ByteArray.size s):Int) - (4:Int))))) fun z_1=>bif Nat.ble (0:Nat) z_1 &&
 Nat.ble z_1 (ByteArray.size s) then some (Ex.normal,St.mk [(3, .own 3),(0,(vS (ByteArray.extract s (0:Nat) z_1)))] [(3,Blk.mk false 3 1 (List.map eI acc++[[(vI
 (↑(F.dv z):Int))]]))]) else none else none else none else none else some (Ex.exit (0:Nat),St.mk [(3, .own 3)] [(3,Blk.mk false 3 1 (List.map eI acc))]):=(execR_bind _ _ _).symm.trans (by kernel_rfl)

theorem lpLim_ok (s:ByteArray) (acc:List Int) (hp:prlLim s acc=true) : ∀ex s',(outLim s acc).val=some (ex,s')→LoopOK enLim (loopN Tryz.f163 0) (stLim s acc) ex s':=by
 simp only[prlLim,Bool.and_eq_true,decide_eq_true_eq]at hp
 obtain⟨⟨h1,h2⟩,h3⟩:=hp
 refine loop_gen (st:=fun p:ByteArray×List Int=>stLim p.1 p.2) (out:=fun p=>outLim p.1 p.2) (I:=fun p=>(F.bs p.1).all F.dgB=true∧p.1.size≤1000∧p.2.length+p.1.size≤1000) (n:=([3,0],[3])) (e:=([3],[3])) (r:=([],[])) (fun p=>p.1.size) ?_ (s,acc) ⟨h1,h2,h3⟩
 clear h1 h2 h3
 rintro⟨s,acc⟩ ⟨h1,h2,h3⟩
 simp only at h1 h2 h3
 by_cases h0:s.size=0
 ·left
  refine⟨(.exit 0,⟨[(3, .own 3)],[(3,⟨false,3,1,acc.map eI⟩)]⟩),?_,?_,by simp,rfl⟩
  ·have c : ¬(0:Int)<(s.size:Int):=by omega
   rw[evLimL]
   simp only[unLat,Option.bind_some,List.length_map,cond_false,Bool.and_true,decide_eq_false c]
  ·rw[outLim,F.pcs,dif_pos h0,List.append_nil]
   rfl
 ·right
  have c:(0:Int)<(s.size:Int):=by omega
  have hm:max 0 (IntKind.i64.wrap ((s.size:Int) - 4))=((s.size - 4:Nat):Int):=by rw[wrap_id (by omega) (by omega)];omega
  have hi:idx ((s.size - 4:Nat):Int)=some (s.size - 4):=idx_n (by omega)
  have hz:(s.extract 0 (s.size - 4)).size=s.size - 4:=by rw[ByteArray.size_extract];omega
  have hz2:(s.extract (s.size - 4) s.size).size≤1000:=by rw[ByteArray.size_extract];omega
  have b1:Nat.ble (s.size - 4) s.size=true:=ble_t (by omega)
  have b2:Nat.ble s.size s.size=true:=ble_t (Nat.le_refl _)
  have b3:Nat.ble ((acc.length+1)*8) 140737488355328=true:=ble_t (by omega)
  refine⟨(s.extract 0 (s.size - 4),acc++[((F.dv (s.extract (s.size - 4) s.size):Nat):Int)]),?_,rfl,⟨F.all_ext h1 _ _,by simp only;omega,by simp only[List.length_append,List.length_singleton];omega⟩,by simp only;omega,?_⟩
  ·rw[evLimL]
   simp only[unLat,Option.bind_some,List.length_map,cond_true,Bool.and_true,Bool.true_and,decide_eq_true c,hm,hi,b1,b2,b3,ble_t (Nat.zero_le _),F.isD_ext h1 h2 h0,decide_eq_true hz2,stLim]
   rw[List.map_append]
   rfl
  ·have e:F.pcs s=((F.dv (s.extract (s.size - 4) s.size):Nat):Int)::F.pcs (s.extract 0 (s.size - 4)):=by rw[F.pcs,dif_neg h0]
   simp only[outLim]
   rw[e,List.append_assoc,List.singleton_append]

theorem evLim (s:ByteArray):(runF enLim false Tryz.f163 [vS s]).val =
 Option.bind (unenc stLim1 (St.mk [(3, .own 3),(0,(vS s))] [(3,Blk.mk false 3 1 [])])) fun z=>bif List.all (F.bs z.1) F.dgB&&decide
 (ByteArray.size z.1≤1000)&&decide (List.length z.2+ByteArray.size z.1≤1000)&&true then Option.bind (unenc encTrm [AV.sl (List.map eI (z.2
 ++ F.pcs z.1))]) fun z=>bif decide (List.length z≤100000) then some (AV.sl (List.map eI (F.trimL z)),[]) else none else none:=(runFR_val).symm.trans (by kernel_rfl)

def encLim1 (s:ByteArray):List AV:=[vS s]

def encLim (a:ByteArray):List AV:=encLim1 a

theorem encLim_inj (a a':ByteArray) (h:encLim a=encLim a'):a=a':=by
 simp only[encLim,encLim1]at h
 try simp[]at h
 grind

theorem unLim (s:ByteArray):unenc encLim ([(vS s)])=some (s):=unenc_of encLim_inj (s) rfl

def resLim1 (s:ByteArray):AV×Heap:=(.sl ((F.lb (F.dv s)).map eI),[])

def preLim1 (s:ByteArray):Bool:=(F.bs s).all F.dgB&&decide (s.size≤1000)

noncomputable def oLim:Orc:=orc 163 false encLim (fun a=>preLim1 a) fun a=>resLim1 a

theorem okLim:OrcOK Tryz.prog noG oLim:=by
 refine mk_ok Tryz.f163 (keep:=false) (by kernel_rfl) (by kernel_rfl) enLim_ok mixed (one_loop (x0:=loopN Tryz.f163 0) (by kernel_rfl) (lpo_ok ?_)) (by first | exact fun _ _=>⟨rfl,rfl⟩ | (intro h;cases h)) ?_
 ·rintro⟨s,acc⟩ hp
  exact lpLim_ok s acc hp
 rintro s hpre hok
 show(runF enLim false _ (encLim1 _)).val=some (resLim1 _)
 unfold encLim1 resLim1
 rw[evLim]
 have hpre:((F.bs s).all F.dgB&&decide (s.size≤1000))=true:=hpre
 rw[Bool.and_eq_true,decide_eq_true_eq]at hpre
 have hl : ∀(n:Nat) (s:ByteArray),s.size≤n→(F.pcs s).length≤n:=by
  intro n
  induction n with
  | zero=>intro s hs;rw[F.pcs,dif_pos (by omega)];exact Nat.le_refl _
  | succ n ih=>
   intro s hs
   by_cases h0:s.size=0
   ·rw[F.pcs,dif_pos h0];exact Nat.zero_le _
   ·rw[F.pcs,dif_neg h0,List.length_cons]
    have:=ih (s.extract 0 (s.size - 4)) (by rw[ByteArray.size_extract];omega)
    omega
 have hl:=hl s.size s (Nat.le_refl _)
 simp only[unTrm,unstLim0,Option.bind_some,cond_true,Bool.and_true,hpre.1,decide_eq_true hpre.2,List.length_nil,Nat.zero_add,List.nil_append,decide_eq_true (by omega:(F.pcs s).length≤100000),F.pcs_lb hpre.1]

end M

theorem F.cat_assoc (a b c:ByteArray):a++b++c=a++(b++c):=F.bsx (by simp only[F.bs_cat,List.append_assoc])

theorem F.cat_nil (a:ByteArray):a++⟨#[]⟩=a:=F.bsx (by rw[F.bs_cat];exact List.append_nil _)

def F.pdT (x:Int):ByteArray:=F.zrs (4 - (F.itoa x).size)++F.itoa x

def F.tlT (l:List Int):Nat→ByteArray
 | 0=>⟨#[]⟩
 | k+1=>F.pdT (l.getD k 0)++F.tlT l k

def F.txL:List Int→ByteArray
 | []=>⟨#[]⟩
 | [x]=>F.itoa x
 | x::y::l=>F.txL (y::l)++F.pdT x

theorem F.tlT_cons (x:Int) (l:List Int) : ∀k,F.tlT (x::l) (k+1)=F.tlT l k++F.pdT x
 | 0=>by
  show F.pdT x++⟨#[]⟩=_
  rw[F.cat_nil]
  exact F.bsx (by rw[F.bs_cat];rfl)
 | k+1=>by
  rw[F.tlT,F.tlT_cons x l k,F.tlT,←F.cat_assoc]
  rfl

theorem F.txL_eq : ∀(l:List Int) (h:l≠[]),F.itoa (l.getLast h)++F.tlT l (l.length - 1)=F.txL l
 | [x],_=>by
  show F.itoa x++⟨#[]⟩=F.itoa x
  exact F.cat_nil _
 | x::y::l,h=>by
  have ih:=F.txL_eq (y::l) (by simp)
  rw[F.txL,←ih,List.getLast_cons (by simp),F.cat_assoc]
  congr 1
  exact F.tlT_cons x (y::l) l.length

theorem F.txL_lb (n:Nat) (h:0<n):F.txL (F.lb n)=F.itoa (n:Int):=by
 induction n using Nat.strongRecOn with
 | ind n ih=>
  rw[F.lb_pos (by omega)]
  by_cases hs:n<10000
  ·rw[show n / 10000=0 by omega,F.lb_zero,F.txL,show n % 10000=n by omega]
  ·have hp:0<n / 10000:=by omega
   have i:=ih (n / 10000) (by omega) hp
   have hc:F.txL (((n % 10000:Nat):Int)::F.lb (n / 10000))=F.txL (F.lb (n / 10000))++F.pdT ((n % 10000:Nat):Int):=by
    rw[F.lb_pos (by omega:n / 10000≠0)]
    rfl
   rw[hc,i]
   refine F.bsx ?_
   have hd:=F.dd_app hp (Nat.mod_lt n (by decide:0<10000))
   rw[show n / 10000*10000+n % 10000=n by omega]at hd
   unfold F.pdT
   rw[F.bs_cat,F.bs_cat,F.bs_zrs,F.itoa_n,F.itoa_n,F.itoa_n,hd]
   unfold F.pad4
   rw[←F.bs_len,F.itoa_n]

theorem F.itoa_0:F.itoa ((0:Nat):Int)=⟨#[48]⟩:=F.bsx (by rw[F.itoa_n,F.dd_lt (by decide)];rfl)

theorem F.dd_len4 {n:Nat} (h:n≤9999):(F.itoa (n:Int)).size≤4:=by
 have e:=F.pad_dd (b:=n) (by omega)
 have:=congrArg List.length e
 unfold F.pad4 at this
 rw[List.length_append,List.length_replicate]at this
 rw[←F.bs_len,F.itoa_n]
 simp only[List.length_cons,List.length_nil]at this
 omega

namespace M

def encLrp1 (c:Nat):List AV:=[vS ⟨#[48]⟩,vI c]

def encLrp (a:Nat):List AV:=encLrp1 a

theorem encLrp_inj (a a':Nat) (h:encLrp a=encLrp a'):a=a':=by
 simp only[encLrp,encLrp1]at h
 try simp[]at h
 grind

theorem unLrp (c:Nat):unenc encLrp ([(vS (ByteArray.mk (Array.mk [(48:UInt8)]))),(vI (↑c:Int))])=some (c):=unenc_of encLrp_inj (c) rfl

def resLrp1 (c:Nat):AV×Heap:=(vS (F.zrs c),[])

def preLrp1 (c:Nat):Bool:=decide (c≤1000)

noncomputable def oLrp:Orc:=orc 211 true encLrp (fun a=>preLrp1 a) fun a=>resLrp1 a

theorem okLrp:OrcOK Tryz.prog noG oLrp:=by
 refine orc_ok ⟨Tryz.f211,by kernel_rfl,by kernel_rfl,by kernel_rfl⟩ (fun c hp _=>?_) (fun _ _=>⟨rfl,rfl⟩)
 have hp:c≤1000:=of_decide_eq_true hp
 refine SpecP.below2 (fun w S=>rv_mk (by show(F.zrs c).size≤9223372036854775807;rw[F.zrs_size];omega)) fun _ _ w S hG=>?_
 refine(Tryz.strings_Repeat ⟨#[48]⟩ c w (by omega) (by show 1*c≤_;omega)).mono ?_
 rintro e w' ⟨he,hb⟩
 exact⟨by rw[he,←F.rep_zrs],hb⟩

def stLdg (l:List Int) (t:ByteArray) (i:Int):St:=⟨[(4,vI i),(3,vS t),(0, .sl (l.map eI))],[]⟩

def stLdg1 (a:(List Int)×ByteArray×Int):St:=stLdg a.1 a.2.1 a.2.2

theorem stLdg_inj (a a':(List Int)×ByteArray×Int) (h:stLdg1 a=stLdg1 a'):a=a':=by
 simp only[stLdg1,stLdg]at h
 try simp[ints_inj]at h
 grind

theorem unstLdg (l:List Int) (t:ByteArray) (i:Int):unenc stLdg1 (St.mk [(4,(vI i)),(3,(vS t)),(0,AV.sl (List.map eI l))] [])=some (l,t,i):=unenc_of stLdg_inj (l,t,i) rfl

def outLdg (l:List Int) (t:ByteArray) (i:Int):T (Ex×St):= .ret (.exit 0,⟨[(3,vS (t++F.tlT l (i+1).toNat))],[]⟩)

noncomputable def prlLdg (l:List Int) (t:ByteArray) (i:Int):Bool:=F.nk 200 l&&decide (-1≤i)&&decide (i<l.length)&&decide (t.size+4*(i+1).toNat≤10000)

noncomputable def lpLdg:Nat×(St→T (Ex×St)):=(5,lpo [4,3,0] [] stLdg1 (fun a=>prlLdg a.1 a.2.1 a.2.2) fun a=>outLdg a.1 a.2.1 a.2.2)

noncomputable def enLdg:Env:=envH ty noG lks [oIta,oLrp] [] [] [lpLdg]

theorem enLdg_ok:EnvOK Tryz.prog enLdg:=by
 refine envH_ok lks_ok ty_ok ?_ ?_
 ·simp only[List.forall_mem_cons]
  exact⟨okIta,okLrp,by simp⟩
 ·simp

theorem evLdgL (l:List Int) (t:ByteArray) (i:Int):((exec enLdg (loopN Tryz.f165 0) (stLdg l t i)).bind (lessX ([4,3,0],[]) ([3],[]) ([],[]))).val =
 bif decide ((0:Int)≤i) then Option.bind (idx i) fun z=>Option.bind (unenc (List.map eI) (List.map eI l)) fun z_1=>bif decide (z<List.length
 z_1) then Option.bind (unenc encIta [(vI (List.getD z_1 z 0))]) fun z=>bif decide ((-9223372036854775808:Int)≤z)&&decide (z≤9223372036854775807) then Option.bind (unenc encLrp [(vS ⟨⟨[48]⟩⟩),(vI (IntKind.i64.wrap ((4:Int) - (↑(ByteArray.size (F.itoa z)):Int))))])
 fun z_2=>bif decide (z_2≤1000) then bif Nat.ble (ByteArray.size (F.zrs z_2)+ByteArray.size (F.itoa z)) 9223372036854775807 then bif Nat.ble
 (ByteArray.size t+ByteArray.size (F.zrs z_2++F.itoa z)) (9223372036854775807:Nat) then some (Ex.normal,St.mk [(4,(vI (IntKind.i64.wrap (i - (1:Int))))),
 (3,(vS (t++(F.zrs z_2++F.itoa z)))),(0,AV.sl (List.map eI l))] []) else none else none else none else none else none else some (Ex.exit (0:Nat),St.mk [(3,(vS
 t))] []):=(execR_bind _ _ _).symm.trans (by kernel_rfl)

theorem lpLdg_ok (l:List Int) (t:ByteArray) (i:Int) (hp:prlLdg l t i=true) : ∀ex s',(outLdg l t i).val=some (ex,s')→LoopOK enLdg (loopN Tryz.f165 0) (stLdg l t i) ex s':=by
 simp only[prlLdg,Bool.and_eq_true,decide_eq_true_eq]at hp
 obtain⟨⟨⟨h1,h2⟩,h3⟩,h4⟩:=hp
 have l1:=F.nk_len h1
 have o1:=F.nk_ok h1
 clear h1
 obtain⟨n,rfl⟩ : ∃n:Nat,i=(n:Int) - 1:=⟨(i+1).toNat,by omega⟩
 have hn:((n:Int) - 1+1).toNat=n:=by omega
 rw[hn]at h4
 refine loop_gen (st:=fun p:ByteArray×Nat=>stLdg l p.1 ((p.2:Int) - 1)) (out:=fun p=>outLdg l p.1 ((p.2:Int) - 1)) (I:=fun p=>p.2≤l.length∧p.1.size+4*p.2≤10000) (n:=([4,3,0],[])) (e:=([3],[])) (r:=([],[])) (fun p=>p.2) ?_ (t,n) ⟨by omega,h4⟩
 clear h2 h3 h4 hn
 rintro⟨t,n⟩ ⟨g1,g2⟩
 simp only at g1 g2
 have e:((n:Int) - 1+1).toNat=n:=by omega
 cases n with
 | zero=>
  left
  refine⟨(.exit 0,⟨[(3,vS t)],[]⟩),?_,?_,by simp,rfl⟩
  ·rw[evLdgL];simp
  ·simp only[outLdg,e,F.tlT,F.cat_nil];rfl
 | succ j=>
  right
  have hlt:j<l.length:=g1
  have hy:l[j]? = some l[j]:=List.getElem?_eq_getElem hlt
  have hg:l.getD j 0=l[j]:=by simp[hy]
  have hx:=o1 _ (List.getElem_mem hlt)
  generalize l[j]=x at hy hg hx
  obtain⟨m,rfl⟩ : ∃m:Nat,x=m:=⟨x.toNat,by omega⟩
  have hm4:=F.dd_len4 (n:=m) (by omega)
  have hj:(((j+1:Nat):Int) - 1)=(j:Int):=by omega
  have hw:IntKind.i64.wrap ((j:Int) - 1)=(j:Int) - 1:=wrap_id (by omega) (by omega)
  have hw4:IntKind.i64.wrap (4 - ((F.itoa (m:Int)).size:Int))=((4 - (F.itoa (m:Int)).size:Nat):Int):=by rw[wrap_id (by omega) (by omega)];omega
  have hi:idx ((j:Nat):Int)=some j:=idx_n (by omega)
  have h0:decide ((0:Int)≤(j:Int))=true:=decide_eq_true (by omega)
  have p1:decide (-9223372036854775808≤(m:Int))=true:=decide_eq_true (by omega)
  have p2:decide ((m:Int)≤9223372036854775807)=true:=decide_eq_true (by omega)
  have p3:decide (4 - (F.itoa (m:Int)).size≤1000)=true:=decide_eq_true (by omega)
  have b1:Nat.ble ((F.zrs (4 - (F.itoa (m:Int)).size)).size+(F.itoa (m:Int)).size) 9223372036854775807=true:=ble_t (by rw[F.zrs_size];omega)
  have hps:(F.pdT (m:Int)).size=4:=by unfold F.pdT;rw[ByteArray.size_append,F.zrs_size];omega
  have b2:Nat.ble (t.size+(F.zrs (4 - (F.itoa (m:Int)).size)++F.itoa (m:Int)).size) 9223372036854775807=true:=ble_t (by
   show t.size+(F.pdT (m:Int)).size≤_
   omega)
  rw[hj]at e ⊢
  refine⟨(t++F.pdT (m:Int),j),?_,rfl,⟨by simp only;omega,by simp only[ByteArray.size_append,hps];omega⟩,by simp only;omega,?_⟩
  ·rw[evLdgL]
   simp only[unIta,unLrp,Option.bind_some,unInts,cond_true,Bool.and_true,h0,hi,decide_eq_true hlt,getD_at hy,hw,hw4,p1,p2,p3,b1,b2,stLdg]
   rfl
  ·have e2:((j:Int) - 1+1).toNat=j:=by omega
   simp only[outLdg,e,e2,F.tlT,hg,F.cat_assoc]

theorem evLdg (l:List Int):(runF enLdg false Tryz.f165 [.sl (l.map eI)]).val =
 bif (↑(List.length (List.map eI l)):Int)==0 then some ((vS ⟨⟨[48]⟩⟩),[]) else Option.bind (idx (IntKind.wrap IntKind.i64
 ((↑(List.length (List.map eI l)):Int) - (1:Int)))) fun z=>Option.bind (unenc (List.map eI) (List.map eI l)) fun z_1=>bif decide (z <
 List.length z_1) then Option.bind (unenc encIta [(vI (List.getD z_1 z 0))]) fun z=>bif decide ((-9223372036854775808:Int)≤z)&&decide (z ≤
 (9223372036854775807:Int)) then Option.bind (unenc stLdg1 (St.mk [(4,(vI (IntKind.i64.wrap ((↑(List.length (List.map eI l)):Int) - (2:Int))))),(3,(vS
 (F.itoa z))),(0,AV.sl (List.map eI l))] [])) fun z=>bif F.nk (200:Nat) z.1&&decide ((-1:Int)≤z.2.2)&&decide (z.2.2 <
 (↑(List.length z.1):Int))&&decide (ByteArray.size z.2.1+4*Int.toNat (z.2.2+1)≤10000)&&true then some ((vS (z.2.1 ++
 F.tlT z.1 (Int.toNat (z.2.2+1)))),[]) else none else none else none:=(runFR_val).symm.trans (by kernel_rfl)

def encLdg1 (l:List Int):List AV:=[.sl (l.map eI)]

def encLdg (a:(List Int)):List AV:=encLdg1 a

theorem encLdg_inj (a a':(List Int)) (h:encLdg a=encLdg a'):a=a':=by
 simp only[encLdg,encLdg1]at h
 try simp[ints_inj]at h
 grind

theorem unLdg (l:List Int):unenc encLdg ([AV.sl (List.map eI l)])=some (l):=unenc_of encLdg_inj (l) rfl

def resLdg1 (l:List Int):AV×Heap:=(vS (F.itoa (F.nv l:Nat)),[])

def preLdg1 (l:List Int):Bool:=F.nk 200 l

noncomputable def oLdg:Orc:=orc 165 true encLdg (fun a=>preLdg1 a) fun a=>resLdg1 a

theorem okLdg:OrcOK Tryz.prog noG oLdg:=by
 refine mk_ok Tryz.f165 (keep:=false) (by kernel_rfl) (by kernel_rfl) enLdg_ok mixed (one_loop (x0:=loopN Tryz.f165 0) (by kernel_rfl) (lpo_ok ?_)) (by first | exact fun _ _=>⟨rfl,rfl⟩ | (intro h;cases h)) ?_
 ·rintro⟨l,t,i⟩ hp
  exact lpLdg_ok l t i hp
 rintro l hpre hok
 show(runF enLdg false _ (encLdg1 _)).val=some (resLdg1 _)
 unfold encLdg1 resLdg1
 rw[evLdg]
 have hpre:F.nk 200 l=true:=hpre
 have l1:=F.nk_len hpre
 have o1:=F.nk_ok hpre
 have hln:=len_nv hpre
 by_cases hz:F.nv l=0
 ·rw[decide_eq_true hz]at hln
  simp only[unIta,unstLdg,Option.bind_some,List.length_map,unInts,cond_true,Bool.and_true,hln,hz]
  rw[F.itoa_0]
 ·rw[decide_eq_false hz]at hln
  have hne:l≠[]:=by rintro rfl;exact hz rfl
  have hpos:0<l.length:=List.length_pos_iff.2 hne
  have hw1:IntKind.i64.wrap ((l.length:Int) - 1)=((l.length - 1:Nat):Int):=by rw[wrap_id (by omega) (by omega)];omega
  have hw2:IntKind.i64.wrap ((l.length:Int) - 2)=(l.length:Int) - 2:=wrap_id (by omega) (by omega)
  have hi:idx ((l.length - 1:Nat):Int)=some (l.length - 1):=idx_n (by omega)
  have hlt:l.length - 1<l.length:=by omega
  have hg:l.getD (l.length - 1) 0=l.getLast hne:=by simp[List.getD,List.getElem?_eq_getElem hlt,List.getLast_eq_getElem]
  have hx:=o1 _ (List.getLast_mem hne)
  have htx:=F.txL_eq l hne
  have hres:F.txL l=F.itoa (F.nv l:Nat):=by
   obtain⟨m,hm,_⟩:=F.nk_of hpre
   have:=F.txL_lb m (by rw[hm,F.nv_lb]at hz;omega)
   rw[hm,F.nv_lb];exact this
  rw[hres]at htx
  generalize l.getLast hne=x at hg hx htx
  obtain⟨m,rfl⟩ : ∃m:Nat,x=m:=⟨x.toNat,by omega⟩
  have hm4:=F.dd_len4 (n:=m) (by omega)
  have e:((l.length:Int) - 2+1).toNat=l.length - 1:=by omega
  simp only[unIta,unstLdg,Option.bind_some,List.length_map,unInts,cond_true,cond_false,Bool.and_true,Bool.true_and,hln,hw1,hw2,hi,decide_eq_true hlt,hg,hpre,e,htx,decide_eq_true (by omega:(-9223372036854775808:Int)≤(m:Int)),decide_eq_true (by omega:(m:Int)≤9223372036854775807),decide_eq_true (by omega:(-1:Int)≤(l.length:Int) - 2),decide_eq_true (by omega:(l.length:Int) - 2<(l.length:Int)),decide_eq_true (by omega:(F.itoa (m:Int)).size+4*(l.length - 1)≤10000)]

end M

def F.rndUp (way:Int) (xn:Bool) (t b:Nat):Bool:=
 bif way==1 then xn&&decide (0<t % b) else bif way==3 then !xn&&decide (0<t % b) else bif way==2 then decide (b≤t % b+t % b) else false

def F.rndU (way:Int) (xn:Bool) (t b:Nat):Nat:=bif F.rndUp way xn t b then t / b+1 else t / b

def F.sg (xn:Bool) (q:Nat):Int:=bif xn then -(q:Int) else q

theorem F.lb_gt (n:Nat):decide ((0:Int)<((F.lb n).length:Int))=decide (0<n):=by
 have h:=F.lb_emp n
 by_cases hz:n=0
 ·rw[decide_eq_false (by omega),decide_eq_false (by omega)]
 ·rw[decide_eq_true (by omega),decide_eq_true (by omega)]

namespace M

theorem unAdd_1 (a:List Int):unenc encAdd [.sl (a.map eI), .sl [[vI 1]]]=some (a,[1]):=unAdd a [1]

noncomputable def enRnd1:Env:=envH ty noG lks [oDv,oAdd,oCpr] [] [] []

theorem enRnd1_ok:EnvOK Tryz.prog enRnd1:=by
 refine envH_ok lks_ok ty_ok ?_ ?_
 ·simp only[List.forall_mem_cons]
  exact⟨okDv,okAdd,okCpr,by simp⟩
 ·simp

theorem evRou (xn:Bool) (xt:List Int) (xb:List Int) (way:Int):(runF enRnd1 false Tryz.f161 [.agg [vB xn, .sl (xt.map eI), .sl (xb.map eI)],vI way]).val =
 Option.bind (unenc encDv [AV.sl (List.map eI xt),AV.sl (List.map eI xb)]) fun z=>bif F.nk (200:Nat) z.1&&F.nk (200:Nat) z.2&&decide
 ((0:Nat)<F.nv z.2) then bif way==1 then bif bif xn then decide ((0:Int)<(↑(List.length (List.map eI (F.lb (Nat.mod (F.nv z.1) (F.nv z.2))))) :
 Int)) else false then Option.bind (unenc encAdd [AV.sl (List.map eI (F.lb (Nat.div (F.nv z.1) (F.nv z.2)))),AV.sl [[(vI 1)]]]) fun(z:List Int×List Int)
 =>bif F.nk (1000:Nat) z.1&&F.nk (1000:Nat) z.2 then some (AV.sl (List.map eI (F.lb (F.nv z.1+F.nv z.2))),[]) else none else some (AV.sl (List.map eI
 (F.lb (Nat.div (F.nv z.1) (F.nv z.2)))),[]) else bif way==3 then bif bif !xn then decide ((0:Int)<(↑(List.length (List.map eI (F.lb (Nat.mod (F.nv
 z.1) (F.nv z.2))))):Int)) else false then Option.bind (unenc encAdd [AV.sl (List.map eI (F.lb (Nat.div (F.nv z.1) (F.nv z.2)))),AV.sl [[(vI 1)]]]) fun
 (z:List Int×List Int)=>bif F.nk (1000:Nat) z.1&&F.nk (1000:Nat) z.2 then some (AV.sl (List.map eI (F.lb (F.nv z.1+F.nv z.2))),[]) else none else
 some (AV.sl (List.map eI (F.lb (Nat.div (F.nv z.1) (F.nv z.2)))),[]) else bif way==2 then Option.bind (unenc encAdd [AV.sl (List.map eI (F.lb (Nat.mod (F.nv
 z.1) (F.nv z.2)))),AV.sl (List.map eI (F.lb (Nat.mod (F.nv z.1) (F.nv z.2))))]) fun z_1=>bif F.nk (1000:Nat) z_1.1&&F.nk (1000 :
 Nat) z_1.2 then Option.bind (unenc encCpr [AV.sl (List.map eI (F.lb (F.nv z_1.1+F.nv z_1.2))),AV.sl (List.map eI xb)]) fun z_2=>bif F.nk
 (1000:Nat) z_2.1&&F.nk (1000:Nat) z_2.2 then bif decide ((0:Int)≤F.sgnL (↑(F.nv z_2.1):Int) (↑(F.nv z_2.2):Int)) then Option.bind (unenc encAdd
 [AV.sl (List.map eI (F.lb (Nat.div (F.nv z.1) (F.nv z.2)))),AV.sl [[(vI 1)]]]) fun z=>bif F.nk (1000:Nat) z.1&&F.nk (1000 :
 Nat) z.2 then some (AV.sl (List.map eI (F.lb (F.nv z.1+F.nv z.2))),[]) else none else some (AV.sl (List.map eI (F.lb (Nat.div (F.nv z.1) (F.nv z.2)))),[])
 else none else none else some (AV.sl (List.map eI (F.lb (Nat.div (F.nv z.1) (F.nv z.2)))),[]) else none:=(runFR_val).symm.trans (by kernel_rfl)

def encRou1 (xn:Bool) (xt:List Int) (xb:List Int) (way:Int):List AV:=[.agg [vB xn, .sl (xt.map eI), .sl (xb.map eI)],vI way]

def encRou (a:Bool×(List Int)×(List Int)×Int):List AV:=encRou1 a.1 a.2.1 a.2.2.1 a.2.2.2

theorem encRou_inj (a a':Bool×(List Int)×(List Int)×Int) (h:encRou a=encRou a'):a=a':=by
 simp only[encRou,encRou1]at h
 try simp[ints_inj]at h
 grind

theorem unRou (xn:Bool) (xt:List Int) (xb:List Int) (way:Int):unenc encRou ([AV.agg [(vB xn),AV.sl (List.map eI xt),AV.sl (List.map eI xb)],(vI way)])=some (xn,xt,xb,way):=unenc_of encRou_inj (xn,xt,xb,way) rfl

def resRou1 (xn:Bool) (xt:List Int) (xb:List Int) (way:Int):AV×Heap:=(.sl ((F.lb (F.rndU way xn (F.nv xt) (F.nv xb))).map eI),[])

def preRou1 (xn:Bool) (xt:List Int) (xb:List Int) (way:Int):Bool:=F.nk 200 xt&&F.nk 200 xb&&decide (0<F.nv xb)

noncomputable def oRou:Orc:=orc 161 false encRou (fun a=>preRou1 a.1 a.2.1 a.2.2.1 a.2.2.2) fun a=>resRou1 a.1 a.2.1 a.2.2.1 a.2.2.2

theorem okRou:OrcOK Tryz.prog noG oRou:=by
 refine mk_ok Tryz.f161 (keep:=false) (by kernel_rfl) (by kernel_rfl) enRnd1_ok mixed (no_loops (by kernel_rfl)) (by first | exact fun _ _=>⟨rfl,rfl⟩ | (intro h;cases h)) ?_
 rintro⟨xn,xt,xb,way⟩ hpre hok
 show(runF enRnd1 false _ (encRou1 _ _ _ _)).val=some (resRou1 _ _ _ _)
 unfold encRou1 resRou1
 rw[evRou]
 have hpre:(F.nk 200 xt&&F.nk 200 xb&&decide (0<F.nv xb))=true:=hpre
 simp only[Bool.and_eq_true,decide_eq_true_eq]at hpre
 obtain⟨⟨p1,p2⟩,p3⟩:=hpre
 have hm:F.nv xt % F.nv xb<10000 ^ 200:=Nat.lt_trans (Nat.mod_lt _ p3) (nk_lt p2)
 have hq:F.nv xt / F.nv xb<10000 ^ 200:=Nat.lt_of_le_of_lt (Nat.div_le_self _ _) (nk_lt p1)
 have hdv : ∀u v:Nat,Nat.div u v=u / v:=fun _ _=>rfl
 have hmo : ∀u v:Nat,Nat.mod u v=u % v:=fun _ _=>rfl
 have k1:=nk_le (k:=1000) hm (by decide)
 have k2:=nk_le (k:=1000) hq (by decide)
 have k3:F.nk 1000 (F.lb (F.nv xt % F.nv xb+F.nv xt % F.nv xb))=true:=nk_le (F.add_lt hm hm) (by decide)
 have k4:=nk_up p2 (by decide:200≤1000)
 simp only[unDv,unAdd,unCpr,Option.bind_some,List.length_map,cond_true,Bool.and_true,p1,p2,decide_eq_true p3,hdv,hmo,F.lb_gt,k1,k2,k3,k4,F.nv_lb,F.sgnL_ge,unAdd_1,nk_one (by decide:1≤1000),nv_one]
 unfold F.rndU F.rndUp
 cases way==1<;>cases way==3<;>cases way==2<;>cases xn<;>(first | rfl | (cases decide (0<F.nv xt % F.nv xb)<;>rfl) | (cases decide (F.nv xb≤F.nv xt % F.nv xb+F.nv xt % F.nv xb)<;>rfl))

noncomputable def enRnd2:Env:=envH ty noG lks [oRou,oIta,oLim,oCpr,oLdg,oLat] [] [] []

theorem enRnd2_ok:EnvOK Tryz.prog enRnd2:=by
 refine envH_ok lks_ok ty_ok ?_ ?_
 ·simp only[List.forall_mem_cons]
  exact⟨okRou,okIta,okLim,okCpr,okLdg,okLat,by simp⟩
 ·simp

theorem evRon (xn:Bool) (xt:List Int) (xb:List Int) (way:Int) (most:Int):(runF enRnd2 false Tryz.f108 [.agg [vB xn, .sl (xt.map eI), .sl (xb.map eI)],vI way,vI most]).val =
 Option.bind (unenc encRou [AV.agg [(vB xn),AV.sl (List.map eI xt),AV.sl (List.map eI xb)],(vI way)]) fun z=>bif F.nk (200:Nat)
 z.2.1&&F.nk (200:Nat) z.2.2.1&&decide ((0:Nat)<F.nv z.2.2.1) then Option.bind (unenc encIta [(vI most)]) fun z_1=>bif decide
 ((-9223372036854775808:Int)≤z_1)&&decide (z_1≤9223372036854775807) then Option.bind (unenc encLim [(vS (F.itoa z_1))]) fun z_2=>bif
 List.all (F.bs z_2) F.dgB&&decide (ByteArray.size z_2≤1000) then Option.bind (unenc encCpr [AV.sl (List.map eI (F.lb (F.rndU z.2.2.2 z.1 (F.nv
 z.2.1) (F.nv z.2.2.1)))),AV.sl (List.map eI (F.lb (F.dv z_2)))]) fun z_3=>bif F.nk (1000:Nat) z_3.1&&F.nk (1000:Nat) z_3.2
 then bif decide ((0:Int)<F.sgnL (↑(F.nv z_3.1):Int) (↑(F.nv z_3.2):Int)) then some (AV.tup [(vI 0),(vB false)],[]) else Option.bind (unenc encLdg
 [AV.sl (List.map eI (F.lb (F.rndU z.2.2.2 z.1 (F.nv z.2.1) (F.nv z.2.2.1))))]) fun z=>bif F.nk (200:Nat) z then Option.bind (unenc
 encLat [(vS (F.itoa (↑(F.nv z):Int)))]) fun z=>bif F.isD z&&decide (ByteArray.size z≤1000) then bif xn then some (AV.tup [(vI (IntKind.wrap
 IntKind.i64 ((0:Int) - (↑(F.dv z):Int)))),(vB true)],[]) else some (AV.tup [(vI (↑(F.dv z):Int)),(vB true)],[]) else none else none else none else none else none
 else none:=(runFR_val).symm.trans (by kernel_rfl)

def encRon1 (xn:Bool) (xt:List Int) (xb:List Int) (way:Int) (most:Int):List AV:=[.agg [vB xn, .sl (xt.map eI), .sl (xb.map eI)],vI way,vI most]

def encRon (a:Bool×(List Int)×(List Int)×Int×Int):List AV:=encRon1 a.1 a.2.1 a.2.2.1 a.2.2.2.1 a.2.2.2.2

theorem encRon_inj (a a':Bool×(List Int)×(List Int)×Int×Int) (h:encRon a=encRon a'):a=a':=by
 simp only[encRon,encRon1]at h
 try simp[ints_inj]at h
 grind

theorem unRon (xn:Bool) (xt:List Int) (xb:List Int) (way:Int) (most:Int):unenc encRon ([AV.agg [(vB xn),AV.sl (List.map eI xt),AV.sl (List.map eI xb)],(vI way),(vI most)])=some (xn,xt,xb,way,most):=unenc_of encRon_inj (xn,xt,xb,way,most) rfl

def resRon1 (xn:Bool) (xt:List Int) (xb:List Int) (way:Int) (most:Int):AV×Heap:=(.tup [vI (bif decide (most<F.rndU way xn (F.nv xt) (F.nv xb)) then 0 else F.sg xn (F.rndU way xn (F.nv xt) (F.nv xb))),vB (!decide (most<F.rndU way xn (F.nv xt) (F.nv xb)))],[])

def preRon1 (xn:Bool) (xt:List Int) (xb:List Int) (way:Int) (most:Int):Bool:=F.nk 150 xt&&F.nk 150 xb&&decide (0<F.nv xb)&&decide (0≤most)&&decide (most≤9223372036854775807)

noncomputable def oRon:Orc:=orc 108 true encRon (fun a=>preRon1 a.1 a.2.1 a.2.2.1 a.2.2.2.1 a.2.2.2.2) fun a=>resRon1 a.1 a.2.1 a.2.2.1 a.2.2.2.1 a.2.2.2.2

theorem okRon:OrcOK Tryz.prog noG oRon:=by
 refine mk_ok Tryz.f108 (keep:=false) (by kernel_rfl) (by kernel_rfl) enRnd2_ok mixed (no_loops (by kernel_rfl)) (by first | exact fun _ _=>⟨rfl,rfl⟩ | (intro h;cases h)) ?_
 rintro⟨xn,xt,xb,way,most⟩ hpre hok
 show(runF enRnd2 false _ (encRon1 _ _ _ _ _)).val=some (resRon1 _ _ _ _ _)
 unfold encRon1 resRon1
 rw[evRon]
 have hpre:(F.nk 150 xt&&F.nk 150 xb&&decide (0<F.nv xb)&&decide (0≤most)&&decide (most≤9223372036854775807))=true:=hpre
 simp only[Bool.and_eq_true,decide_eq_true_eq]at hpre
 obtain⟨⟨⟨⟨p1,p2⟩,p3⟩,p4⟩,p5⟩:=hpre
 have r1:=nk_up p1 (by decide:150≤200)
 have r2:=nk_up p2 (by decide:150≤200)
 have hq:F.nv xt / F.nv xb<10000 ^ 150:=Nat.lt_of_le_of_lt (Nat.div_le_self _ _) (nk_lt p1)
 have hR:F.rndU way xn (F.nv xt) (F.nv xb)<10000 ^ (150+1):=by
  have h1:=F.add_lt hq (n:=1) (Nat.one_lt_pow (by decide) (by decide))
  unfold F.rndU
  cases F.rndUp way xn (F.nv xt) (F.nv xb)
  ·exact Nat.lt_trans (Nat.lt_succ_self _) h1
  ·exact h1
 generalize hRe:F.rndU way xn (F.nv xt) (F.nv xb)=R at hR
 obtain⟨m,rfl⟩ : ∃m:Nat,most=m:=⟨most.toNat,by omega⟩
 have hmb:m<10000 ^ 5:=Nat.lt_of_le_of_lt (by omega:m≤9223372036854775807) (by decide)
 have k1:=nk_le (k:=1000) hR (by decide)
 have k2:=nk_le (k:=1000) hmb (by decide)
 have k3:=nk_le (k:=200) hR (by decide)
 have hal:=F.all_itoa m
 have hsz:(F.itoa (m:Int)).size≤1000:=by have:=F.itoa_size (n:=m) (by omega) (by omega);omega
 have hs:decide ((0:Int)<F.sgnL (R:Int) (m:Int))=decide ((m:Int)<(R:Int)):=by
  unfold F.sgnL
  by_cases c:(m:Int)<(R:Int)
  ·rw[decide_eq_true c,if_neg (by omega),if_pos c];rfl
  ·by_cases c2:(R:Int)<(m:Int)
   ·rw[decide_eq_false c,if_pos c2];rfl
   ·rw[decide_eq_false c,if_neg c2,if_neg c];rfl
 simp only[unRou,unIta,unLim,unCpr,unLdg,unLat,Option.bind_some,cond_true,Bool.and_true,r1,r2,decide_eq_true p3,decide_eq_true (by omega:(-9223372036854775808:Int)≤(m:Int)),decide_eq_true p5,hal,decide_eq_true hsz,F.dv_itoa,hRe,k1,k2,k3,F.nv_lb,hs]
 by_cases c:(m:Int)<(R:Int)
 ·rw[decide_eq_true c];rfl
 ·have hi:F.isD (F.itoa (R:Int))=true:=F.isD_itoa (by omega)
  have hsz2:(F.itoa (R:Int)).size≤1000:=by have:=F.itoa_size (n:=R) (by omega) (by omega);omega
  have hw:IntKind.i64.wrap (0 - (R:Int)) = -(R:Int):=by rw[wrap_id (by omega) (by omega)];omega
  simp only[decide_eq_false c,hi,decide_eq_true hsz2,Bool.and_true,cond_true,cond_false,hw,F.sg,Bool.not_false]
  cases xn<;>rfl

def _root_.Go.Proofs.YtbeobbjiogbdlaaGreatDoor.F.whole (way:Int) (xn:Bool) (t b:Nat):Int:=bif decide ((4611686018427387904:Int)<F.rndU way xn t b) then (bif xn then -4611686018427387904 else 4611686018427387904) else F.sg xn (F.rndU way xn t b)

theorem unLow_1 (ng:Bool) (t:List Int):unenc encLow [vB ng, .sl (t.map eI), .sl [[vI 1]]]=some (ng,t,[1]):=unLow ng t [1]

noncomputable def enInt:Env:=envH ty noG lks [oFmt,oLim,oLow] [] [] []

theorem enInt_ok:EnvOK Tryz.prog enInt:=by
 refine envH_ok lks_ok ty_ok ?_ ?_
 ·simp only[List.forall_mem_cons]
  exact⟨okFmt,okLim,okLow,by simp⟩
 ·simp

theorem evInt (n:Int):(runF enInt false Tryz.f111 [vI n]).val =
 bif decide (n<0) then Option.bind (unenc encFmt [AV.v (Value.int IntKind.u64 (IntKind.wrap IntKind.u64 ((0:Int) - IntKind.wrap IntKind.u64 n))),(vI 10)]) fun z=>bif decide (z≤18446744073709551615) then Option.bind (unenc encLim [(vS (F.itoa (↑z:Int)))]) fun z=>bif List.all (F.bs
 z) F.dgB&&decide (ByteArray.size z≤1000) then Option.bind (unenc encLow [(vB (decide (n<0))),AV.sl (List.map eI (F.lb (F.dv z))),AV.sl [[(vI 1)]]]) fun z=>bif F.nk (200:Nat) z.2.1&&F.nk (200:Nat) z.2.2&&decide ((0:Nat)<F.nv z.2.2) then some (AV.agg
 [(vB (z.1&&decide ((0:Nat)<F.nv z.2.1))),AV.sl (List.map eI (F.lb (Nat.div (F.nv z.2.1) (Nat.gcd (F.nv z.2.2) (F.nv z.2.1))))),AV.sl (List.map eI
 (F.lb (Nat.div (F.nv z.2.2) (Nat.gcd (F.nv z.2.2) (F.nv z.2.1)))))],[]) else none else none else none else Option.bind (unenc encFmt [AV.v (Value.int
 IntKind.u64 (IntKind.wrap IntKind.u64 n)),(vI 10)]) fun z=>bif decide (z≤18446744073709551615) then Option.bind (unenc encLim [(vS (F.itoa (↑z
 : Int)))]) fun z=>bif List.all (F.bs z) F.dgB&&decide (ByteArray.size z≤1000) then Option.bind (unenc encLow [(vB (decide (n<0))),
 AV.sl (List.map eI (F.lb (F.dv z))),AV.sl [[(vI 1)]]]) fun z=>bif F.nk (200:Nat) z.2.1&&F.nk (200:Nat) z.2.2 &&
 decide ((0:Nat)<F.nv z.2.2) then some (AV.agg [(vB (z.1&&decide ((0:Nat)<F.nv z.2.1))),AV.sl (List.map eI (F.lb (Nat.div (F.nv z.2.1) (Nat.gcd
 (F.nv z.2.2) (F.nv z.2.1))))),AV.sl (List.map eI (F.lb (Nat.div (F.nv z.2.2) (Nat.gcd (F.nv z.2.2) (F.nv z.2.1)))))],[]) else none else none else
 none:=(runFR_val).symm.trans (by kernel_rfl)

def encInt1 (n:Int):List AV:=[vI n]

def encInt (a:Int):List AV:=encInt1 a

theorem encInt_inj (a a':Int) (h:encInt a=encInt a'):a=a':=by
 simp only[encInt,encInt1]at h
 try simp[]at h
 grind

theorem unInt (n:Int):unenc encInt ([(vI n)])=some (n):=unenc_of encInt_inj (n) rfl

def resInt1 (n:Int):AV×Heap:=(.agg [vB (decide (n<0)), .sl ((F.lb n.natAbs).map eI), .sl ((F.lb 1).map eI)],[])

def preInt1 (n:Int):Bool:=decide (-9223372036854775808≤n)&&decide (n≤9223372036854775807)

noncomputable def oInt:Orc:=orc 111 false encInt (fun a=>preInt1 a) fun a=>resInt1 a

theorem okInt:OrcOK Tryz.prog noG oInt:=by
 refine mk_ok Tryz.f111 (keep:=false) (by kernel_rfl) (by kernel_rfl) enInt_ok mixed (no_loops (by kernel_rfl)) (by first | exact fun _ _=>⟨rfl,rfl⟩ | (intro h;cases h)) ?_
 rintro n hpre hok
 show(runF enInt false _ (encInt1 _)).val=some (resInt1 _)
 unfold encInt1 resInt1
 rw[evInt]
 have hpre:(decide (-9223372036854775808≤n)&&decide (n≤9223372036854775807))=true:=hpre
 rw[Bool.and_eq_true,decide_eq_true_eq,decide_eq_true_eq]at hpre
 have hu:n.natAbs≤9223372036854775808:=by omega
 have hlt:n.natAbs<10000 ^ 5:=Nat.lt_of_le_of_lt hu (by decide)
 have k1:F.nk 200 (F.lb n.natAbs)=true:=nk_le hlt (by decide)
 have hsz:decide ((F.itoa ((n.natAbs:Nat):Int)).size≤1000)=true:=decide_eq_true (by
  rw[←F.bs_len,F.itoa_n,Lib.decDigits_length]
  by_cases h:n.natAbs<10
  ·rw[Lib.nDigits_small h];omega
  ·have:=Lib.numDigits_eq n.natAbs (by omega) (by omega)
   split at this<;>omega)
 have hdv : ∀u v:Nat,Nat.div u v=u / v:=fun _ _=>rfl
 have hp:decide (0<F.nv [1])=true:=rfl
 have hw:n<0→IntKind.u64.wrap (0 - IntKind.u64.wrap n)=((n.natAbs:Nat):Int):=fun h=>by rw[IntKind.wrap_u64,IntKind.wrap_u64];omega
 have hw2 : ¬n<0→IntKind.u64.wrap n=((n.natAbs:Nat):Int):=fun h=>by rw[IntKind.wrap_u64];omega
 by_cases hn:n<0
 ·have hn0:decide (0<n.natAbs)=true:=decide_eq_true (by omega)
  simp only[unFmt,unLim,Option.bind_some,cond_true,Bool.and_true,Bool.true_and,decide_eq_true hn,hw hn,decide_eq_true (by omega:n.natAbs≤18446744073709551615),F.all_itoa,hsz,F.dv_itoa,unLow_1,k1,nk_one (by decide:1≤200),F.nv_lb,nv_one,hdv,Nat.gcd_one_left,Nat.div_one,hn0]
  rfl
 ·simp only[unFmt,unLim,Option.bind_some,cond_true,cond_false,Bool.and_true,Bool.true_and,decide_eq_false hn,hw2 hn,decide_eq_true (by omega:n.natAbs≤18446744073709551615),F.all_itoa,hsz,F.dv_itoa,unLow_1,k1,nk_one (by decide:1≤200),F.nv_lb,nv_one,hdv,Nat.gcd_one_left,Nat.div_one,Bool.false_and]
  rfl

end M

namespace M

theorem nk_abs {n:Int} (h1 : -9223372036854775808≤n) (h2:n≤9223372036854775807) {k:Nat} (hk:5≤k):F.nk k (F.lb n.natAbs)=true:=
 nk_le (Nat.lt_of_le_of_lt (by omega:n.natAbs≤9223372036854775808) (by decide:9223372036854775808<10000 ^ 5)) hk

theorem nk_lb1 {k:Nat} (h:1≤k):F.nk k (F.lb 1)=true:=F.nk_lb (F.lb_lt (m:=1) (by decide) h)

noncomputable def enTur:Env:=envH ty noG lks [oInt,oLms,oOvr] [] [] []

theorem enTur_ok:EnvOK Tryz.prog enTur:=by
 refine envH_ok lks_ok ty_ok ?_ ?_
 ·simp only[List.forall_mem_cons]
  exact⟨okInt,okLms,okOvr,by simp⟩
 ·simp

theorem evTur (n:Int) (fr:Int) (tq:Int):(runF enTur false Tryz.f50 [vI n,vI fr,vI tq]).val =
 Option.bind (unenc encInt [(vI n)]) fun z=>bif decide ((-9223372036854775808:Int)≤z)&&decide (z≤9223372036854775807) then Option.bind (unenc
 encInt [(vI tq)]) fun z_1=>bif decide ((-9223372036854775808:Int)≤z_1)&&decide (z_1≤9223372036854775807) then Option.bind (unenc encLms [AV.agg
 [(vB (decide (z<0))),AV.sl (List.map eI (F.lb (Int.natAbs z))),AV.sl (List.map eI (F.lb (1:Nat)))],AV.agg [(vB (decide (z_1<0))),AV.sl (List.map
 eI (F.lb (Int.natAbs z_1))),AV.sl (List.map eI (F.lb (1:Nat)))]]) fun z=>bif F.nk (90:Nat) z.2.1 &&
 F.nk (90:Nat) z.2.2.1&&F.nk (90:Nat) z.2.2.2.2.1&&F.nk (90:Nat) z.2.2.2.2.2&&decide ((0:Nat)<F.nv z.2.2.1)&&decide ((0 :
 Nat)<F.nv z.2.2.2.2.2) then Option.bind (unenc encInt [(vI fr)]) fun z_2=>bif decide ((-9223372036854775808:Int)≤z_2)&&decide (z_2 ≤
 (9223372036854775807:Int)) then Option.bind (unenc encOvr [AV.agg [(vB (z.1 != z.2.2.2.1&&decide ((0:Nat)<F.nv z.2.1*F.nv z.2.2.2.2.1))),
 AV.sl (List.map eI (F.lowT (F.nv z.2.1*F.nv z.2.2.2.2.1) (F.nv z.2.2.1*F.nv z.2.2.2.2.2))),AV.sl (List.map eI (F.lowB (F.nv z.2.1 *
 F.nv z.2.2.2.2.1) (F.nv z.2.2.1*F.nv z.2.2.2.2.2)))],AV.agg [(vB (decide (z_2<0))),AV.sl (List.map eI (F.lb (Int.natAbs z_2))),
 AV.sl (List.map eI (F.lb (1:Nat)))]]) fun z=>bif F.nk (90:Nat) z.2.1&&F.nk (90:Nat) z.2.2.1
 && F.nk (90:Nat) z.2.2.2.2.1&&F.nk (90:Nat) z.2.2.2.2.2&&decide ((0:Nat)<F.nv z.2.2.1)&&decide ((0:Nat)<F.nv
 z.2.2.2.2.1) then some (AV.agg [(vB (z.1 != z.2.2.2.1&&decide ((0:Nat)<F.nv z.2.1*F.nv z.2.2.2.2.2))),AV.sl (List.map eI (F.lowT
 (F.nv z.2.1*F.nv z.2.2.2.2.2) (F.nv z.2.2.1*F.nv z.2.2.2.2.1))),AV.sl (List.map eI (F.lowB (F.nv z.2.1*F.nv z.2.2.2.2.2)
 (F.nv z.2.2.1*F.nv z.2.2.2.2.1)))],[]) else none else none else none else none else none:=(runFR_val).symm.trans (by kernel_rfl)

def encTur1 (n:Int) (fr:Int) (tq:Int):List AV:=[vI n,vI fr,vI tq]

def encTur (a:Int×Int×Int):List AV:=encTur1 a.1 a.2.1 a.2.2

theorem encTur_inj (a a':Int×Int×Int) (h:encTur a=encTur a'):a=a':=by
 simp only[encTur,encTur1]at h
 try simp[]at h
 grind

theorem unTur (n:Int) (fr:Int) (tq:Int):unenc encTur ([(vI n),(vI fr),(vI tq)])=some (n,fr,tq):=unenc_of encTur_inj (n,fr,tq) rfl

def resTur1 (n:Int) (fr:Int) (tq:Int):AV×Heap:=(.agg [vB (decide (n<0)&&decide (0<n.natAbs*tq.natAbs)), .sl ((F.lowT (n.natAbs*tq.natAbs) fr.natAbs).map eI), .sl ((F.lowB (n.natAbs*tq.natAbs) fr.natAbs).map eI)],[])

def preTur1 (n:Int) (fr:Int) (tq:Int):Bool:=decide (-9223372036854775808≤n)&&decide (n≤9223372036854775807)&&decide (1≤fr)&&decide (fr≤9223372036854775807)&&decide (1≤tq)&&decide (tq≤9223372036854775807)

noncomputable def oTur:Orc:=orc 50 false encTur (fun a=>preTur1 a.1 a.2.1 a.2.2) fun a=>resTur1 a.1 a.2.1 a.2.2

theorem okTur:OrcOK Tryz.prog noG oTur:=by
 refine mk_ok Tryz.f50 (keep:=false) (by kernel_rfl) (by kernel_rfl) enTur_ok mixed (no_loops (by kernel_rfl)) (by first | exact fun _ _=>⟨rfl,rfl⟩ | (intro h;cases h)) ?_
 rintro⟨n,fr,tq⟩ hpre hok
 show(runF enTur false _ (encTur1 _ _ _)).val=some (resTur1 _ _ _)
 unfold encTur1 resTur1
 rw[evTur]
 have hpre:(decide (-9223372036854775808≤n)&&decide (n≤9223372036854775807)&&decide (1≤fr)&&decide (fr≤9223372036854775807)&&decide (1≤tq)&&decide (tq≤9223372036854775807))=true:=hpre
 simp only[Bool.and_eq_true,decide_eq_true_eq]at hpre
 obtain⟨⟨⟨⟨⟨p1,p2⟩,p3⟩,p4⟩,p5⟩,p6⟩:=hpre
 have k1:=nk_abs p1 p2 (by decide:5≤90)
 have k2:=nk_abs (by omega : -9223372036854775808≤fr) p4 (by decide:5≤90)
 have k3:=nk_abs (by omega : -9223372036854775808≤tq) p6 (by decide:5≤90)
 have k4:=nk_lb1 (by decide:1≤90)
 have hm:n.natAbs*tq.natAbs<10000 ^ (5+5):=F.mul_lt (Nat.lt_of_le_of_lt (by omega:n.natAbs≤9223372036854775808) (by decide)) (Nat.lt_of_le_of_lt (by omega:tq.natAbs≤9223372036854775808) (by decide))
 have k5:=nk_le (k:=90) hm (by decide)
 have e1:F.lowT (n.natAbs*tq.natAbs) 1=F.lb (n.natAbs*tq.natAbs):=by unfold F.lowT;rw[Nat.gcd_one_left,Nat.div_one]
 have e2:F.lowB (n.natAbs*tq.natAbs) 1=F.lb 1:=by unfold F.lowB;rw[Nat.gcd_one_left,Nat.div_one]
 have d1:decide (tq<0)=false:=decide_eq_false (by omega)
 have d2:decide (fr<0)=false:=decide_eq_false (by omega)
 have d3:decide (0<fr.natAbs)=true:=decide_eq_true (by omega)
 have d4:decide (0<1)=true:=rfl
 simp only[unInt,unLms,unOvr,Option.bind_some,cond_true,Bool.and_true,decide_eq_true p1,decide_eq_true p2,decide_eq_true p4,decide_eq_true p6,decide_eq_true (by omega : -9223372036854775808≤fr),decide_eq_true (by omega : -9223372036854775808≤tq),k1,k2,k3,k4,k5,F.nv_lb,Nat.mul_one,Nat.one_mul,e1,e2,d1,d2,d3,d4]
 have hb2 : ∀x y:Bool,(((x != false)&&y) != false&&y)=(x&&y):=by decide
 rw[hb2]

end M

theorem F.low_div {t b:Nat} (hb:0<b):(t / Nat.gcd b t) / (b / Nat.gcd b t)=t / b∧((b / Nat.gcd b t)≤(t / Nat.gcd b t) % (b / Nat.gcd b t)+(t / Nat.gcd b t) % (b / Nat.gcd b t)↔b≤t % b+t % b)∧0<b / Nat.gcd b t:=by
 have hg:0<Nat.gcd b t:=Nat.gcd_pos_of_pos_left _ hb
 have e1:=Nat.mul_div_cancel' (Nat.gcd_dvd_right b t)
 have e2:=Nat.mul_div_cancel' (Nat.gcd_dvd_left b t)
 generalize Nat.gcd b t=g at *
 generalize t / g=t' at *
 generalize b / g=b' at *
 subst e1 e2
 refine⟨(Nat.mul_div_mul_left _ _ hg).symm,?_,Nat.pos_of_mul_pos_left hb⟩
 rw[Nat.mul_mod_mul_left,←Nat.mul_add]
 exact⟨fun h=>Nat.mul_le_mul_left g h,fun h=>Nat.le_of_mul_le_mul_left h hg⟩

def F.milN (n by_:Int):Int:=
 F.whole 2 (decide (n<0)&&decide (0<n.natAbs*1000)) (n.natAbs*1000 / Nat.gcd by_.natAbs (n.natAbs*1000)) (by_.natAbs / Nat.gcd by_.natAbs (n.natAbs*1000))

theorem F.milN_ok {n by_:Int} (h1:1≤by_) (h2:by_≤1000000000) (hn:n.natAbs≤2000000000000000) :
  F.milN n by_=F.scl n 1000 by_ 2∨(F.noTime (F.milN n by_)=true∧F.noTime (F.scl n 1000 by_ 2)=true):=by
 have hb:0<by_.natAbs:=by omega
 obtain⟨d1,d2,d3⟩:=F.low_div (t:=n.natAbs*1000) hb
 have hd:n.natAbs*1000 / by_.natAbs≤n.natAbs*1000:=Nat.div_le_self _ _
 have e : ∀xn,F.rndU 2 xn (n.natAbs*1000 / Nat.gcd by_.natAbs (n.natAbs*1000)) (by_.natAbs / Nat.gcd by_.natAbs (n.natAbs*1000))=bif decide (by_.natAbs≤n.natAbs*1000 % by_.natAbs+n.natAbs*1000 % by_.natAbs) then n.natAbs*1000 / by_.natAbs+1 else n.natAbs*1000 / by_.natAbs:=by
  intro xn
  unfold F.rndU F.rndUp
  rw[d1]
  by_cases c:by_.natAbs≤n.natAbs*1000 % by_.natAbs+n.natAbs*1000 % by_.natAbs
  ·rw[decide_eq_true c,decide_eq_true (d2.2 c)];rfl
  ·rw[decide_eq_false c,decide_eq_false (fun h=>c (d2.1 h))];rfl
 have hq:(n.natAbs*(1000:Int).natAbs / by_.natAbs)=n.natAbs*1000 / by_.natAbs:=rfl
 have hr:(n.natAbs*(1000:Int).natAbs % by_.natAbs)=n.natAbs*1000 % by_.natAbs:=rfl
 have hR:F.rnd 2 (decide (n<0)) ((n.natAbs*1000 % by_.natAbs:Nat):Int) by_=decide (by_.natAbs≤n.natAbs*1000 % by_.natAbs+n.natAbs*1000 % by_.natAbs):=by
  show decide (by_ - ((n.natAbs*1000 % by_.natAbs:Nat):Int)≤((n.natAbs*1000 % by_.natAbs:Nat):Int))=_
  have hm:n.natAbs*1000 % by_.natAbs<by_.natAbs:=Nat.mod_lt _ hb
  exact decide_eq_decide.2 (by omega)
 obtain⟨p,hp⟩ : ∃p:Nat,p=bif decide (by_.natAbs≤n.natAbs*1000 % by_.natAbs+n.natAbs*1000 % by_.natAbs) then n.natAbs*1000 / by_.natAbs+1 else n.natAbs*1000 / by_.natAbs:=⟨_,rfl⟩
 have hpl:p≤2000000000000000001:=by
  rw[hp]
  cases decide (by_.natAbs≤n.natAbs*1000 % by_.natAbs+n.natAbs*1000 % by_.natAbs)
  ·rw[cond_false];omega
  ·rw[cond_true];omega
 have hP:F.sclP n 1000 by_ 2=(p:Int):=by
  unfold F.sclP F.sclQ F.sclR
  rw[hq,hr,hR,hp]
  cases decide (by_.natAbs≤n.natAbs*1000 % by_.natAbs+n.natAbs*1000 % by_.natAbs)<;>rfl
 have hxn:(decide (n<0)&&decide (0<n.natAbs*1000))=decide (n<0):=by
  by_cases hneg:n<0
  ·rw[decide_eq_true hneg,decide_eq_true (by omega)];rfl
  ·rw[decide_eq_false hneg];rfl
 unfold F.milN F.whole F.scl F.sclS
 rw[e,←hp,hP,hxn,decide_eq_false (by omega : ¬(4611686018427387904:Int)<(p:Int)),cond_false]
 unfold F.sg
 by_cases c:(1152921504606846976:Int)<(p:Int)
 ·right
  rw[decide_eq_true c,cond_true]
  unfold F.noTime F.out
  by_cases hneg:n<0
  ·rw[decide_eq_true hneg,cond_true,cond_true,decide_eq_true (by omega : -(p:Int)<0)]
   exact⟨rfl,rfl⟩
  ·rw[decide_eq_false hneg,cond_false,cond_false,decide_eq_true (by omega:(359999999:Int)<(p:Int)),Bool.or_true]
   exact⟨rfl,rfl⟩
 ·left
  rw[decide_eq_false c,cond_false]

theorem F.pre_mil {n sc:Int} (h1:1≤sc) (h2:sc≤1000000000) (hn:n.natAbs≤2000000000000000) :
  F.nk 150 (F.lowT (n.natAbs*(1000:Int).natAbs) sc.natAbs)=true∧F.nk 150 (F.lowB (n.natAbs*(1000:Int).natAbs) sc.natAbs)=true∧0<F.nv (F.lowB (n.natAbs*(1000:Int).natAbs) sc.natAbs):=by
 have h3:(1000:Int).natAbs=1000:=rfl
 rw[h3]
 have hg:=(F.low_div (t:=n.natAbs*1000) (b:=sc.natAbs) (by omega)).2.2
 refine⟨?_,?_,?_⟩
 ·unfold F.lowT
  exact M.nk_le (j:=5) (Nat.lt_of_le_of_lt (Nat.div_le_self _ _) (Nat.lt_of_le_of_lt (by omega:n.natAbs*1000≤2000000000000000000) (by decide))) (by decide)
 ·unfold F.lowB
  exact M.nk_le (j:=5) (Nat.lt_of_le_of_lt (Nat.div_le_self _ _) (Nat.lt_of_le_of_lt (by omega:sc.natAbs≤1000000000000000000) (by decide))) (by decide)
 ·unfold F.lowB
  rw[F.nv_lb]
  exact hg

namespace M

theorem ge_not (n a:Int):decide (a≤n) = !decide (n<a):=by
 by_cases h:n<a
 ·rw[decide_eq_true h,decide_eq_false (by omega)];rfl
 ·rw[decide_eq_false h,decide_eq_true (by omega)];rfl

theorem evIsc (n:Int):(runF en0 false Tryz.f47 [vI n]).val =
 some ((vB (bif decide ((1:Int)≤n) then decide (n≤1000000000) else false)),[]):=by kernel_rfl

def encIsc1 (n:Int):List AV:=[vI n]

def encIsc (a:Int):List AV:=encIsc1 a

theorem encIsc_inj (a a':Int) (h:encIsc a=encIsc a'):a=a':=by
 simp only[encIsc,encIsc1]at h
 try simp[]at h
 grind

theorem unIsc (n:Int):unenc encIsc ([(vI n)])=some (n):=unenc_of encIsc_inj (n) rfl

def resIsc1 (n:Int):AV×Heap:=(vB (!F.noScale n),[])

def preIsc1 (n:Int):Bool:=true

noncomputable def oIsc:Orc:=orc 47 true encIsc (fun a=>preIsc1 a) fun a=>resIsc1 a

theorem okIsc:OrcOK Tryz.prog noG oIsc:=by
 refine mk_ok Tryz.f47 (keep:=false) (by kernel_rfl) (by kernel_rfl) en0_ok mixed (no_loops (by kernel_rfl)) (by first | exact fun _ _=>⟨rfl,rfl⟩ | (intro h;cases h)) ?_
 rintro n hpre hok
 show(runF en0 false _ (encIsc1 _)).val=some (resIsc1 _)
 unfold encIsc1 resIsc1
 rw[evIsc]
 simp only[F.noScale,F.out]
 rw[ge_not n 1,ge_not 1000000000 n]
 cases decide (n<1)<;>cases decide ((1000000000:Int)<n)<;>rfl

theorem evIst (n:Int):(runF en0 false Tryz.f48 [vI n]).val =
 some ((vB (bif decide ((-1000000000000000:Int)≤n) then decide (n≤1000000000000000) else false)),[]):=by kernel_rfl

def encIst1 (n:Int):List AV:=[vI n]

def encIst (a:Int):List AV:=encIst1 a

theorem encIst_inj (a a':Int) (h:encIst a=encIst a'):a=a':=by
 simp only[encIst,encIst1]at h
 try simp[]at h
 grind

theorem unIst (n:Int):unenc encIst ([(vI n)])=some (n):=unenc_of encIst_inj (n) rfl

def resIst1 (n:Int):AV×Heap:=(vB (!F.noTm n),[])

def preIst1 (n:Int):Bool:=true

noncomputable def oIst:Orc:=orc 48 true encIst (fun a=>preIst1 a) fun a=>resIst1 a

theorem okIst:OrcOK Tryz.prog noG oIst:=by
 refine mk_ok Tryz.f48 (keep:=false) (by kernel_rfl) (by kernel_rfl) en0_ok mixed (no_loops (by kernel_rfl)) (by first | exact fun _ _=>⟨rfl,rfl⟩ | (intro h;cases h)) ?_
 rintro n hpre hok
 show(runF en0 false _ (encIst1 _)).val=some (resIst1 _)
 unfold encIst1 resIst1
 rw[evIst]
 simp only[F.noTm,F.out]
 rw[ge_not n (-1000000000000000),ge_not 1000000000000000 n]
 cases decide (n < -1000000000000000)<;>cases decide ((1000000000000000:Int)<n)<;>rfl

end M

def F.milU (n sc:Int):Nat:=F.rndU 2 (decide (n<0)&&decide (0<n.natAbs*1000)) (n.natAbs*1000 / Nat.gcd sc.natAbs (n.natAbs*1000)) (sc.natAbs / Nat.gcd sc.natAbs (n.natAbs*1000))

def F.milS (n sc:Int):Int:=F.sg (decide (n<0)&&decide (0<n.natAbs*1000)) (F.milU n sc)

def F.rcv (n sc:Int):Int:=bif F.noTm n||F.noScale sc then 0 else bif decide ((1000000000000000:Int)<(F.milU n sc:Int)) then 0 else F.milS n sc

def F.rcvF (n sc:Int):Int:=bif F.noTm n||F.noScale sc then 1 else bif decide ((1000000000000000:Int)<(F.milU n sc:Int)) then 1 else 0

theorem F.milN_U (n sc:Int):F.milN n sc=bif decide ((4611686018427387904:Int)<(F.milU n sc:Int)) then (bif (decide (n<0)&&decide (0<n.natAbs*1000)) then -4611686018427387904 else 4611686018427387904) else F.milS n sc:=rfl

theorem F.rcv_ok {n sc:Int} (h1:1≤sc) (h2:sc≤1000000000) (hn:n.natAbs≤2000000000000000) (hb:F.noTime (F.scl n 1000 sc 2)=false):F.rcv n sc=F.scl n 1000 sc 2:=by
 have hm:F.milN n sc=F.scl n 1000 sc 2:=by
  rcases F.milN_ok h1 h2 hn with h | h
  ·exact h
  ·rw[h.2]at hb;cases hb
 have hv:0≤F.scl n 1000 sc 2∧F.scl n 1000 sc 2≤359999999:=by
  unfold F.noTime F.out at hb
  simp only[Bool.or_eq_false_iff,decide_eq_false_iff_not]at hb
  omega
 rw[←hm]at hv ⊢
 have hU:=F.milN_U n sc
 have hlt : ¬(4611686018427387904:Int)<(F.milU n sc:Int):=fun h=>by
  rw[decide_eq_true h,cond_true]at hU
  cases hx:(decide (n<0)&&decide (0<n.natAbs*1000))
  ·rw[hx,cond_false]at hU;omega
  ·rw[hx,cond_true]at hU;omega
 rw[decide_eq_false hlt,cond_false]at hU
 have hU2:F.milN n sc=F.milS n sc:=hU
 have hsz:(F.milU n sc:Int)≤359999999∨F.milU n sc=0:=by
  rw[hU2]at hv
  unfold F.milS F.sg at hv
  cases hx:(decide (n<0)&&decide (0<n.natAbs*1000))
  ·rw[hx,cond_false]at hv;left;omega
  ·rw[hx,cond_true]at hv;right;omega
 have hns:F.noScale sc=false:=by unfold F.noScale F.out;rw[decide_eq_false (by omega),decide_eq_false (by omega)];rfl
 have hnt:F.noTm n=false:=by
  by_cases hq:n.natAbs≤1000000000000000
  ·unfold F.noTm F.out;rw[decide_eq_false (by omega),decide_eq_false (by omega)];rfl
  ·exfalso
   have hb0:0<sc.natAbs:=by omega
   have hd:=(F.low_div (t:=n.natAbs*1000) hb0).1
   have hge:n.natAbs*1000 / sc.natAbs≤F.milU n sc:=by
    unfold F.milU F.rndU
    rw[hd]
    cases F.rndUp 2 (decide (n<0)&&decide (0<n.natAbs*1000)) (n.natAbs*1000 / Nat.gcd sc.natAbs (n.natAbs*1000)) (sc.natAbs / Nat.gcd sc.natAbs (n.natAbs*1000))
    ·exact Nat.le_refl _
    ·exact Nat.le_succ _
   have h9:1000000000≤n.natAbs*1000 / sc.natAbs:=by
    rw[Nat.le_div_iff_mul_le hb0]
    omega
   omega
 have hle : ¬(1000000000000000:Int)<(F.milU n sc:Int):=by omega
 unfold F.rcv
 rw[hnt,hns,decide_eq_false hle,hU2]
 rfl

namespace M

theorem evIsw (n:Int):(runF en0 false Tryz.f117 [vI n]).val =
 some ((vB (bif bif n==1 then true else n==2 then true else n==3)),[]):=(runFR_val).symm.trans (by kernel_rfl)

def encIsw1 (n:Int):List AV:=[vI n]

def encIsw (a:Int):List AV:=encIsw1 a

theorem encIsw_inj (a a':Int) (h:encIsw a=encIsw a'):a=a':=by
 simp only[encIsw,encIsw1]at h
 try simp[]at h
 grind

theorem unIsw (n:Int):unenc encIsw ([(vI n)])=some (n):=unenc_of encIsw_inj (n) rfl

def resIsw1 (n:Int):AV×Heap:=(vB (n==1||n==2||n==3),[])

def preIsw1 (n:Int):Bool:=true

noncomputable def oIsw:Orc:=orc 117 true encIsw (fun a=>preIsw1 a) fun a=>resIsw1 a

theorem okIsw:OrcOK Tryz.prog noG oIsw:=by
 refine mk_ok Tryz.f117 (keep:=false) (by kernel_rfl) (by kernel_rfl) en0_ok mixed (no_loops (by kernel_rfl)) (by first | exact fun _ _=>⟨rfl,rfl⟩ | (intro h;cases h)) ?_
 rintro n hpre hok
 show(runF en0 false _ (encIsw1 _)).val=some (resIsw1 _)
 unfold encIsw1 resIsw1
 rw[evIsw]
 cases n==1<;>cases n==2<;>cases n==3<;>rfl

noncomputable def enRcv:Env:=envH ty noG lks [oIst,oIsc,oIsw,oTur,oRon] [] [] []

theorem enRcv_ok:EnvOK Tryz.prog enRcv:=by
 refine envH_ok lks_ok ty_ok ?_ ?_
 ·simp only[List.forall_mem_cons]
  exact⟨okIst,okIsc,okIsw,okTur,okRon,by simp⟩
 ·simp

theorem evRcv (n:Int) (sc:Int):(runF enRcv false Tryz.f56 [vI n,vI sc,vI 1000,vI 2]).val =
 (fun(q:Option (AV×Heap))=>Option.bind (unenc encIst [(vI n)]) fun z=>bif !!!F.noTm z then Option.bind (unenc encIsc [(vI sc)]) fun z=>bif
 !!!F.noScale z then Option.bind (unenc encIsc [(vI 1000)]) fun z=>bif !!F.noScale z then q else Option.bind (unenc encIsw [(vI 2)]) fun(z:Int)
 =>bif !(z==1||z==2||z==3) then some (AV.tup [(vI 0),(vI 4)],[]) else Option.bind (unenc encTur [(vI n),(vI sc),(vI
 (1000:Int))]) fun z=>(fun(q_1:Nat)=>bif decide ((-9223372036854775808:Int)≤z.1)&&decide (z.1≤9223372036854775807) &&
 decide ((1:Int)≤z.2.1)&&decide (z.2.1≤9223372036854775807)&&decide ((1:Int)≤z.2.2)&&decide (z.2.2≤9223372036854775807)
 then Option.bind (unenc encRon [AV.agg [(vB (decide (z.1<0)&&decide ((0:Nat)<q_1))),AV.sl (List.map eI (F.lowT q_1 (Int.natAbs z.2.1))),AV.sl
 (List.map eI (F.lowB q_1 (Int.natAbs z.2.1)))],(vI 2),(vI 1000000000000000)]) fun z=>(fun(q_2:Nat)=>
 (fun(q_3:Bool)=>bif F.nk (150:Nat) z.2.1&&F.nk (150:Nat) z.2.2.1&&decide ((0:Nat)<F.nv z.2.2.1)&&decide ((0:Int)≤z.2.2.2.2)
 && decide (z.2.2.2.2≤9223372036854775807) then bif !!q_3 then q else some (AV.tup [(vI (bif q_3 then (0:Int) else F.sg z.1 q_2)),(vI 0)],
 []) else none) (decide (z.2.2.2.2<(↑q_2:Int)))) (F.rndU z.2.2.2.1 z.1 (F.nv z.2.1) (F.nv z.2.2.1)) else none) (Int.natAbs z.1 *
 Int.natAbs z.2.2) else q else q) (some (AV.tup [(vI 0),(vI 1)],[])):=(runFR_val).symm.trans (by kernel_rfl)

def encRcv1 (n:Int) (sc:Int):List AV:=[vI n,vI sc,vI 1000,vI 2]

def encRcv (a:Int×Int):List AV:=encRcv1 a.1 a.2

theorem encRcv_inj (a a':Int×Int) (h:encRcv a=encRcv a'):a=a':=by
 simp only[encRcv,encRcv1]at h
 try simp[]at h
 grind

theorem unRcv (n:Int) (sc:Int):unenc encRcv ([(vI n),(vI sc),(vI (1000:Int)),(vI (2:Int))])=some (n,sc):=unenc_of encRcv_inj (n,sc) rfl

def resRcv1 (n:Int) (sc:Int):AV×Heap:=(.tup [vI (F.rcv n sc),vI (F.rcvF n sc)],[])

def preRcv1 (n:Int) (sc:Int):Bool:=true

noncomputable def oRcv:Orc:=orc 56 true encRcv (fun a=>preRcv1 a.1 a.2) fun a=>resRcv1 a.1 a.2

theorem okRcv:OrcOK Tryz.prog noG oRcv:=by
 refine mk_ok Tryz.f56 (keep:=false) (by kernel_rfl) (by kernel_rfl) enRcv_ok mixed (no_loops (by kernel_rfl)) (by first | exact fun _ _=>⟨rfl,rfl⟩ | (intro h;cases h)) ?_
 rintro⟨n,sc⟩ hpre hok
 show(runF enRcv false _ (encRcv1 _ _)).val=some (resRcv1 _ _)
 unfold encRcv1 resRcv1
 rw[evRcv]
 have e1:F.noScale 1000=false:=rfl
 simp only[unIst,unIsc,unIsw,unTur,unRon,Option.bind_some,F.rcv,F.rcvF,e1]
 cases h1:F.noTm n
 ·cases h2:F.noScale sc
  ·unfold F.noTm F.out at h1
   unfold F.noScale F.out at h2
   simp only[Bool.or_eq_false_iff,decide_eq_false_iff_not]at h1 h2
   obtain⟨p1,p2,p3⟩:=F.pre_mil (n:=n) (sc:=sc) (by omega) (by omega) (by omega)
   have eU:F.rndU 2 (decide (n<0)&&decide (0<n.natAbs*(1000:Int).natAbs)) (F.nv (F.lowT (n.natAbs*(1000:Int).natAbs) sc.natAbs)) (F.nv (F.lowB (n.natAbs*(1000:Int).natAbs) sc.natAbs))=F.milU n sc:=by
    unfold F.milU F.lowT F.lowB
    rw[F.nv_lb,F.nv_lb]
    rfl
   rw[decide_eq_true (by omega : -9223372036854775808≤n),decide_eq_true (by omega:n≤9223372036854775807),decide_eq_true (by omega:1≤sc),decide_eq_true (by omega:sc≤9223372036854775807)]
   rw[p1,p2,decide_eq_true p3,eU]
   have eS:F.sg (decide (n<0)&&decide (0<n.natAbs*(1000:Int).natAbs)) (F.milU n sc)=F.milS n sc:=rfl
   rw[eS]
   cases decide ((1000000000000000:Int)<(F.milU n sc:Int))<;>rfl
  ·rfl
 ·rfl

end M

namespace F

def lgLn:List Cap→List ByteArray
 | []=>[]
 | c::r=>(tms c dot++mks c.row c.bef c.aft)::(c.lines.map esc++⟨⟨[]⟩⟩::lgLn r)

theorem bs_lgW : ∀(m:List ByteArray) (s:ByteArray),bs (lgW m s)=bs s++lnB (m.map esc)
 | [],s=>by rw[lgW];simp[lnB]
 | x::r,s=>by
  rw[lgW,bs_lgW r,bs_cat,bs_cat,List.map_cons,lnB_cons]
  simp only[List.append_assoc]
  rfl

theorem bs_lgH (c:Cap) (s:ByteArray):bs (lgH c s)=bs s++(bs (tms c dot++mks c.row c.bef c.aft)++[10]):=by
 unfold lgH mks
 have e:bs (⟨⟨[]⟩⟩:ByteArray)=[]:=rfl
 cases c.aft<;>cases c.bef<;>cases(c.row != 0)<;>simp only[cond_true,cond_false,bs_cat,e,List.append_nil,List.nil_append,List.append_assoc]<;>rfl

theorem bs_lgA1 : ∀(m:List Cap) (s:ByteArray),bs (lgA1 m s)=bs s++lnB (lgLn m)
 | [],s=>by rw[lgA1];simp[lgLn,lnB]
 | c::r,s=>by
  rw[lgA1,bs_lgA1 r,lgLn,lnB_cons,lnB_app,lnB_cons]
  unfold lgC
  rw[bs_cat,bs_lgW,bs_lgH]
  simp only[List.append_assoc,show bs nl=[10] from rfl,show bs (⟨⟨[]⟩⟩:ByteArray)=[] from rfl,List.nil_append,List.cons_append]

theorem mks_ne {k:Nat} (h:k<16) (b a:Bool) : ∀x∈mksL k b a,x≠10:=by
 have key : ∀(k:Fin 16) (b a:Bool),((mksL k.val b a).all fun x=>x != 10)=true:=by decide +kernel
 intro x hx
 have:=List.all_eq_true.1 (key ⟨k,h⟩ b a) x hx
 simpa using this

theorem lgLn_ne : ∀(m:List Cap),(∀c∈m,capW c=true) → ∀x∈lgLn m,∀b∈bs x,b≠10
 | [],_,x,hx=>by cases hx
 | c::r,h,x,hx=>by
  have hc:=h c (List.mem_cons_self ..)
  obtain⟨h1,h2,h3,h4,h5,h6,h7,h8,h9⟩:=capW_spec hc
  obtain⟨k,hk⟩:=Int.eq_ofNat_of_zero_le h5
  rw[lgLn,List.mem_cons,List.mem_append,List.mem_cons]at hx
  rcases hx with rfl | hx | rfl | hx
  ·intro b hb
   rw[bs_cat,List.mem_append,hk,bs_mks (by omega)]at hb
   rcases hb with hb | hb
   ·exact tms_ne rfl (by decide) hc b hb
   ·exact mks_ne (by omega) _ _ b hb
  ·obtain⟨y,hy,rfl⟩:=List.mem_map.1 hx
   exact esc_ne (line_ne (h9 y hy)).1
  ·intro b hb;cases hb
  ·exact lgLn_ne r (fun d hd=>h d (List.mem_cons_of_mem _ hd)) x hx

theorem bdP_lines (E:ByteArray) (hE:emp E=true) (M:List ByteArray) : ∀(ls acc:List ByteArray) (a:Nat),(∀x∈ls,line x=true)→acc++ls≠[]→bdP (ls.map esc++E::M) acc a=(true,acc++ls,a+ls.length)
 | [],acc,a,_,h=>by
  have he:acc.isEmpty=false:=by cases acc;exact absurd rfl h;rfl
  rw[List.map_nil,List.nil_append,bdP,hE,he]
  simp
 | x::r,acc,a,hl,h=>by
  have hx:=hl x (List.mem_cons_self ..)
  obtain⟨p1,p2⟩:=plOk_esc hx
  have he:emp (esc x)=false:=by rw[emp_size,decide_eq_false_iff_not];have:=(line_ne hx).2;have:=(esc_size x).1;omega
  rw[List.map_cons,List.cons_append,bdP,he,Bool.false_and,cond_false,p1,cond_true,p2,bdP_lines E hE M r (acc++[x]) (a+1) (fun y hy=>hl y (List.mem_cons_of_mem _ hy)) (by simp)]
  rw[List.append_assoc,List.singleton_append,List.length_cons]
  congr 2
  omega

theorem lead_lgLn (m:List Cap) (h : ∀c∈m,capW c=true):lead (lgLn m)=0:=by
 cases m with
 | nil=>rfl
 | cons c r=>
  have h1:=tms_size (h c (List.mem_cons_self ..)) (show dot.size=1 from rfl)
  rw[lgLn,lead,emp_size,decide_eq_false (by rw[ByteArray.size_append];omega)]
  rfl

theorem lgL_back : ∀(m:List Cap) (L:List ByteArray) (out:List Cap) (a f:Nat),L.drop a=lgLn m→a≤L.length→m.length≤f→(∀c∈m,capW c=true) →
  lgL L f out a=(true,out++m,L.length)
 | [],L,out,a,f,hd,ha,_,_=>by
  have he:a=L.length:=by
   have:=congrArg List.length hd
   rw[List.length_drop]at this
   simp[lgLn]at this
   omega
  have ht:tkB L a=false:=decide_eq_false (by omega)
  cases f with
  | zero=>rw[lgL,List.append_nil,he]
  | succ f=>rw[lgL,ht,cond_false,List.append_nil,he]
 | c::r,L,out,a,0,hd,ha,hf,_=>by simp at hf
 | c::r,L,out,a,f+1,hd,ha,hf,hw=>by
  have hc:=hw c (List.mem_cons_self ..)
  obtain⟨h1,h2,h3,h4,h5,h6,h7,h8,h9⟩:=capW_spec hc
  rw[lgLn]at hd
  obtain⟨a1,a2,a3,a4⟩:=take_at hd
  rw[List.length_cons]at hf
  obtain⟨x,hx⟩:=Int.eq_ofNat_of_zero_le h1
  obtain⟨y,hy⟩:=Int.eq_ofNat_of_zero_le h3
  obtain⟨z,hz⟩:=Int.eq_ofNat_of_zero_le h5
  obtain⟨r1,r2,r3,r4⟩:=rtP_tms (a:=x) (b:=y) (s:=tms c dot++mks c.row c.bef c.aft) (p:=dot) (q:=46) rfl (by decide) (by omega) (by omega) (r:=mksL z c.bef c.aft) (by rw[bs_cat,hz,bs_mks (by omega)];unfold tms;rw[hx,hy])
  have hr:(rtP (tms c dot++mks c.row c.bef c.aft) dot).2.2.1=⟨⟨mksL z c.bef c.aft⟩⟩:=bsx r3
  obtain⟨m1,m2,m3,m4⟩:=mks_read ⟨z,by omega⟩ c.bef c.aft
  have hok:lgOk (tms c dot++mks c.row c.bef c.aft)=true:=by
   unfold lgOk
   rw[r4,hr,m1]
   rfl
  have hcap:lgCap (tms c dot++mks c.row c.bef c.aft) c.lines=c:=by
   unfold lgCap
   rw[r1,r2,hr,m2,m3,m4,←hx,←hy]
   show(⟨c.fr,c.to,c.lines,(z:Int),c.bef,c.aft⟩:Cap)=c
   rw[←hz]
  have hbd:=bdP_lines (⟨⟨[]⟩⟩:ByteArray) (by simp[emp]) (lgLn r) c.lines [] (a+1) h9 (by simpa using h8)
  rw[←a3,List.nil_append]at hbd
  have hd2:L.drop (a+1+c.lines.length)=⟨⟨[]⟩⟩::lgLn r:=by
   rw[←List.drop_drop,a3,List.drop_left' (by rw[List.length_map])]
  obtain⟨d1,d2,d3,d4⟩:=take_at hd2
  have hlead:lead (L.drop (a+1+c.lines.length))=1:=by
   rw[hd2,lead,lead_lgLn r fun d hd=>hw d (List.mem_cons_of_mem _ hd),show emp (⟨⟨[]⟩⟩:ByteArray)=true from by simp[emp]]
   rfl
  have ih:=lgL_back r L (out++[c]) (a+1+c.lines.length+1) f d3 (by omega) (by omega) (fun d hd=>hw d (List.mem_cons_of_mem _ hd))
  rw[lgL,a1,cond_true,a2,hok,cond_true,hbd]
  simp only[cond_true,hlead,hcap]
  rw[ih,List.append_assoc]
  rfl

theorem lgLn_len : ∀(m:List Cap),m.length≤(lgLn m).length
 | []=>Nat.le_refl _
 | c::r=>by
  have:=lgLn_len r
  rw[lgLn]
  simp only[List.length_cons,List.length_append]
  omega

theorem long_back {l:List Cap} (h:longF l=0):rdLo (longS l)=(l,0,0):=by
 unfold longF at h
 cases hc:chkC l != 0
 ·have hc0:chkC l=0:=by simpa using hc
  obtain⟨g1,g2⟩:=chkC_w hc0
  have hw:=List.all_eq_true.1 g2
  rw[hc,cond_false]at h
  unfold bnfL at h
  cases hb:decide (200000<(longT l).size)
  ·have e1:longS l=longT l:=by unfold longS bndS;rw[hc,hb];rfl
   have hT:bs (longT l)=lnB (webB::⟨⟨[]⟩⟩::lgLn l):=by
    unfold longT
    rw[bs_lgA1,lnB_cons,lnB_cons]
    rfl
   have hne : ∀x∈webB::⟨⟨[]⟩⟩::lgLn l,∀b∈bs x,b≠10:=by
    intro x hx
    rw[List.mem_cons,List.mem_cons]at hx
    rcases hx with rfl | rfl | hx
    ·intro b hb
     have hb:b∈([87,69,66,86,84,84]:List UInt8):=hb
     simp only[List.mem_cons,List.not_mem_nil,or_false]at hb
     rcases hb with rfl | rfl | rfl | rfl | rfl | rfl<;>decide
    ·intro b hb;cases hb
    ·exact lgLn_ne l hw x hx
   have hL:lns (longT l)=webB::⟨⟨[]⟩⟩::lgLn l:=lns_lnB hne hT
   have hlead:lead ((webB::⟨⟨[]⟩⟩::lgLn l).drop 1)=1:=by
    rw[List.drop_succ_cons,List.drop_zero,lead,lead_lgLn l hw,show emp (⟨⟨[]⟩⟩:ByteArray)=true from by simp[emp]]
    rfl
   have hA:lgA (webB::⟨⟨[]⟩⟩::lgLn l)=(true,l,(webB::⟨⟨[]⟩⟩::lgLn l).length):=by
    obtain⟨t1,t2,_,_⟩:=take_at (L:=webB::⟨⟨[]⟩⟩::lgLn l) (a:=0) (x:=webB) (t:=⟨⟨[]⟩⟩::lgLn l) rfl
    unfold lgA hd1 hd2
    rw[t1,t2,seq_refl,hlead]
    have:=lgLn_len l
    exact lgL_back l (webB::⟨⟨[]⟩⟩::lgLn l) [] (1+1) _ rfl (by simp) (by simp only[List.length_cons];omega) hw
   rw[e1]
   unfold rdLo
   rw[hb,hL,hA]
   unfold rdKL
   simp only[cond_true,cond_false,hc]
  ·rw[hb]at h;cases h
 ·rw[hc,cond_true]at h
  rw[h]at hc;simp at hc

end F

theorem F.longS_small (l : List Cap) : F.small (F.longS l) = true := by
  have e0 : F.small (⟨⟨[]⟩⟩ : ByteArray) = true := rfl
  have hb : ∀ s, F.small (F.bndS s) = true := fun s => by
    unfold F.bndS
    cases h : decide (200000 < s.size)
    · exact decide_eq_true (by have : ¬ 200000 < s.size := of_decide_eq_false h
                               simp only [cond_false]; omega)
    · exact e0
  unfold F.longS
  cases F.chkC l != 0
  · exact hb _
  · exact e0

namespace M

end M

def F.bdV (sc:Int) (g:List Seg):List Int:=F.bdG (fun n=>F.rcv n sc) g

theorem F.bdV_same {sc:Int} (h1:F.noScale sc=false) : ∀g:List Seg,g.any F.sgB=false→(∀t∈F.bdL sc g,F.noTime t=false)→F.bdV sc g=F.bdL sc g
 | [],_,_=>rfl
 | [s],hs,hb=>by
  have hs:F.sgB s=false:=by simpa using hs
  obtain⟨a1,a2,a3,a4⟩:=F.sgB_ok hs
  unfold F.noScale F.out at h1
  simp only[Bool.or_eq_false_iff,decide_eq_false_iff_not]at h1
  unfold F.bdV F.bdL
  rw[F.bdG_last,F.bdG_last]
  have e1:=F.rcv_ok (n:=s.begin+s.lead) (sc:=sc) (by omega) (by omega) (by omega) (hb _ (by unfold F.bdL;rw[F.bdG_last];exact List.mem_cons_self ..))
  have e2:=F.rcv_ok (n:=s.begin+s.lead+s.length) (sc:=sc) (by omega) (by omega) (by omega) (hb _ (by unfold F.bdL;rw[F.bdG_last];exact List.mem_cons_of_mem _ (List.mem_cons_self ..)))
  rw[e1,e2]
  rfl
 | s::t::r,hs,hb=>by
  rw[List.any_cons,Bool.or_eq_false_iff]at hs
  obtain⟨a1,a2,a3,a4⟩:=F.sgB_ok hs.1
  have hc:=h1
  unfold F.noScale F.out at hc
  simp only[Bool.or_eq_false_iff,decide_eq_false_iff_not]at hc
  have ih:=F.bdV_same h1 (t::r) hs.2 fun x hx=>hb x (by unfold F.bdL at hx ⊢;rw[F.bdG_more _ s (by simp)];exact List.mem_cons_of_mem _ hx)
  have e1:=F.rcv_ok (n:=s.begin+s.lead) (sc:=sc) (by omega) (by omega) (by omega) (hb _ (by unfold F.bdL;rw[F.bdG_more _ s (by simp)];exact List.mem_cons_self ..))
  unfold F.bdV F.bdL at ih ⊢
  rw[F.bdG_more _ s (by simp),F.bdG_more _ s (by simp),ih,e1]
  rfl

def F.rdAll (ts:List ByteArray):Bool:=ts.all fun s=>F.small s&&((F.rdLo s).2.2==0&&(F.rdLo s).2.1==0)

theorem F.rd_txs {ps:List (List Cap)} (h:M.ffI F.longF ps=0):F.rdAll (ps.map F.longS)=true∧(ps.map F.longS).map (fun s=>(F.rdLo s).1)=ps:=by
 induction ps with
 | nil=>exact⟨rfl,rfl⟩
 | cons p ps ih=>
  rw[M.ffI]at h
  by_cases h0:F.longF p=0
  ·rw[if_pos h0]at h
   obtain⟨i1,i2⟩:=ih h
   have hb:=F.long_back h0
   refine⟨?_,?_⟩
   ·unfold F.rdAll at i1 ⊢
    rw[List.map_cons,List.all_cons,i1,F.longS_small,hb]
    rfl
   ·rw[List.map_cons,List.map_cons,i2,hb]
  ·rw[if_neg h0]at h
   exact absurd h h0

theorem F.subs_no {l:List Cap} {g:List Seg} {sc:Int} (h:(F.subs l g sc).2≠0):(F.subs l g sc).1=[]:=by
 revert h
 unfold F.subs F.txs
 cases F.chkC l != 0
 case true=>exact fun _=>rfl
 cases decide (g.length=0)
 case true=>exact fun _=>rfl
 cases F.noScale sc
 case true=>exact fun _=>rfl
 cases g.any F.sgB
 case true=>exact fun _=>rfl
 cases(F.cutL l (F.bdL sc g)).2 != 0
 case true=>exact fun _=>rfl
 cases M.ffI F.longF (F.cutL l (F.bdL sc g)).1 != 0
 case true=>exact fun _=>rfl
 exact fun h=>absurd rfl h

theorem F.subs_ok {l:List Cap} {g:List Seg} {sc:Int} (h:(F.subs l g sc).2=0):F.chkC l=0∧F.noScale sc=false∧g.any F.sgB=false∧F.bnds (F.bdL sc g)=0∧M.ffI F.longF (F.splitB l (F.bdL sc g))=0∧(F.subs l g sc).1=(F.splitB l (F.bdL sc g)).map F.longS:=by
 unfold F.subs F.txs at h ⊢
 by_cases hc:F.chkC l=0
 case neg=>rw[M.bne1 hc]at h;exact absurd h hc
 rw[M.bne0 hc,cond_false]at h ⊢
 cases hg:decide (g.length=0)
 case true=>rw[hg]at h;cases h
 rw[hg,cond_false]at h
 cases hs:F.noScale sc
 case true=>rw[hs]at h;cases h
 rw[hs,cond_false]at h
 cases ha:g.any F.sgB
 case true=>rw[ha]at h;cases h
 rw[ha,cond_false]at h
 by_cases hk:(F.cutL l (F.bdL sc g)).2=0
 case neg=>rw[M.bne1 hk]at h;exact absurd h hk
 rw[M.bne0 hk,cond_false]at h
 have hb:F.bnds (F.bdL sc g)=0:=by
  unfold F.cutL at hk
  rw[M.bne0 hc]at hk
  by_cases hb:F.bnds (F.bdL sc g)=0
  ·exact hb
  ·rw[M.bne1 hb]at hk;exact absurd hk hb
 have e:(F.cutL l (F.bdL sc g)).1=F.splitB l (F.bdL sc g):=by
  unfold F.cutL
  rw[M.bne0 hc,M.bne0 hb]
  rfl
 rw[e]at h ⊢
 by_cases h0:M.ffI F.longF (F.splitB l (F.bdL sc g))=0
 case neg=>rw[M.bne1 h0]at h;exact absurd h h0
 refine⟨hc,rfl,rfl,hb,h0,?_⟩
 rw[M.bne0 hk,M.bne0 h0]
 rfl

namespace M

def stBv (g:List Seg) (sc:Int) (acc:List Int) (k:Nat):St:=⟨[(12,vI k),(11,vI g.length),(10, .sl (g.map eSeg)),(5, .own 5),(1,vI sc),(0, .sl (g.map eSeg))],[(5,⟨false,3,1,acc.map eI⟩)]⟩

def stBv1 (a:(List Seg)×Int×(List Int)×Nat):St:=stBv a.1 a.2.1 a.2.2.1 a.2.2.2

theorem stBv_inj (a a':(List Seg)×Int×(List Int)×Nat) (h:stBv1 a=stBv1 a'):a=a':=by
 simp only[stBv1,stBv]at h
 try simp[ints_inj,eSegs_inj]at h
 grind

theorem unstBv0 (g:List Seg) (sc:Int)  : unenc stBv1 (St.mk [(12,(vI (0:Int))),(11,(vI (↑(List.length g):Int))),(10,AV.sl (List.map eSeg g)),(5, .own 5),(1,(vI sc)),(0,AV.sl (List.map eSeg g))] [(5,Blk.mk false
 3 1 [])])=some (g,sc,[],0):=unenc_of stBv_inj (g,sc,[],0) rfl

def outBv (g:List Seg) (sc:Int) (acc:List Int) (k:Nat):T (Ex×St):= .ret (.exit 0,⟨[(5, .own 5)],[(5,⟨false,3,1,(acc++F.bdV sc (g.drop k)).map eI⟩)]⟩)

noncomputable def prlBv (g:List Seg) (sc:Int) (acc:List Int) (k:Nat):Bool:=decide (g.length≤1048576)&&decide (k≤g.length)&&decide (acc.length≤k∨k=g.length) && !(g.any F.sgB)

noncomputable def lpBv:Nat×(St→T (Ex×St)):=(3,lpo [12,11,10,5,1,0] [5] stBv1 (fun a=>prlBv a.1 a.2.1 a.2.2.1 a.2.2.2) fun a=>outBv a.1 a.2.1 a.2.2.1 a.2.2.2)

noncomputable def enBv:Env:=envH ty noG lks [oRcv] [] [] [lpBv]

theorem enBv_ok:EnvOK Tryz.prog enBv:=by
 refine envH_ok lks_ok ty_ok ?_ ?_
 ·simp only[List.forall_mem_cons]
  exact⟨okRcv,by simp⟩
 ·simp

theorem evBvL (g:List Seg) (sc:Int) (acc:List Int) (k:Nat):((exec enBv (loopN Tryz.f18 0) (stBv g sc acc k)).bind (lessX ([12,11,10,5,1,0],[5]) ([5],[5]) ([],[]))).val =
 (fun(q:Seg)=>(fun(q_1:List AV)=>(fun(q_2:List (Nat×AV))=>bif decide ((↑k:Int)<(↑(List.length g):Int)) then Option.bind (unenc (List.map eSeg)
 (List.map eSeg g)) fun z=>(fun(q_3:Int)=>bif decide (k<List.length z) then Option.bind (unenc encRcv ((vI q_3)::q_1)) fun z_1=>(fun
 (q_4:List Row)=>bif Nat.ble ((List.length (List.map eI acc)+1)*8) 140737488355328&&true then bif (↑k:Int)==IntKind.wrap IntKind.i64
 ((↑(List.length (List.map eSeg g)):Int) - (1:Int)) then Option.bind (unenc encRcv ((vI (IntKind.i64.wrap (q_3+(List.getD z k q).length)))::q_1)) fun(z :
 Int×Int)=>bif Nat.ble ((List.length q_4+1)*8) 140737488355328&&true then some (Ex.normal,St.mk q_2 [(5,Blk.mk false 3 1 (q_4++[[(vI
 (F.rcv z.1 z.2))]]))]) else none else some (Ex.normal,St.mk q_2 [(5,Blk.mk false 3 1 q_4)]) else none) (List.map eI acc++[[(vI (F.rcv z_1.1 z_1.2))]]) else
 none) (IntKind.i64.wrap ((List.getD z k q).begin+(List.getD z k q).lead)) else some (Ex.exit (0:Nat),St.mk [(5, .own 5)] [(5,Blk.mk false 3 1 (List.map eI
 acc))])) [(12,(vI (IntKind.i64.wrap ((↑k:Int)+1)))),(11,(vI (↑(List.length g):Int))),(10,AV.sl (List.map eSeg g)),(5, .own 5),(1,(vI sc)),
 (0,AV.sl (List.map eSeg g))]) [(vI sc),(vI 1000),(vI 2)]) (Seg.mk (0:Int) (0:Int) (0:Int) (0:Int) (0:Int) (0:Int) (0:Int)):=(execR_bind _ _ _).symm.trans (by kernel_rfl)

theorem lpBv_ok (g:List Seg) (sc:Int) (acc:List Int) (k:Nat) (hp:prlBv g sc acc k=true) : ∀ex s',(outBv g sc acc k).val=some (ex,s')→LoopOK enBv (loopN Tryz.f18 0) (stBv g sc acc k) ex s':=by
 simp only[prlBv,Bool.and_eq_true,decide_eq_true_eq]at hp
 obtain⟨⟨⟨h1,h2⟩,h3⟩,h4⟩:=hp
 have h4:g.any F.sgB=false:=by simpa using h4
 refine loop_gen (st:=fun a:List Int×Nat=>stBv g sc a.1 a.2) (out:=fun a=>outBv g sc a.1 a.2) (I:=fun a=>a.2≤g.length∧(a.1.length≤a.2∨a.2=g.length)) (n:=([12,11,10,5,1,0],[5])) (e:=([5],[5])) (r:=([],[])) (fun a=>g.length - a.2) ?_ (acc,k) ⟨h2,h3⟩
 clear h2 h3 acc k
 rintro⟨acc,k⟩ ⟨h2,h3⟩
 simp only at h2 h3
 by_cases hlt:k<g.length
 ·have hy:g[k]? = some g[k]:=List.getElem?_eq_getElem hlt
  have hd:g.drop k=g[k]::g.drop (k+1):=List.drop_eq_getElem_cons hlt
  have hb:F.sgB g[k]=false:=by
   cases hq:F.sgB g[k]
   ·rfl
   ·have:g.any F.sgB=true:=List.any_eq_true.2 ⟨_,List.getElem_mem hlt,hq⟩
    rw[this]at h4;cases h4
  generalize g[k]=s at hy hd hb
  have hN:=next_at hlt (by omega:g.length≤9223372036854775807)
  have h3:acc.length≤k:=h3.resolve_right (by omega)
  obtain⟨a1,a2,a3,a4⟩:=F.sgB_ok hb
  have w1:IntKind.i64.wrap (s.begin+s.lead)=s.begin+s.lead:=wrap_id (by omega) (by omega)
  have w2:IntKind.i64.wrap (s.begin+s.lead+s.length)=s.begin+s.lead+s.length:=wrap_id (by omega) (by omega)
  have w3:IntKind.i64.wrap ((g.length:Int) - 1)=(g.length:Int) - 1:=wrap_id (by omega) (by omega)
  have b1:Nat.ble ((acc.length+1)*8) 140737488355328=true:=ble_t (by omega)
  have b2:Nat.ble ((acc.length+1+1)*8) 140737488355328=true:=ble_t (by omega)
  right
  by_cases hlast:k+1=g.length
  ·have hdn:g.drop (k+1)=[]:=List.drop_eq_nil_of_le (by omega)
   have hi:((k:Int)==(g.length:Int) - 1)=true:=by rw[beq_iff_eq];omega
   refine⟨(acc++[F.rcv (s.begin+s.lead) sc,F.rcv (s.begin+s.lead+s.length) sc],k+1),?_,rfl,⟨hlt, .inr hlast⟩,by simp only;omega,?_⟩
   ·rw[evBvL]
    simp only[unRcv,Option.bind_some,List.length_map,unSegs,cond_true,Bool.and_true,cast_lt hlt,decide_eq_true hlt,getD_at hy,hN,w1,w2,w3,hi,List.length_append,List.length_singleton,b1,b2,appInts',List.append_assoc,List.singleton_append]
    try rfl
   ·simp only[outBv,hd,hdn,F.bdV,F.bdG_last,F.bdG,List.append_nil]
  ·have hdn:g.drop (k+1)≠[]:=fun e=>by
    have:=congrArg List.length e
    rw[List.length_drop]at this
    simp at this
    omega
   have hi:((k:Int)==(g.length:Int) - 1)=false:=by rw[beq_eq_false_iff_ne];omega
   refine⟨(acc++[F.rcv (s.begin+s.lead) sc],k+1),?_,rfl,⟨hlt, .inl (by simp only[List.length_append,List.length_singleton];omega)⟩,by simp only;omega,?_⟩
   ·rw[evBvL]
    simp only[unRcv,Option.bind_some,List.length_map,unSegs,cond_true,cond_false,Bool.and_true,cast_lt hlt,decide_eq_true hlt,getD_at hy,hN,w1,w3,hi,List.length_append,List.length_singleton,b1,b2,appInts']
    try rfl
   ·simp only[outBv,hd,F.bdV,F.bdG_more _ s hdn,List.append_assoc,List.singleton_append]
 ·have:k=g.length:=by omega
  subst this
  left
  refine⟨(.exit 0,⟨[(5, .own 5)],[(5,⟨false,3,1,acc.map eI⟩)]⟩),?_,?_,by simp,rfl⟩
  ·rw[evBvL]
   simp only[unRcv,Option.bind_some,List.length_map,unSegs,cond_false,Bool.and_true,cast_ge]
   try rfl
  ·simp only[outBv,List.drop_length,F.bdV,F.bdG,List.append_nil]
   rfl

theorem evBv (g:List Seg) (sc:Int):(runF enBv false Tryz.f18 [.sl (g.map eSeg),vI sc]).val =
 Option.bind (unenc stBv1 (St.mk [(12,(vI 0)),(11,(vI (↑(List.length (List.map eSeg g)):Int))),(10,AV.sl (List.map eSeg g)),(5, .own 5),(1,(vI sc)),(0,
 AV.sl (List.map eSeg g))] [(5,Blk.mk false 3 1 [])])) fun z=>bif decide (List.length z.1≤1048576)&&decide
 (z.2.2.2≤List.length z.1)&&decide (List.length z.2.2.1≤z.2.2.2∨z.2.2.2=List.length z.1) && !List.any z.1 F.sgB&&true then some
 (AV.sl (List.map eI (z.2.2.1++F.bdV z.2.1 (List.drop z.2.2.2 z.1))),[]) else none:=(runFR_val).symm.trans (by kernel_rfl)

def encBv1 (g:List Seg) (sc:Int):List AV:=[.sl (g.map eSeg),vI sc]

def encBv (a:(List Seg)×Int):List AV:=encBv1 a.1 a.2

theorem encBv_inj (a a':(List Seg)×Int) (h:encBv a=encBv a'):a=a':=by
 simp only[encBv,encBv1]at h
 try simp[eSegs_inj]at h
 grind

theorem unBv (g:List Seg) (sc:Int):unenc encBv ([AV.sl (List.map eSeg g),(vI sc)])=some (g,sc):=unenc_of encBv_inj (g,sc) rfl

def resBv1 (g:List Seg) (sc:Int):AV×Heap:=(.sl ((F.bdV sc g).map eI),[])

def preBv1 (g:List Seg) (sc:Int):Bool:=decide (g.length≤1048576) && !(g.any F.sgB)

noncomputable def oBv:Orc:=orc 18 false encBv (fun a=>preBv1 a.1 a.2) fun a=>resBv1 a.1 a.2

theorem okBv:OrcOK Tryz.prog noG oBv:=by
 refine mk_ok Tryz.f18 (keep:=false) (by kernel_rfl) (by kernel_rfl) enBv_ok mixed (one_loop (x0:=loopN Tryz.f18 0) (by kernel_rfl) (lpo_ok ?_)) (by first | exact fun _ _=>⟨rfl,rfl⟩ | (intro h;cases h)) ?_
 ·rintro⟨g,sc,acc,k⟩ hp
  exact lpBv_ok g sc acc k hp
 rintro⟨g,sc⟩ hpre hok
 show(runF enBv false _ (encBv1 _ _)).val=some (resBv1 _ _)
 unfold encBv1 resBv1
 rw[evBv]
 simp only[preBv1,Bool.and_eq_true,decide_eq_true_eq,Bool.not_eq_true']at hpre
 obtain⟨h1,h2⟩:=hpre
 simp only
 simp only[unstBv0,Option.bind_some,List.length_map,cond_true,Bool.and_true,decide_eq_true h1,h2,List.drop_zero,List.nil_append,decide_eq_true (Nat.zero_le g.length),List.length_nil,Nat.le_refl,true_or,decide_true,Bool.not_false,Bool.and_self]

noncomputable def enLap:Env:=envH ty noG lks [oAa] [] [] []

theorem enLap_ok:EnvOK Tryz.prog enLap:=by
 refine envH_ok lks_ok ty_ok ?_ ?_
 ·simp only[List.forall_mem_cons]
  exact⟨okAa,by simp⟩
 ·simp

theorem evLap (l:List Cap) (bs:List Int):(runF enLap false Tryz.f19 [.sl (l.map eCap), .sl (bs.map eI)]).val =
 Option.bind (unenc encAa [AV.sl (List.map eCap l),AV.sl (List.map eI bs)]) fun z=>bif decide (List.length z.1≤100000∧(1:Nat) ≤
 List.length z.2∧List.length z.2≤100000) then some ((vB (F.apR (List.getD z.2 (0:Nat) (0:Int)) (List.getD z.2 (List.length z.2 - (1:Nat)) (0 :
 Int)) [] z.1)),[]) else none:=(runFR_val).symm.trans (by kernel_rfl)

def encLap1 (l:List Cap) (bs:List Int):List AV:=[.sl (l.map eCap), .sl (bs.map eI)]

def encLap (a:(List Cap)×(List Int)):List AV:=encLap1 a.1 a.2

theorem encLap_inj (a a':(List Cap)×(List Int)) (h:encLap a=encLap a'):a=a':=by
 simp only[encLap,encLap1]at h
 try simp[ints_inj,eCaps_inj]at h
 grind

theorem unLap (l:List Cap) (bs:List Int):unenc encLap ([AV.sl (List.map eCap l),AV.sl (List.map eI bs)])=some (l,bs):=unenc_of encLap_inj (l,bs) rfl

def resLap1 (l:List Cap) (bs:List Int):AV×Heap:=(vB (F.apR (bs.getD 0 0) (bs.getD (bs.length - 1) 0) [] l),[])

def preLap1 (l:List Cap) (bs:List Int):Bool:=decide (l.length≤100000∧1≤bs.length∧bs.length≤100000)

noncomputable def oLap:Orc:=orc 19 true encLap (fun a=>preLap1 a.1 a.2) fun a=>resLap1 a.1 a.2

theorem okLap:OrcOK Tryz.prog noG oLap:=by
 refine mk_ok Tryz.f19 (keep:=false) (by kernel_rfl) (by kernel_rfl) enLap_ok mixed (no_loops (by kernel_rfl)) (by first | exact fun _ _=>⟨rfl,rfl⟩ | (intro h;cases h)) ?_
 rintro⟨l,bs⟩ hpre hok
 show(runF enLap false _ (encLap1 _ _)).val=some (resLap1 _ _)
 unfold encLap1 resLap1
 rw[evLap]
 simp only[preLap1]at hpre
 simp only[unAa,Option.bind_some,cond_true,hpre]

noncomputable def enSmc:Env:=envH ty noG lks [oSa] [] [] []

theorem enSmc_ok:EnvOK Tryz.prog enSmc:=by
 refine envH_ok lks_ok ty_ok ?_ ?_
 ·simp only[List.forall_mem_cons]
  exact⟨okSa,by simp⟩
 ·simp

theorem evSmc (a:List Cap) (b:List Cap):(runF enSmc false Tryz.f22 [.sl (a.map eCap), .sl (b.map eCap)]).val =
 Option.bind (unenc encSa [AV.sl (List.map eCap a),AV.sl (List.map eCap b)]) fun z=>some ((vB (F.sameCL z.1 z.2)),[]):=(runFR_val).symm.trans (by kernel_rfl)

def encSmc1 (a:List Cap) (b:List Cap):List AV:=[.sl (a.map eCap), .sl (b.map eCap)]

def encSmc (a:(List Cap)×(List Cap)):List AV:=encSmc1 a.1 a.2

theorem encSmc_inj (a a':(List Cap)×(List Cap)) (h:encSmc a=encSmc a'):a=a':=by
 simp only[encSmc,encSmc1]at h
 try simp[eCaps_inj]at h
 grind

theorem unSmc (a:List Cap) (b:List Cap):unenc encSmc ([AV.sl (List.map eCap a),AV.sl (List.map eCap b)])=some (a,b):=unenc_of encSmc_inj (a,b) rfl

def resSmc1 (a:List Cap) (b:List Cap):AV×Heap:=(vB (F.sameCL a b),[])

def preSmc1 (a:List Cap) (b:List Cap):Bool:=true

noncomputable def oSmc:Orc:=orc 22 true encSmc (fun a=>preSmc1 a.1 a.2) fun a=>resSmc1 a.1 a.2

theorem okSmc:OrcOK Tryz.prog noG oSmc:=by
 refine mk_ok Tryz.f22 (keep:=false) (by kernel_rfl) (by kernel_rfl) enSmc_ok mixed (no_loops (by kernel_rfl)) (by first | exact fun _ _=>⟨rfl,rfl⟩ | (intro h;cases h)) ?_
 rintro⟨a,b⟩ hpre hok
 show(runF enSmc false _ (encSmc1 _ _)).val=some (resSmc1 _ _)
 unfold encSmc1 resSmc1
 rw[evSmc]
 simp only[unSa,Option.bind_some]

def stLp (l:List Cap) (bs:List Int) (ts:List ByteArray) (acc:List (List Cap)) (k:Nat):St:=⟨[(42,vI k),(41,vI ts.length),(40, .sl (ts.map eStr)),(10, .own 10),(9, .sl (bs.map eI)),(0, .sl (l.map eCap))],[(10,⟨false,53,1,acc.map eL_eCap⟩)]⟩

def stLp1 (a:(List Cap)×(List Int)×(List ByteArray)×(List (List Cap))×Nat):St:=stLp a.1 a.2.1 a.2.2.1 a.2.2.2.1 a.2.2.2.2

theorem stLp_inj (a a':(List Cap)×(List Int)×(List ByteArray)×(List (List Cap))×Nat) (h:stLp1 a=stLp1 a'):a=a':=by
 simp only[stLp1,stLp]at h
 try simp[strs_inj,ints_inj,eCaps_inj,eL_eCaps_inj]at h
 grind

theorem unstLp0 (l:List Cap) (bs:List Int) (ts:List ByteArray)  : unenc stLp1 (St.mk [(42,(vI (0:Int))),(41,(vI (↑(List.length ts):Int))),(40,AV.sl (List.map eStr ts)),(10, .own 10),(9,AV.sl (List.map eI bs)),(0,AV.sl (List.map eCap
 l))] [(10,Blk.mk false 53 1 [])])=some (l,bs,ts,[],0):=unenc_of stLp_inj (l,bs,ts,[],0) rfl

def outLp (l:List Cap) (bs:List Int) (ts:List ByteArray) (acc:List (List Cap)) (k:Nat):T (Ex×St):= .ret (.exit 0,⟨[(10, .own 10),(9, .sl (bs.map eI)),(0, .sl (l.map eCap))],[(10,⟨false,53,1,(acc++(ts.drop k).map (fun s=>(F.rdLo s).1)).map eL_eCap⟩)]⟩)

noncomputable def prlLp (l:List Cap) (bs:List Int) (ts:List ByteArray) (acc:List (List Cap)) (k:Nat):Bool:=F.rdAll ts&&decide (ts.length≤1000)&&decide (k≤ts.length)&&decide (acc.length≤k)

noncomputable def lpLp:Nat×(St→T (Ex×St)):=(9,lpo [42,41,40,10,9,0] [10] stLp1 (fun a=>prlLp a.1 a.2.1 a.2.2.1 a.2.2.2.1 a.2.2.2.2) fun a=>outLp a.1 a.2.1 a.2.2.1 a.2.2.2.1 a.2.2.2.2)

noncomputable def enLTs:Env:=envH ty noG lks [oSb,oAlv,oBv,oLap,oRLo,oJ,oSmc] [] [] [lpLp]

theorem enLTs_ok:EnvOK Tryz.prog enLTs:=by
 refine envH_ok lks_ok ty_ok ?_ ?_
 ·simp only[List.forall_mem_cons]
  exact⟨okSb,okAlv,okBv,okLap,okRLo,okJ,okSmc,by simp⟩
 ·simp

theorem evLpL (l:List Cap) (bs:List Int) (ts:List ByteArray) (acc:List (List Cap)) (k:Nat):((exec enLTs (loopN Tryz.f5 0) (stLp l bs ts acc k)).bind (lessX ([42,41,40,10,9,0],[10]) ([10,9,0],[10]) ([],[]))).val =
 bif decide ((↑k:Int)<(↑(List.length ts):Int)) then Option.bind (unenc (List.map eStr) (List.map eStr ts)) fun z=>bif decide (k<List.length z)
 then Option.bind (unenc encRLo [(vS (List.getD z k (ByteArray.mk (Array.mk []))))]) fun z=>bif F.small z then bif bif (F.rdLo z).snd.snd != 0 then
 true else (F.rdLo z).snd.fst != 0 then some (Ex.ret,St.mk [] []) else bif Nat.ble ((List.length (List.map eL_eCap acc)+1)*24) 140737488355328&&true then some (Ex.normal,St.mk [(42,(vI (IntKind.i64.wrap ((↑k:Int)+1)))),(41,(vI (↑(List.length ts):Int))),(40,AV.sl (List.map eStr
 ts)),(10, .own 10),(9,AV.sl (List.map eI bs)),(0,AV.sl (List.map eCap l))] [(10,Blk.mk false 53 1 (List.map eL_eCap acc++[[AV.sl (List.map eCap (F.rdLo
 z).fst)]]))]) else none else none else none else some (Ex.exit (0:Nat),St.mk [(10, .own 10),(9,AV.sl (List.map eI bs)),(0,AV.sl (List.map eCap l))] [(10,Blk.mk
 false 53 1 (List.map eL_eCap acc))]):=(execR_bind _ _ _).symm.trans (by kernel_rfl)

theorem lpLp_ok (l:List Cap) (bs:List Int) (ts:List ByteArray) (acc:List (List Cap)) (k:Nat) (hp:prlLp l bs ts acc k=true) : ∀ex s',(outLp l bs ts acc k).val=some (ex,s')→LoopOK enLTs (loopN Tryz.f5 0) (stLp l bs ts acc k) ex s':=by
 simp only[prlLp,Bool.and_eq_true,decide_eq_true_eq]at hp
 obtain⟨⟨⟨h1,h2⟩,h3⟩,h4⟩:=hp
 refine loop_gen (st:=fun a:List (List Cap)×Nat=>stLp l bs ts a.1 a.2) (out:=fun a=>outLp l bs ts a.1 a.2) (I:=fun a=>a.2≤ts.length∧a.1.length≤a.2) (n:=([42,41,40,10,9,0],[10])) (e:=([10,9,0],[10])) (r:=([],[])) (fun a=>ts.length - a.2) ?_ (acc,k) ⟨h3,h4⟩
 clear h3 h4 acc k
 rintro⟨acc,k⟩ ⟨h3,h4⟩
 simp only at h3 h4
 by_cases hlt:k<ts.length
 ·have hy:ts[k]? = some ts[k]:=List.getElem?_eq_getElem hlt
  have hd:ts.drop k=ts[k]::ts.drop (k+1):=List.drop_eq_getElem_cons hlt
  generalize ts[k]=s at hy hd
  have hN:=next_at hlt (by omega:ts.length≤9223372036854775807)
  have hr:=List.all_eq_true.1 h1 s (List.mem_of_getElem? hy)
  simp only[Bool.and_eq_true,beq_iff_eq]at hr
  obtain⟨r1,r2,r3⟩:=hr
  have b1:Nat.ble ((acc.length+1)*24) 140737488355328=true:=ble_t (by omega)
  have z:((0:Int) != 0)=false:=rfl
  have ha:acc.map eL_eCap++[[.sl ((F.rdLo s).1.map eCap)]]=(acc++[(F.rdLo s).1]).map eL_eCap:=by rw[List.map_append];rfl
  right
  refine⟨(acc++[(F.rdLo s).1],k+1),?_,rfl,⟨hlt,by simp only[List.length_append,List.length_singleton];omega⟩,by simp only;omega,?_⟩
  ·rw[evLpL]
   simp only[unRLo,Option.bind_some,List.length_map,unStrs,cond_true,cond_false,Bool.and_true,cast_lt hlt,decide_eq_true hlt,getD_at hy,hN,r1,r2,r3,z,b1,ha]
   try rfl
  ·simp only[outLp,hd,List.map_cons,List.append_assoc,List.singleton_append]
 ·have:k=ts.length:=by omega
  subst this
  left
  refine⟨(.exit 0,⟨[(10, .own 10),(9, .sl (bs.map eI)),(0, .sl (l.map eCap))],[(10,⟨false,53,1,acc.map eL_eCap⟩)]⟩),?_,?_,by simp,rfl⟩
  ·rw[evLpL]
   simp only[unRLo,Option.bind_some,List.length_map,unStrs,cond_false,Bool.and_true,cast_ge]
   try rfl
  ·simp only[outLp,List.drop_length,List.map_nil,List.append_nil]
   rfl

theorem evLTs (l:List Cap) (g:List Seg) (sc:Int):(runF enLTs false Tryz.f5 [.sl (l.map eCap), .sl (g.map eSeg),vI sc]).val =
 (fun(q:Option (AV×Heap))=>Option.bind (unenc encSb [AV.sl (List.map eCap l),AV.sl (List.map eSeg g),(vI sc)]) fun z=>(fun(q_1 :
 Int)=>bif F.smC z.1&&decide (List.length z.2.1≤1048576) then bif (F.subs z.1 z.2.1 z.2.2).snd != 0 then bif q_1==0 then q
 else some ((vB false),[]) else Option.bind (unenc encBv [AV.sl (List.map eSeg g),(vI sc)]) fun z_1=>bif decide (List.length z_1.1≤1048576) && !List.any z_1.1 F.sgB then Option.bind (unenc encLap [AV.sl (List.map eCap l),AV.sl (List.map eI (F.bdV z_1.2 z_1.1))]) fun z_2=>
 bif decide (List.length z_2.1≤100000∧(1:Nat)≤List.length z_2.2∧List.length z_2.2≤100000) then bif !F.apR (List.getD z_2.2 (0:Nat) (0
 : Int)) (List.getD z_2.2 (List.length z_2.2 - (1:Nat)) (0:Int)) [] z_2.1 then q else Option.bind (unenc stLp1 (St.mk [(42,(vI 0)),(41,(vI q_1)),(40,
 AV.sl (List.map eStr (F.subs z.1 z.2.1 z.2.2).fst)),(10, .own 10),(9,AV.sl (List.map eI (F.bdV z_1.2 z_1.1))),(0,AV.sl (List.map eCap l))] [(10,Blk.mk
 false 53 1 [])])) fun z=>bif F.rdAll z.2.2.1&&decide (List.length z.2.2.1≤1000)
 && decide (z.2.2.2.2≤List.length z.2.2.1)&&decide (List.length z.2.2.2.1≤z.2.2.2.2)&&true then Option.bind (unenc encJ [AV.sl
 (List.map eL_eCap (z.2.2.2.1++List.map (fun(s:ByteArray)=>(F.rdLo s).fst) (List.drop z.2.2.2.2 z.2.2.1))),AV.sl (List.map eI z.2.1)]) fun
 (z_3:List (List Cap)×List Int)=>bif F.smLL z_3.1 then bif (F.joinL z_3.1 z_3.2).snd==0 then Option.bind (unenc encSmc [AV.sl (List.map eCap (F.joinL
 z_3.1 z_3.2).fst),AV.sl (List.map eCap z.1)]) fun z=>bif F.sameCL z.1 z.2 then q else some ((vB false),[]) else some ((vB false),[])
 else none else none else none else none else none) (↑(List.length (List.map eStr (F.subs z.1 z.2.1 z.2.2).fst)):Int)) (Option.bind (unenc encAlv []) fun(z :
 Unit)=>some ((vB true),[])):=(runFR_val).symm.trans (by kernel_rfl)

def encLTs1 (l:List Cap) (g:List Seg) (sc:Int):List AV:=[.sl (l.map eCap), .sl (g.map eSeg),vI sc]

def encLTs (a:(List Cap)×(List Seg)×Int):List AV:=encLTs1 a.1 a.2.1 a.2.2

theorem encLTs_inj (a a':(List Cap)×(List Seg)×Int) (h:encLTs a=encLTs a'):a=a':=by
 simp only[encLTs,encLTs1]at h
 try simp[eCaps_inj,eSegs_inj]at h
 grind

def resLTs1 (l:List Cap) (g:List Seg) (sc:Int):AV×Heap:=(vB true,[])

def preLTs1 (l:List Cap) (g:List Seg) (sc:Int):Bool:=F.smC l&&decide (g.length≤1048576)

noncomputable def oLTs:Orc:=orc 5 true encLTs (fun a=>preLTs1 a.1 a.2.1 a.2.2) fun a=>resLTs1 a.1 a.2.1 a.2.2

theorem okLTs:OrcOK Tryz.prog noG oLTs:=by
 refine mk_ok Tryz.f5 (keep:=false) (by kernel_rfl) (by kernel_rfl) enLTs_ok mixed (one_loop (x0:=loopN Tryz.f5 0) (by kernel_rfl) (lpo_ok ?_)) (by first | exact fun _ _=>⟨rfl,rfl⟩ | (intro h;cases h)) ?_
 ·rintro⟨l,bs,ts,acc,k⟩ hp
  exact lpLp_ok l bs ts acc k hp
 rintro⟨l,g,sc⟩ hpre hok
 show(runF enLTs false _ (encLTs1 _ _ _)).val=some (resLTs1 _ _ _)
 unfold encLTs1 resLTs1
 rw[evLTs]
 simp only[preLTs1,Bool.and_eq_true,decide_eq_true_eq]at hpre
 obtain⟨hsm,hlen⟩:=hpre
 simp only
 simp only[unSb,unAlv,unBv,unLap,unJ,unSmc,unstLp0,Option.bind_some,List.length_map,cond_true,Bool.and_true,Bool.true_and,hsm,decide_eq_true hlen]
 simp only[List.nil_append,List.drop_zero,List.length_nil,Nat.le_refl,Nat.zero_le,decide_true,Bool.and_true]
 by_cases hf:(F.subs l g sc).2=0
 case neg=>
  rw[bne1 hf,F.subs_no hf]
  rfl
 obtain⟨q1,q2,q3,q4,q5,q6⟩:=F.subs_ok hf
 obtain⟨-,ht⟩:=Jn.bnds_spec q4
 obtain⟨b1,b2⟩:=F.bnds_ok q4
 have hcl:=F.chk_len q1
 have hV:=F.bdV_same q2 g q3 ht
 have hsl:=Jn.split_len (l:=l) (bs:=F.bdL sc g) (by intro e;rw[e]at b1;simp at b1)
 have hss:=Jn.split_sm hsm (F.bdL sc g)
 obtain⟨t1,t2⟩:=F.rd_txs q5
 have hln:decide (((F.splitB l (F.bdL sc g)).map F.longS).length≤1000)=true:=decide_eq_true (by rw[List.length_map];omega)
 rw[bne0 hf,q6,hV,q3,t1,t2,hln,hss,decide_eq_true (⟨by omega,by omega,by omega⟩:l.length≤100000∧1≤(F.bdL sc g).length∧(F.bdL sc g).length≤100000)]
 simp only[cond_false,cond_true,Bool.not_false,Bool.and_self]
 cases hA:F.apR ((F.bdL sc g).getD 0 0) ((F.bdL sc g).getD ((F.bdL sc g).length - 1) 0) [] l
 ·rfl
 ·rw[Jn.together q1 q4 hA]
  simp only[Bool.not_true,cond_false,cond_true,beq_self_eq_true,F.sameCL_refl]

end M

end Go.Proofs.YtbeobbjiogbdlaaGreatDoor

namespace Go.Proofs.YtbeobbjiogbdlaaGreatDoor.M
open Go.ChangeShapes Go.WideShapes Go.ChangeAt Go.RowKit Go.Deep
set_option linter.unusedVariables false

theorem own:ownKnob Tryz.prog.godebug=none:=by kernel_rfl

theorem laidOut:laidOutB Tryz.prog=true:=by kernel_rfl

theorem op_int:OpnU Tryz.prog 3 (cI) (fun _=>True):=(opn_int Tryz.underlying3).small

theorem cells_int:Tryz.prog.cellsOf 3=1:=by kernel_rfl

theorem op_string:OpnU Tryz.prog 9 (cS) (smS):=opnU_str Tryz.underlying9

theorem cells_string:Tryz.prog.cellsOf 9=1:=by kernel_rfl

theorem bytes_string:Tryz.prog.bytesOf 9=16:=by kernel_rfl

theorem cells_sstring:Tryz.prog.cellsOf 54=1:=by kernel_rfl

theorem op_sstring:OpnU Tryz.prog 54 (cSl (cS)) (KU (smS)):=opnU_slice Tryz.underlying54 cells_string bytes_string (by decide) (fun _=>rfl) op_string

theorem op_bool:OpnU Tryz.prog 4 (cB) (fun _=>True):=(opn_bool Tryz.underlying4).small

theorem cells_bool:Tryz.prog.cellsOf 4=1:=by kernel_rfl

def kCap (x:Cap):Prop:=(KU (smS)) x.lines

theorem cells_Cap:Tryz.prog.cellsOf 122=6:=by kernel_rfl

set_option maxRecDepth 100000 in
theorem op_Cap:OpnU Tryz.prog 122 eCap kCap:=by
 intro H enc w fuel cs d p h hw hbk
 obtain⟨hl,hf⟩:=opnU_fields Tryz.underlying122 h hw hbk
 obtain⟨x0,r0,k0⟩ : ∃x,RL (R0 w (Inn w)) ((cI) x) ((cs.drop 0).take (Tryz.prog.cellsOf 3))∧(fun _=>True) x:=hf 0 _ rfl op_int
 rw[cells_int]at r0
 obtain⟨x1,r1,k1⟩ : ∃x,RL (R0 w (Inn w)) ((cI) x) ((cs.drop 1).take (Tryz.prog.cellsOf 3))∧(fun _=>True) x:=hf 1 _ rfl op_int
 rw[cells_int]at r1
 obtain⟨x2,r2,k2⟩ : ∃x,RL (R0 w (Inn w)) ((cSl (cS)) x) ((cs.drop 2).take (Tryz.prog.cellsOf 54))∧(KU (smS)) x:=hf 2 _ rfl op_sstring
 rw[cells_sstring]at r2
 obtain⟨x3,r3,k3⟩ : ∃x,RL (R0 w (Inn w)) ((cI) x) ((cs.drop 3).take (Tryz.prog.cellsOf 3))∧(fun _=>True) x:=hf 3 _ rfl op_int
 rw[cells_int]at r3
 obtain⟨x4,r4,k4⟩ : ∃x,RL (R0 w (Inn w)) ((cB) x) ((cs.drop 4).take (Tryz.prog.cellsOf 4))∧(fun _=>True) x:=hf 4 _ rfl op_bool
 rw[cells_bool]at r4
 obtain⟨x5,r5,k5⟩ : ∃x,RL (R0 w (Inn w)) ((cB) x) ((cs.drop 5).take (Tryz.prog.cellsOf 4))∧(fun _=>True) x:=hf 5 _ rfl op_bool
 rw[cells_bool]at r5
 rw[cells_Cap]at hl
 match cs,hl with
 | [c0,c1,c2,c3,c4,c5],_=>
  refine⟨⟨x0,x1,x2,x3,x4,x5⟩,?_,k2⟩
  show RL (R0 w (Inn w)) (((cI) x0)++(((cI) x1)++(((cSl (cS)) x2)++(((cI) x3)++(((cB) x4)++(((cB) x5))))))) ([c0]++([c1]++([c2]++([c3]++([c4]++([c5]))))))
  exact RL.append r0 (RL.append r1 (RL.append r2 (RL.append r3 (RL.append r4 (r5)))))

def kSeg (x:Seg):Prop:=True

theorem cells_Seg:Tryz.prog.cellsOf 70=7:=by kernel_rfl

set_option maxRecDepth 100000 in
theorem op_Seg:OpnU Tryz.prog 70 eSeg kSeg:=by
 intro H enc w fuel cs d p h hw hbk
 obtain⟨hl,hf⟩:=opnU_fields Tryz.underlying70 h hw hbk
 obtain⟨x0,r0,k0⟩ : ∃x,RL (R0 w (Inn w)) ((cI) x) ((cs.drop 0).take (Tryz.prog.cellsOf 3))∧(fun _=>True) x:=hf 0 _ rfl op_int
 rw[cells_int]at r0
 obtain⟨x1,r1,k1⟩ : ∃x,RL (R0 w (Inn w)) ((cI) x) ((cs.drop 1).take (Tryz.prog.cellsOf 3))∧(fun _=>True) x:=hf 1 _ rfl op_int
 rw[cells_int]at r1
 obtain⟨x2,r2,k2⟩ : ∃x,RL (R0 w (Inn w)) ((cI) x) ((cs.drop 2).take (Tryz.prog.cellsOf 3))∧(fun _=>True) x:=hf 2 _ rfl op_int
 rw[cells_int]at r2
 obtain⟨x3,r3,k3⟩ : ∃x,RL (R0 w (Inn w)) ((cI) x) ((cs.drop 3).take (Tryz.prog.cellsOf 3))∧(fun _=>True) x:=hf 3 _ rfl op_int
 rw[cells_int]at r3
 obtain⟨x4,r4,k4⟩ : ∃x,RL (R0 w (Inn w)) ((cI) x) ((cs.drop 4).take (Tryz.prog.cellsOf 3))∧(fun _=>True) x:=hf 4 _ rfl op_int
 rw[cells_int]at r4
 obtain⟨x5,r5,k5⟩ : ∃x,RL (R0 w (Inn w)) ((cI) x) ((cs.drop 5).take (Tryz.prog.cellsOf 3))∧(fun _=>True) x:=hf 5 _ rfl op_int
 rw[cells_int]at r5
 obtain⟨x6,r6,k6⟩ : ∃x,RL (R0 w (Inn w)) ((cI) x) ((cs.drop 6).take (Tryz.prog.cellsOf 3))∧(fun _=>True) x:=hf 6 _ rfl op_int
 rw[cells_int]at r6
 rw[cells_Seg]at hl
 match cs,hl with
 | [c0,c1,c2,c3,c4,c5,c6],_=>
  refine⟨⟨x0,x1,x2,x3,x4,x5,x6⟩,?_,trivial⟩
  show RL (R0 w (Inn w)) (((cI) x0)++(((cI) x1)++(((cI) x2)++(((cI) x3)++(((cI) x4)++(((cI) x5)++(((cI) x6)))))))) ([c0]++([c1]++([c2]++([c3]++([c4]++([c5]++([c6])))))))
  exact RL.append r0 (RL.append r1 (RL.append r2 (RL.append r3 (RL.append r4 (RL.append r5 (r6))))))

theorem bytes_Cap:Tryz.prog.bytesOf 122=56:=by kernel_rfl

theorem op_sCap:OpnU Tryz.prog 53 (cSl (eCap)) (KU (kCap)):=opnU_slice Tryz.underlying53 cells_Cap bytes_Cap (by decide) (fun _=>rfl) op_Cap

theorem bytes_Seg:Tryz.prog.bytesOf 70=56:=by kernel_rfl

theorem op_sSeg:OpnU Tryz.prog 25 (cSl (eSeg)) (KU (kSeg)):=opnU_slice Tryz.underlying25 cells_Seg bytes_Seg (by decide) (fun _=>rfl) op_Seg

end Go.Proofs.YtbeobbjiogbdlaaGreatDoor.M

namespace Go.Proofs.YtbeobbjiogbdlaaGreatDoor.M
open Go.ChangeShapes Go.WideShapes Go.ChangeAt Go.RowKit Go.Deep
set_option linter.unusedVariables false

theorem u8extra:U8Extra Tryz.prog Tryz.lays260_ren:=⟨by kernel_rfl,by kernel_rfl,by kernel_rfl,by kernel_rfl,by kernel_rfl,by kernel_rfl,by kernel_rfl⟩

theorem noG_at {W:World} {laid:List (String×DataW Unit)} (hsh:W.ShapedOpen Tryz.prog) (hL:laidMetH Tryz.prog laid W)
  (hp:(laid.all fun x=>x.2.handleName?.isNone)=true:=by kernel_rfl)
  (m1 : ∃ i : Nat, laid[i]? = some ("unicode/utf8.acceptRanges", Rows.laid_unicode_utf8_acceptRanges) := by first | exact ⟨0, rfl⟩ | exact ⟨1, rfl⟩ | exact ⟨2, rfl⟩ | exact ⟨3, rfl⟩ | exact ⟨4, rfl⟩ | exact ⟨5, rfl⟩ | exact ⟨6, rfl⟩ | exact ⟨7, rfl⟩)
  (m2 : ∃ i : Nat, laid[i]? = some ("unicode/utf8.first", Rows.laid_unicode_utf8_first) := by first | exact ⟨0, rfl⟩ | exact ⟨1, rfl⟩ | exact ⟨2, rfl⟩ | exact ⟨3, rfl⟩ | exact ⟨4, rfl⟩ | exact ⟨5, rfl⟩ | exact ⟨6, rfl⟩ | exact ⟨7, rfl⟩)
  (m3 : ∃ i : Nat, laid[i]? = some ("internal/strconv.uint64pow10", Rows.laid_internal_strconv_uint64pow10) := by first | exact ⟨0, rfl⟩ | exact ⟨1, rfl⟩ | exact ⟨2, rfl⟩ | exact ⟨3, rfl⟩ | exact ⟨4, rfl⟩ | exact ⟨5, rfl⟩ | exact ⟨6, rfl⟩ | exact ⟨7, rfl⟩) :
  ∀g r,noG g=some r→GlobAt W (Inn W) g r:=by
 obtain⟨_,m1⟩:=m1
 obtain⟨_,m2⟩:=m2
 obtain⟨_,m3⟩:=m3
 rw[MakeChecks.laidMetH_plain _ _ _ hp]at hL
 have hr : Lib.VarReads Tryz.prog W "internal/strconv.uint64pow10" Rows.laid_internal_strconv_uint64pow10 := Lib.laidMet.reads hL (List.mem_of_getElem? m3)
 have h3 : Lib.VarReads Tryz.prog W "unicode/utf8.first" Lib.firstData := by
  have := Lib.laidMet.reads (n := "unicode/utf8.first") (d := Rows.laid_unicode_utf8_first) hL (List.mem_of_getElem? m2)
  have hd:(Rows.laid_unicode_utf8_first:DataW Unit)=Lib.firstData:=by kernel_rfl
  rw[hd]at this;exact this
 have h4 : Lib.VarReads Tryz.prog W "unicode/utf8.acceptRanges" Lib.acceptData := by
  have := Lib.laidMet.reads (n := "unicode/utf8.acceptRanges") (d := Rows.laid_unicode_utf8_acceptRanges) hL (List.mem_of_getElem? m1)
  have hd:(Rows.laid_unicode_utf8_acceptRanges:DataW Unit)=Lib.acceptData:=by kernel_rfl
  rw[hd]at this;exact this
 obtain⟨u1,u2⟩:=utf8Tabs_of_reads Tryz.lays260 u8extra h3 h4
 have cellAt : ∀ {g:Nat} {cs:Array Value} {ty:TypeId} {o:Nat×Nat} (_:W.heap[g]? = some (.cells cs ty o)) (j:Nat),W.cell? ⟨g,j,none⟩=cs[j]?:=fun h j=>by simp[World.cell?,h]
 intro g r hg
 unfold noG at hg
 split at hg
 ·rename_i hb
  have e:g=3:=beq_true.1 hb
  subst e
  cases hg
  obtain⟨g',t,cs,fuel,p,q1,q2,q3,q4⟩:=h3
  have hn : Tryz.prog.globalNamed "unicode/utf8.first" = some 3 := by kernel_rfl
  obtain⟨ty,o,hh⟩:=var_cells hn q3
  exact glob_mk hh fun c hc=>by rw[←cellAt hh c];exact u1 c hc
 ·split at hg
  ·rename_i hb
   have e:g=4:=beq_true.1 hb
   subst e
   cases hg
   obtain⟨g',t,cs,fuel,p,q1,q2,q3,q4⟩:=h4
   have hn : Tryz.prog.globalNamed "unicode/utf8.acceptRanges" = some 4 := by kernel_rfl
   obtain⟨ty,o,hh⟩:=var_cells hn q3
   exact glob_mk hh fun c hc=>by rw[←cellAt hh _,←cellAt hh _];exact u2 c hc
  ·split at hg
   ·rename_i hb
    have e:g=5:=beq_true.1 hb
    subst e
    cases hg
    have hz:((begin Tryz.prog (fun _ _=>0) default).world.heap[5]?).bind Obj.row? = some (#[.int .i64 0],3):=by kernel_rfl
    obtain⟨cs,hh,hs,hr⟩:=hsh.1 5 _ _ (of_decide_eq_true (by kernel_rfl)) hz
    obtain⟨m,hm⟩:=cell_of_shapedOpen_int hsh (g:=5) (of_decide_eq_true (by kernel_rfl)) hz rfl (by kernel_rfl) (by kernel_rfl) Tryz.underlying3
    exact glob_mk hh ⟨m,by rw[←cellAt hh 0];exact hm⟩
   ·split at hg
    ·rename_i hb
     have e:g=2:=beq_true.1 hb
     subst e
     cases hg
     obtain⟨g',t,cs,fuel,p,h1,h2,h3,h4⟩:=hr
     have hn : Tryz.prog.globalNamed "internal/strconv.uint64pow10" = some 2 := by kernel_rfl
     obtain rfl:=Option.some.inj (hn.symm.trans h1)
     obtain rfl:=Option.some.inj ((show(Tryz.prog.globals[2]?).map (·.type)=some 272 by kernel_rfl).symm.trans h2)
     have hd:(Rows.laid_internal_strconv_uint64pow10:DataW Unit)=Lib.tabData .u64 Lib.pow10Tab:=by kernel_rfl
     rw[hd]at h4
     have hcs:=Lib.cells_of_tab Tryz.underlying272 Tryz.underlying138 (by kernel_rfl) (by kernel_rfl) h4
     obtain⟨ty,o,hh⟩:=var_cells hn h3
     exact glob_mk hh (by rw[←hcs])
    ·cases hg

end Go.Proofs.YtbeobbjiogbdlaaGreatDoor.M

namespace Go.Proofs.YtbeobbjiogbdlaaGreatDoor
open Go.ChangeShapes Go.WideShapes Go.ChangeAt Go.RowKit Go.Deep M
open Go.ChangeMaps (open_string shut_string)
set_option linter.unusedVariables false

set_option maxRecDepth 100000 in
theorem topSubtitlesComeTogether_contract (H:Type) (enc:TypeId×Value→H) (W:World) (base:Nat) (args:Array Value) (ds gs:List (DataW H)) (before:List MemPlace)
  (hval0 : ∀(j:Nat) t v,Tryz.f5.params[j]? = some t→args[j]? = some v→Value.okWide Tryz.prog W .any base t v)
  (hW:DataW.Whole enc Tryz.prog Tryz.f5.params.toList Rows.topSubtitlesComeTogetherSpec.vars false W args.toList ds gs before) (hbulk:Rows.uptoBulkAll (ds++gs)≤1048576)
  (hsz0:(DataW.weightsEach Tryz.prog (Tryz.f5.params.toList++Rows.topSubtitlesComeTogetherSpec.plain.varTypes Tryz.prog) (ds++gs)).all (· ≤ reachBytes)=true)
  (hL:laidMetH Tryz.prog Rows.topSubtitlesComeTogetherUptoRow.laid W) (hsh:W.ShapedOpen Tryz.prog) :
  Calls Tryz.prog 5 args W fun e W'=>∃v,e = .returned v∧Rows.topSubtitlesComeTogetherSpec.post enc Tryz.prog Tryz.f5 false true false false W args v W':=by
 have hval : ∀(j:Nat) t v,Tryz.f5.params[j]? = some t→args[j]? = some v→Value.okWide Tryz.prog W .any base t v:=hval0
 have hW':=hW
 obtain⟨p,q,hA0,hV,rfl,hfz,hnd⟩:=hW
 have hA:DataW.TrodAll enc Tryz.prog W 0 (fun _=>true) true Tryz.f5.params.toList args.toList ds p:=hA0
 have hsz : ∀n∈DataW.weightsEach Tryz.prog (Tryz.f5.params.toList++Rows.topSubtitlesComeTogetherSpec.plain.varTypes Tryz.prog) (ds++gs),n≤reachBytes:=by
  intro n hn;have:=List.all_eq_true.1 hsz0 n hn;simpa using this
 rw[Tryz.params5]at hA hval hsz
 obtain⟨v0,vs0,d0,ds0,p0,q0,hargs,rfl,rfl,h0,r0⟩:=trodAll_cons hA
 obtain⟨v1,vs1,d1,ds1,p1,q1,rfl,rfl,rfl,h1,r1⟩:=trodAll_cons r0
 obtain⟨v2,vs2,d2,ds2,p2,q2,rfl,rfl,rfl,h2,r2⟩:=trodAll_cons r1
 obtain⟨rfl,rfl,rfl⟩:=trodAll_nil r2
 obtain rfl:args = #[v0,v1,v2]:=by cases args;simp_all
 obtain⟨rfl,rfl⟩:=trodVars_none hV
 have bk0:Rows.uptoBulk d0≤1048576:=Nat.le_trans (bulks.part_le (by simp)) hbulk
 obtain⟨A0,len0,cap0,rfl⟩:=okWide_slice Tryz.underlying53 (hval 0 53 v0 rfl rfl)
 have b0:=h0
 have lt0 : ∀x∈p0,x.block<W.heap.size:=by obtain⟨m,hm⟩:=b0;exact DataW.trod_lt m _ _ _ hm
 obtain⟨fuel0,hf0⟩:=h0
 obtain⟨x0,e0,k0⟩:=op_sCap H enc W fuel0 (Value.cells (.slice A0 len0 cap0)).toList _ _ hf0 (fun n hn=>hsz n (weights_each (j:=0) rfl rfl n hn)) bk0
 have bk1:Rows.uptoBulk d1≤1048576:=Nat.le_trans (bulks.part_le (by simp)) hbulk
 obtain⟨A1,len1,cap1,rfl⟩:=okWide_slice Tryz.underlying25 (hval 1 25 v1 rfl rfl)
 have b1:=h1
 have lt1 : ∀x∈p1,x.block<W.heap.size:=by obtain⟨m,hm⟩:=b1;exact DataW.trod_lt m _ _ _ hm
 obtain⟨fuel1,hf1⟩:=h1
 obtain⟨x1,e1,k1⟩:=op_sSeg H enc W fuel1 (Value.cells (.slice A1 len1 cap1)).toList _ _ hf1 (fun n hn=>hsz n (weights_each (j:=1) rfl rfl n hn)) bk1
 have bk2:Rows.uptoBulk d2≤1048576:=Nat.le_trans (bulks.part_le (by simp)) hbulk
 obtain⟨x2,rfl,rfl,rfl,w2⟩:=open_int Tryz.underlying3 (hval 2 3 v2 rfl rfl) h2
 clear hA0 hval0
 have hpre:preLTs1 x0 x1 x2=true:=by exact(by have h1:F.smC x0=true:=List.all_eq_true.2 fun c hc=>List.all_eq_true.2 fun s hs=>(decide_eq_true (Nat.le_trans ((k0.2 c hc).2 s hs) (by decide)):F.small s=true);have h2:=k1.1;show(F.smC x0&&decide (x1.length≤1048576))=true;rw[h1,decide_eq_true h2];rfl)
 have hspec:=orc_at okLTs encLTs_inj (x0,x1,x2) hpre
 refine(law_calls (W:=W) (cargs:=[.slice A0 len0 cap0, .slice A1 len1 cap1, .int .i64 x2]) hspec (noG_at hsh hL) ⟨rv_sl_of e0,rv_sl_of e1,rv_int_of w2,trivial⟩).mono fun e W1 ⟨he,bel⟩=>?_
 subst he
 exact⟨_,rfl,_,_,_,[],_,[],hW',trodAll_mk1 (shut_bool Tryz.underlying4 _),(trodAll_cons_mk (Below.trod laidOut (by kernel_rfl) (of_decide_eq_true (by kernel_rfl)) b0 bel lt0) (trodAll_cons_mk (Below.trod laidOut (by kernel_rfl) (of_decide_eq_true (by kernel_rfl)) b1 bel lt1) (trodAll_cons_mk (shut_int Tryz.underlying3 w2) trodAll_mk0))),rfl,bel.frame _,fun h=>by cases h⟩

theorem topSubtitlesComeTogether_reads (os:Os) {H:Type} (enc:TypeId×Value→H) : ∃places,DataW.whole enc Tryz.prog ((World.laidAll Tryz.prog os Rows.topSubtitlesComeTogetherUptoRow.laid).forCall (fun _ _=>0) ⟨#[], #[.slice none 0 0, .slice none 0 0, .int .i64 0],[]⟩).memory Tryz.f5.params.toList Rows.topSubtitlesComeTogetherSpec.vars false (#[.slice none 0 0, .slice none 0 0, .int .i64 0]:Array Value).toList 8=some ([.nil, .nil, .lit (.int .i64 0)],[],places):=
 ⟨[],by kernel_rfl⟩

theorem topSubtitlesComeTogether_met (os:Os):laidMet Tryz.prog Rows.topSubtitlesComeTogetherUptoRow.laid ((World.laidAll Tryz.prog os Rows.topSubtitlesComeTogetherUptoRow.laid).forCall (fun _ _=>0) ⟨#[], #[.slice none 0 0, .slice none 0 0, .int .i64 0],[]⟩).memory:=laidMet_laidAll _ (by kernel_rfl) (by kernel_rfl)

set_option maxRecDepth 100000 in
theorem topSubtitlesComeTogether_lifted (os:Os) (started:os.Started) (H:Type) (enc:TypeId×Value→H) (F:Stop.Interp) :
  ReturnsInHanded {} Tryz.checked os 5 .any ((Rows.OpenSpec.upto Rows.topSubtitlesComeTogetherSpec).preRow enc Tryz.prog Tryz.f5 Rows.topSubtitlesComeTogetherUptoRow.domain false Rows.topSubtitlesComeTogetherUptoRow.laid) (((Rows.OpenSpec.upto Rows.topSubtitlesComeTogetherSpec).at F).post enc Tryz.prog Tryz.f5 false true false false):=by
 obtain⟨places,hx⟩:=topSubtitlesComeTogether_reads os enc
 refine returnsInHanded_of_row (C:=Tryz.checked) (s:=Rows.OpenSpec.upto Rows.topSubtitlesComeTogetherSpec) own started (by kernel_rfl) Tryz.func5
  (witness_row_at (enc:=enc) (C:=Tryz.checked) false (World.laidAll Tryz.prog os Rows.topSubtitlesComeTogetherUptoRow.laid) #[.slice none 0 0, .slice none 0 0, .int .i64 0] (World.laidAll_os _ _ _) (by kernel_rfl) (by kernel_rfl) (by kernel_rfl)
   (OpenSpec.preRow_of_cond 8 hx (by kernel_rfl) (fun k hk=>by cases hk;kernel_rfl) (by kernel_rfl) (topSubtitlesComeTogether_met os))) ?_
 intro W base args ds gs before hval hW _ hcond hsz hL hsh _
 exact topSubtitlesComeTogether_contract H enc W base args ds gs before hval hW (bulks.bound (hcond _ rfl)) hsz hL hsh

theorem topSubtitlesComeTogether_upto:Rows.TopSubtitlesComeTogetherUptoSaid:=
 OpenClaim.holds_of_cond 5 Tryz.f5 rfl rfl rfl rfl rfl rfl rfl ⟨rfl,rfl,rfl,rfl,rfl⟩ rfl rfl rfl rfl rfl (by kernel_rfl) Tryz.func5 (by kernel_rfl)
  (of_decide_eq_true (by kernel_rfl)) (by unfold Func.isWrapper;first | (rw[if_pos (by decide +kernel)];kernel_rfl) | (rw[if_neg (by decide +kernel)];exact⟨rfl,rfl⟩))
  (fun os started H enc _ F=>by rw[OpenClaim.pre_eq_preRow];exact topSubtitlesComeTogether_lifted os started H enc F)
#print axioms topSubtitlesComeTogether_upto

theorem topSubtitlesComeTogether_plain (f : FuncId) (fn : Func) (hf : Tryz.pinned.checked.prog.funcNamed "headend/headendtop.TopSubtitlesComeTogether" = some f) (hfn : Tryz.pinned.checked.prog.funcs[f]? = some fn) :
  true=Tryz.pinned.checked.prog.looks [] ∧ ∀(j:Nat) t,fn.params[j]? = some t→Tryz.pinned.checked.prog.wantsStandIn t=false:=by
 obtain rfl : f = 5 := Option.some.inj ((show Tryz.prog.funcNamed "headend/headendtop.TopSubtitlesComeTogether" = some 5 by kernel_rfl).symm.trans hf) |>.symm
 obtain rfl:fn=Tryz.f5:=(Option.some.inj (Tryz.func5.symm.trans hfn)).symm
 refine⟨by kernel_rfl,fun j t ht=>?_⟩
 rw[Tryz.params5]at ht
 have hm:t∈[53,25,3]:=by simpa using Array.mem_of_getElem? ht
 have hall:([53,25,3].all fun u=> !Tryz.prog.wantsStandIn u)=true:=by kernel_rfl
 exact(show Tryz.prog.wantsStandIn t=false by simpa using List.all_eq_true.1 hall t hm)

theorem topSubtitlesComeTogether_card : Rows.TopSubtitlesComeTogetherUptoCardSaid :=
 Claim7.holds_tied_plain_at .later [] _ _ _ _ topSubtitlesComeTogether_upto (fun _ h=>by cases h) (by kernel_rfl) (fun _ h=>by cases h) topSubtitlesComeTogetherUpto_row_tie rfl ⟨rfl,rfl⟩ (by kernel_rfl) rfl topSubtitlesComeTogether_plain (by kernel_rfl)
#print axioms topSubtitlesComeTogether_card
end Go.Proofs.YtbeobbjiogbdlaaGreatDoor
