/- What is proved here: Break of the program on plain data, and the one simple thing that the laws ask (no statement of the seat). -/
import Derived.Lib.AtoiErrMem
import Derived.Lib.Atoi
import Derived.Lib.Replace
import Derived.Lib.AppendStr
import Derived.Shelf.Strings.Builder1
import Derived.Lib.AppendZeros
import Derived.Lib.Repeat
import Derived.Lib.ReplaceLaws
import Derived.Test.YtbeobbjiogbdlaaGreatDoorE2X3

namespace Go.Proofs.YtbeobbjiogbdlaaGreatDoor
open Go Go.RowKit
set_option linter.unusedVariables false
set_option linter.unusedSimpArgs false
set_option maxHeartbeats 1000000

namespace M

def stRdT (s:ByteArray) (f:ByteArray) (n:Int) (k:Nat):St:=⟨[(23,vI k),(22,vI f.size),(8,vI n),(7,vS f),(0,vS s)],[]⟩

def stRdT1 (a:ByteArray×ByteArray×Int×Nat):St:=stRdT a.1 a.2.1 a.2.2.1 a.2.2.2

theorem stRdT_inj (a a':ByteArray×ByteArray×Int×Nat) (h:stRdT1 a=stRdT1 a'):a=a':=by
 simp only[stRdT1,stRdT]at h
 try simp[]at h
 grind

theorem unstRdT0 (s:ByteArray) (f:ByteArray)  : unenc stRdT1 (St.mk [(23,(vI (0:Int))),(22,(vI (↑(ByteArray.size f):Int))),(8,(vI (0:Int))),(7,(vS f)),(0,(vS s))] [])=some (s,f,0,0):=unenc_of stRdT_inj (s,f,0,0) rfl

def outRdT (s:ByteArray) (f:ByteArray) (n:Int) (k:Nat):T (Ex×St):= .ifB (F.found (F.tmL (((F.bs f).zip (F.bs s)).drop k) n)) (.ret (.exit 0,⟨[(8,vI (F.got (F.tmL (((F.bs f).zip (F.bs s)).drop k) n) 0)),(7,vS f),(0,vS s)],[]⟩)) (.ret (.ret,⟨[(6,vB false),(5,vS ⟨⟨[]⟩⟩),(4,vI 0)],[]⟩))

noncomputable def prlRdT (s:ByteArray) (f:ByteArray) (n:Int) (k:Nat):Bool:=decide (f.size=12)&&decide (12≤s.size)&&decide (k≤12)&&decide (0≤n)&&decide (n+1≤10 ^ k)

noncomputable def lpRdT:Nat×(St→T (Ex×St)):=(6,lpo [23,22,8,7,0] [] stRdT1 (fun a=>prlRdT a.1 a.2.1 a.2.2.1 a.2.2.2) fun a=>outRdT a.1 a.2.1 a.2.2.1 a.2.2.2)

noncomputable def enRdT:Env:=envH ty noG lks [oIsD] [] [] [lpRdT]

theorem enRdT_ok:EnvOK Tryz.prog enRdT:=by
 refine envH_ok lks_ok ty_ok ?_ ?_
 ·simp only[List.forall_mem_cons]
  exact⟨okIsD,by simp⟩
 ·simp

theorem evRdTL (s:ByteArray) (f:ByteArray) (n:Int) (k:Nat):((exec enRdT (loopN Tryz.f174 0) (stRdT s f n k)).bind (lessX ([23,22,8,7,0],[]) ([8,7,0],[]) ([6,5,4],[]))).val =
 bif decide ((↑k:Int)<(↑(ByteArray.size f):Int)) then Option.bind f[k]? fun z=>bif (↑(UInt8.toNat z):Int) != 48 then Option.bind s[k]? fun(z :
 UInt8)=>Option.bind f[k]? fun z_1=>bif (↑(UInt8.toNat z):Int) != (↑(UInt8.toNat z_1):Int) then some (Ex.ret,St.mk [(6,(vB false)),(5,(vS
 (ByteArray.mk (Array.mk [])))),(4,(vI 0))] []) else some (Ex.normal,St.mk [(23,(vI (IntKind.i64.wrap ((↑k:Int)+1)))),(22,(vI
 (↑(ByteArray.size f):Int))),(8,(vI n)),(7,(vS f)),(0,(vS s))] []) else Option.bind s[k]? fun z=>Option.bind (unenc encIsD [(vU (↑(UInt8.toNat z) :
 Int))]) fun z=>bif !F.digit z then some (Ex.ret,St.mk [(6,(vB false)),(5,(vS ⟨⟨[]⟩⟩)),(4,(vI 0))] []) else Option.bind s[k]?
 fun z=>some (Ex.normal,St.mk [(23,(vI (IntKind.i64.wrap ((↑k:Int)+1)))),(22,(vI (↑(ByteArray.size f):Int))),(8,(vI (IntKind.wrap
 IntKind.i64 (IntKind.i64.wrap ((10:Int)*n)+IntKind.i64.wrap (IntKind.wrap IntKind.u8 ((↑(UInt8.toNat z):Int) - (48:Int))))))),(7,(vS f)),(0,
 (vS s))] []) else some (Ex.exit (0:Nat),St.mk [(8,(vI n)),(7,(vS f)),(0,(vS s))] []):=(execR_bind _ _ _).symm.trans (by kernel_rfl)

theorem lpRdT_ok (s:ByteArray) (f:ByteArray) (n:Int) (k:Nat) (hp:prlRdT s f n k=true) : ∀ex s',(outRdT s f n k).val=some (ex,s')→LoopOK enRdT (loopN Tryz.f174 0) (stRdT s f n k) ex s':=by
 simp only[prlRdT,Bool.and_eq_true,decide_eq_true_eq]at hp
 obtain⟨⟨⟨⟨h1,h2⟩,h3⟩,h4⟩,h5⟩:=hp
 refine loop_gen (st:=fun a:Int×Nat=>stRdT s f a.1 a.2) (out:=fun a=>outRdT s f a.1 a.2) (I:=fun a=>a.2≤12∧0≤a.1∧a.1+1≤10 ^ a.2) (n:=([23,22,8,7,0],[])) (e:=([8,7,0],[])) (r:=([6,5,4],[])) (fun a=>12 - a.2) ?_ (n,k) ⟨h3,h4,h5⟩
 rintro⟨n,k⟩ ⟨i1,i2,i3⟩
 simp only at i1 i2 i3
 have hzl:((F.bs f).zip (F.bs s)).length=12:=by rw[List.length_zip,F.bs_len,F.bs_len];omega
 by_cases hk:k<12
 ·obtain⟨x,y,hxy⟩ : ∃x y,((F.bs f).zip (F.bs s))[k]? = some (x,y):=⟨_,_,List.getElem?_eq_getElem (by omega)⟩
  have hd:=drop_q hxy
  have hx:(F.bs f)[k]? = some x:=(List.getElem?_zip_eq_some.1 hxy).1
  have hy:(F.bs s)[k]? = some y:=(List.getElem?_zip_eq_some.1 hxy).2
  have hpw:(10:Int) ^ (k+1)=10*10 ^ k:=by rw[Int.pow_succ,Int.mul_comm]
  have hle:(10:Int) ^ k≤1000000000000:=by
   have:(10:Int) ^ k≤10 ^ 12:=by
    have:k≤12:=by omega
    exact_mod_cast Nat.pow_le_pow_right (by omega) this
   exact this
  have hkf:k<f.size:=by omega
  have hnx:IntKind.i64.wrap ((k:Int)+1)=((k+1:Nat):Int):=next_at hk (by omega)
  cases hc:((x.toNat:Int) != 48)
  ·cases hg:F.digB y
   ·left
    refine⟨(.ret,⟨[(6,vB false),(5,vS ⟨⟨[]⟩⟩),(4,vI 0)],[]⟩),?_,?_,by simp,rfl⟩
    ·rw[evRdTL]
     rw[F.bs_get f,F.bs_get s,hx,hy]
     have hg':F.digit (y.toNat:Int)=false:=hg
     simp only[unIsD,Option.bind_some,cond_true,cond_false,cast_lt hkf,hc,hg',hnx]
     rfl
    ·simp only[outRdT,hd,F.tmL,hc,hg,cond_false,F.found]
     rfl
   ·right
    have hg':F.digit (y.toNat:Int)=true:=hg
    obtain⟨g1,g2⟩:=F.digB_t hg
    refine⟨(10*n+((y.toNat:Int) - 48),k+1),?_,rfl,⟨hk,by simp only;omega,by simp only[hpw];omega⟩,by simp only;omega,?_⟩
    ·rw[evRdTL]
     rw[F.bs_get f,F.bs_get s,hx,hy]
     simp only[unIsD,Option.bind_some,cond_true,cond_false,cast_lt hkf,hc,hg',hnx]
     rw[wrapU (by omega) (by omega),wrap_id (n:=10*n) (by omega) (by omega),wrap_id (n:=(y.toNat:Int) - 48) (by omega) (by omega),wrap_id (by omega) (by omega)]
     rfl
    ·simp only[outRdT,hd,F.tmL,hc,hg,cond_true,cond_false]
  ·cases he:((y.toNat:Int) != (x.toNat:Int))
   ·right
    refine⟨(n,k+1),?_,rfl,⟨hk,i2,by simp only[hpw];omega⟩,by simp only;omega,?_⟩
    ·rw[evRdTL]
     rw[F.bs_get f,F.bs_get s,hx,hy]
     simp only[unIsD,Option.bind_some,cond_true,cond_false,cast_lt hkf,hc,he,hnx]
     rfl
    ·simp only[outRdT,hd,F.tmL,hc,he,cond_true,cond_false]
   ·left
    refine⟨(.ret,⟨[(6,vB false),(5,vS ⟨⟨[]⟩⟩),(4,vI 0)],[]⟩),?_,?_,by simp,rfl⟩
    ·rw[evRdTL]
     rw[F.bs_get f,F.bs_get s,hx,hy]
     simp only[unIsD,Option.bind_some,cond_true,cast_lt hkf,hc,he,hnx]
     done
    ·simp only[outRdT,hd,F.tmL,hc,he,cond_true,F.found]
     rfl
 ·have:k=12:=by omega
  subst this
  left
  refine⟨(.exit 0,⟨[(8,vI n),(7,vS f),(0,vS s)],[]⟩),?_,?_,by simp,rfl⟩
  ·rw[evRdTL]
   rw[h1]
   rfl
  ·have:(((F.bs f).zip (F.bs s)).drop 12)=[]:=List.drop_eq_nil_of_le (by omega)
   simp[outRdT,this,F.tmL,F.found,F.got,T.val]

theorem evRdT (s:ByteArray) (p:ByteArray):(runF enRdT false Tryz.f174 [vS s,vS p]).val =
 (fun(q:ByteArray)=>(fun(q_1:Option (AV×Heap))=>(fun(q_2:ByteArray)=>(fun(q_3:ByteArray)=>(fun(q_4:Int)=>bif Nat.ble (ByteArray.size q +
 ByteArray.size p) 9223372036854775807 then bif Nat.ble (ByteArray.size q_2+ByteArray.size (ByteArray.mk (Array.mk [(48:UInt8),(48:UInt8),(48:UInt8)])))
 (9223372036854775807:Nat) then bif decide ((↑(ByteArray.size s):Int)<q_4) then q_1 else Option.bind (unenc stRdT1 (St.mk [(23,(vI 0)),(22,(vI q_4)),(8,
 (vI 0)),(7,(vS q_3)),(0,(vS s))] [])) fun z=>(fun(q:Option Int)=>(fun(q_5:Int)=>(fun(q_6:Int)=>(fun(q_7
 : Int)=>bif decide (ByteArray.size z.2.1=(12:Nat))&&decide ((12:Nat)≤ByteArray.size z.1)&&decide (z.2.2.2≤12)&&decide ((0:Int) ≤
 z.2.2.1)&&decide (z.2.2.1+1≤10 ^ z.2.2.2)&&true then bif F.found q then bif Nat.ble (ByteArray.size z.2.1) (ByteArray.size
 z.1)&&Nat.ble (ByteArray.size z.1) (ByteArray.size z.1) then some (AV.tup [(vI (IntKind.i64.wrap (IntKind.i64.wrap (IntKind.wrap IntKind.i64
 (IntKind.i64.wrap (IntKind.i64.wrap (Int.tdiv q_5 (10000000:Int))*3600000)+IntKind.i64.wrap (q_7*60000))+IntKind.wrap
 IntKind.i64 (q_6*1000))+Int.tmod q_5 (1000:Int)))),(vS (ByteArray.extract z.1 (ByteArray.size z.2.1) (ByteArray.size z.1))),(vB (bif decide (q_7 <
 (60:Int)) then decide (q_6<60) else false))],[]) else none else q_1 else none) (Int.tmod (IntKind.i64.wrap (Int.tdiv q_5 (100000:Int))) (100 :
 Int))) (Int.tmod (IntKind.i64.wrap (Int.tdiv q_5 (1000:Int))) (100:Int))) (F.got q (0:Int))) (F.tmL (List.drop z.2.2.2 (List.zip (F.bs z.2.1) (F.bs
 z.1))) z.2.2.1) else none else none) (↑(ByteArray.size q_3):Int)) (q_2++ByteArray.mk (Array.mk [(48:UInt8),(48:UInt8),(48:UInt8)]))) (q++p)) (some
 (AV.tup [(vI 0),(vS ⟨⟨[]⟩⟩),(vB false)],[]))) (ByteArray.mk (Array.mk [(48:UInt8),(48:UInt8),(58:UInt8),(48:UInt8),(48 :
 UInt8),(58:UInt8),(48:UInt8),(48:UInt8)])):=(runFR_val).symm.trans (by kernel_rfl)

def encRdT1 (s:ByteArray) (p:ByteArray):List AV:=[vS s,vS p]

def encRdT (a:ByteArray×ByteArray):List AV:=encRdT1 a.1 a.2

theorem encRdT_inj (a a':ByteArray×ByteArray) (h:encRdT a=encRdT a'):a=a':=by
 simp only[encRdT,encRdT1]at h
 try simp[]at h
 grind

theorem unRdT (s:ByteArray) (p:ByteArray):unenc encRdT ([(vS s),(vS p)])=some (s,p):=unenc_of encRdT_inj (s,p) rfl

def resRdT1 (s:ByteArray) (p:ByteArray):AV×Heap:=(.tup [vI (F.rdT s p).1,vS (F.rdT s p).2.1,vB (F.rdT s p).2.2],[])

def preRdT1 (s:ByteArray) (p:ByteArray):Bool:=F.small s&&decide (p.size=1)

noncomputable def oRdT:Orc:=orc 174 true encRdT (fun a=>preRdT1 a.1 a.2) fun a=>resRdT1 a.1 a.2

theorem okRdT:OrcOK Tryz.prog noG oRdT:=by
 refine mk_ok Tryz.f174 (keep:=false) (by kernel_rfl) (by kernel_rfl) enRdT_ok mixed (one_loop (x0:=loopN Tryz.f174 0) (by kernel_rfl) (lpo_ok ?_)) (by first | exact fun _ _=>⟨rfl,rfl⟩ | (intro h;cases h)) ?_
 ·rintro⟨s,f,n,k⟩ hp
  exact lpRdT_ok s f n k hp
 rintro⟨s,p⟩ hpre hok
 show(runF enRdT false _ (encRdT1 _ _)).val=some (resRdT1 _ _)
 unfold encRdT1 resRdT1
 rw[evRdT]
 simp only[preRdT1,F.small,Bool.and_eq_true,decide_eq_true_eq]at hpre
 simp only[unstRdT0,Option.bind_some,Bool.and_true,F.rdT]
 have ef:((⟨⟨[48,48,58,48,48,58,48,48]⟩⟩:ByteArray)++p++(⟨⟨[48,48,48]⟩⟩:ByteArray))=F.form p:=rfl
 have fs:=F.form_size hpre.2
 have b1:Nat.ble ((⟨⟨[48,48,58,48,48,58,48,48]⟩⟩:ByteArray).size+p.size) 9223372036854775807=true:=by rw[hpre.2];rfl
 have b2:Nat.ble (((⟨⟨[48,48,58,48,48,58,48,48]⟩⟩:ByteArray)++p).size+(⟨⟨[48,48,48]⟩⟩:ByteArray).size) 9223372036854775807=true:=by rw[ByteArray.size_append,hpre.2];rfl
 have hT:F.tmL ((F.bs (F.form p)).zip (F.bs s)) 0=F.tmS s p:=rfl
 simp only[b1,b2,ef,fs,List.drop_zero,cond_true,hT]
 by_cases h12:s.size<12
 ·rw[decide_eq_true (show(s.size:Int)<((12:Nat):Int) by omega),decide_eq_true h12]
  rfl
 have c1:decide ((s.size:Int)<((12:Nat):Int))=false:=decide_eq_false (by omega)
 have c2:decide (s.size<12)=false:=decide_eq_false h12
 have c3:decide (12≤s.size)=true:=decide_eq_true (by omega)
 have c4:decide ((0:Int)+1≤10 ^ 0)=true:=rfl
 have c5:decide ((0:Int)≤0)=true:=rfl
 have c6:decide ((0:Nat)≤12)=true:=rfl
 have c7:decide ((12:Nat)=12)=true:=rfl
 simp only[c1,c2,c3,c4,c5,c6,cond_true,cond_false,Bool.and_self,Bool.false_or,ble_t (show 12≤s.size by omega),ble_t (Nat.le_refl s.size)]
 cases ho:F.tmS s p with
 | none=>rfl
 | some n=>
  obtain⟨h0,hb⟩:=F.tmL_bound (k:=0) (Int.le_refl 0) (by decide) ho
  have hzl:((F.bs (F.form p)).zip (F.bs s)).length=12:=by rw[List.length_zip,F.bs_len,F.bs_len];omega
  rw[hzl]at hb
  have hb:n+1≤1000000000000:=hb
  have t1:n.tdiv 10000000=n / 10000000:=tdiv_nn h0
  have t2:n.tdiv 100000=n / 100000:=tdiv_nn h0
  have t3:n.tdiv 1000=n / 1000:=tdiv_nn h0
  have m1:(n / 100000).tmod 100=n / 100000 % 100:=Int.tmod_eq_emod_of_nonneg (by omega)
  have m2:(n / 1000).tmod 100=n / 1000 % 100:=Int.tmod_eq_emod_of_nonneg (by omega)
  have m3:n.tmod 1000=n % 1000:=Int.tmod_eq_emod_of_nonneg (by omega)
  have w1:IntKind.i64.wrap (n / 10000000)=n / 10000000:=wrap_id (by omega) (by omega)
  have w2:IntKind.i64.wrap (n / 100000)=n / 100000:=wrap_id (by omega) (by omega)
  have w3:IntKind.i64.wrap (n / 1000)=n / 1000:=wrap_id (by omega) (by omega)
  have w4:IntKind.i64.wrap (n / 10000000*3600000)=n / 10000000*3600000:=wrap_id (by omega) (by omega)
  have w5:IntKind.i64.wrap (n / 100000 % 100*60000)=n / 100000 % 100*60000:=wrap_id (by omega) (by omega)
  have w6:IntKind.i64.wrap (n / 1000 % 100*1000)=n / 1000 % 100*1000:=wrap_id (by omega) (by omega)
  have w7:IntKind.i64.wrap (n / 10000000*3600000+n / 100000 % 100*60000)=n / 10000000*3600000+n / 100000 % 100*60000:=wrap_id (by omega) (by omega)
  have w8:IntKind.i64.wrap (n / 10000000*3600000+n / 100000 % 100*60000+n / 1000 % 100*1000)=n / 10000000*3600000+n / 100000 % 100*60000+n / 1000 % 100*1000:=wrap_id (by omega) (by omega)
  have w9:IntKind.i64.wrap (n / 10000000*3600000+n / 100000 % 100*60000+n / 1000 % 100*1000+n % 1000)=n / 10000000*3600000+n / 100000 % 100*60000+n / 1000 % 100*1000+n % 1000:=wrap_id (by omega) (by omega)
  simp only[F.found,F.got,Option.isSome_some,Option.getD_some,cond_true,cond_false,Bool.not_true,t1,t2,t3,m1,m2,m3,w1,w2,w3,w4,w5,w6,w7,w8,w9,F.hms,F.hmsOk,F.lt,decide_true,Bool.and_self]
  by_cases hh:n / 100000 % 100<60<;>by_cases hh2:n / 1000 % 100<60<;>simp[hh,hh2]

end M

theorem F.rdT_size (s p:ByteArray):(F.rdT s p).2.1.size≤s.size:=by
 unfold F.rdT
 cases(decide (s.size<12) || !F.found (F.tmS s p))
 ·exact F.ext_size _ _ _
 ·exact Nat.zero_le _

theorem F.cutP_size (s p:ByteArray):(F.cutP s p).1.size≤s.size:=by
 unfold F.cutP
 cases F.hasP s p
 ·exact Nat.le_refl _
 ·exact F.ext_size _ _ _

theorem F.small_le {a b:ByteArray} (h:a.size≤b.size) (hb:b.size≤4294967280):F.small a=true:=decide_eq_true (Nat.le_trans h hb)

namespace M

noncomputable def enRtp:Env:=envH ty noG lks [oRdT,oCuPo] [] [] []

theorem enRtp_ok:EnvOK Tryz.prog enRtp:=by
 refine envH_ok lks_ok ty_ok ?_ ?_
 ·simp only[List.forall_mem_cons]
  exact⟨okRdT,okCuPo,by simp⟩
 ·simp

theorem evRtp (s:ByteArray) (p:ByteArray):(runH enRtp [] Tryz.f122 [vS s,vS p, .ptr 900 0 0] [(900,⟨true,0,0,[[vI 0,vI 0, .e0,vI 0,vB false,vB false]]⟩)]).val =
 Option.bind (unenc encRdT [(vS s),(vS p)]) fun z=>bif F.small z.1&&decide (ByteArray.size z.2=(1:Nat)) then Option.bind (unenc
 encCuPo [(vS (F.rdT z.1 z.2).snd.fst),(vS ⟨⟨[32,45,45,62,32]⟩⟩)]) fun z_1=>bif F.small z_1.1&&decide (ByteArray.size z_1.2≤100) then Option.bind (unenc encRdT [(vS (F.cutP z_1.1 z_1.2).fst),(vS p)]) fun(z_2 :
 ByteArray×ByteArray)=>bif F.small z_2.1&&decide (ByteArray.size z_2.2=(1:Nat)) then some (AV.tup [(vS (F.rdT z_2.1 z_2.2).snd.fst),(vB (bif bif (F.rdT
 z.1 z.2).snd.snd then (F.cutP z_1.1 z_1.2).snd else false then (F.rdT z_2.1 z_2.2).snd.snd else false))],[(900,Blk.mk true 0 0 [[(vI (F.rdT z.1
 z.2).fst),(vI (F.rdT z_2.1 z_2.2).fst),AV.e0,(vI 0),(vB false),(vB false)]])],[]) else none else none else none:=(runHR_val).symm.trans (by kernel_rfl)

def encRtp1 (s:ByteArray) (p:ByteArray):List AV×Heap:=([vS s,vS p, .ptr 900 0 0],[(900,⟨true,0,0,[[vI 0,vI 0, .e0,vI 0,vB false,vB false]]⟩)])

def encRtp (a:ByteArray×ByteArray):List AV×Heap:=encRtp1 a.1 a.2

theorem encRtp_inj (a a':ByteArray×ByteArray) (h:encRtp a=encRtp a'):a=a':=by
 simp only[encRtp,encRtp1]at h
 try simp[]at h
 grind

theorem unRtp (s:ByteArray) (p:ByteArray):unenc encRtp (([(vS s),(vS p), .ptr 900 0 0],[(900,Blk.mk true 0 0 [[(vI (0:Int)),(vI (0:Int)),AV.e0,(vI (0:Int)),(vB false),(vB false)]])]))=some (s,p):=unenc_of encRtp_inj (s,p) rfl

def resRtp1 (s:ByteArray) (p:ByteArray):AV×Heap×List Nat:=(.tup [vS (F.rtP s p).2.2.1,vB (F.rtP s p).2.2.2],[(900,⟨true,0,0,[[vI (F.rtP s p).1,vI (F.rtP s p).2.1, .e0,vI 0,vB false,vB false]]⟩)],[])

def preRtp1 (s:ByteArray) (p:ByteArray):Bool:=F.small s&&decide (p.size=1)

noncomputable def oRtp:OrcH:=orcH 122 encRtp (fun a=>preRtp1 a.1 a.2) fun a=>resRtp1 a.1 a.2

theorem okRtp:OrcHOK Tryz.prog noG oRtp:=by
 refine mkH_ok (mv:=[]) Tryz.f122 (by kernel_rfl) (by kernel_rfl) enRtp_ok mixed (no_loops (by kernel_rfl)) ?_
 rintro⟨s,p⟩ hpre hok hokh
 show(runH enRtp [] _ (encRtp1 _ _).1 (encRtp1 _ _).2).val=some (resRtp1 _ _)
 unfold encRtp1 resRtp1
 rw[evRtp]
 simp only[preRtp1,F.small,Bool.and_eq_true,decide_eq_true_eq]at hpre
 obtain⟨h1,h2⟩:=hpre
 simp only[unRdT,unCuPo,Option.bind_some,F.rtP]
 have ea:(⟨⟨[32,45,45,62,32]⟩⟩:ByteArray)=F.arrow:=rfl
 have s1:F.small s=true:=decide_eq_true h1
 have s2:F.small (F.rdT s p).2.1=true:=F.small_le (F.rdT_size s p) h1
 have s3:F.small (F.cutP (F.rdT s p).2.1 F.arrow).1=true:=F.small_le (Nat.le_trans (F.cutP_size _ _) (F.rdT_size s p)) h1
 have s4:decide (F.arrow.size≤100)=true:=rfl
 rw[ea,s1,s2,s3,s4,decide_eq_true h2]
 cases(F.rdT s p).2.2<;>cases(F.cutP (F.rdT s p).2.1 F.arrow).2<;>rfl

end M

def F.lead:List ByteArray→Nat
 | []=>0
 | x::r=>bif F.emp x then F.lead r+1 else 0

def F.tkB (L:List ByteArray) (a:Nat):Bool:=decide (a<L.length)

def F.tkS (L:List ByteArray) (a:Nat):ByteArray:=bif F.tkB L a then L.getD a ⟨⟨[]⟩⟩ else ⟨⟨[]⟩⟩

theorem F.lead_le : ∀l,F.lead l≤l.length
 | []=>Nat.le_refl 0
 | x::r=>by
  rw[F.lead]
  have:=F.lead_le r
  cases F.emp x<;>simp<;>omega

def F.linesOk (L:List ByteArray):Bool:=decide (L.length≤200001)&&L.all F.small

theorem F.int_ltn (a b:Nat):decide ((a:Int)<(b:Int))=decide (a<b):=by
 by_cases h:a<b
 ·rw[decide_eq_true h,decide_eq_true (by omega)]
 ·rw[decide_eq_false h,decide_eq_false (by omega)]

namespace M

theorem evMor (L:List ByteArray) (a:Nat):(runF en0 false Tryz.f121 [.pel [.sl (L.map eStr),vI a] 0]).val =
 some ((vB (decide ((↑a:Int)<(↑(List.length (List.map eStr L)):Int)))),[]):=(runFR_val).symm.trans (by kernel_rfl)

def encMor1 (L:List ByteArray) (a:Nat):List AV:=[.pel [.sl (L.map eStr),vI a] 0]

def encMor (a:(List ByteArray)×Nat):List AV:=encMor1 a.1 a.2

theorem encMor_inj (a a':(List ByteArray)×Nat) (h:encMor a=encMor a'):a=a':=by
 simp only[encMor,encMor1]at h
 try simp[strs_inj]at h
 grind

theorem unMor (L:List ByteArray) (a:Nat):unenc encMor ([AV.pel [AV.sl (List.map eStr L),(vI (↑a:Int))] (0:Nat)])=some (L,a):=unenc_of encMor_inj (L,a) rfl

def resMor1 (L:List ByteArray) (a:Nat):AV×Heap:=(vB (F.tkB L a),[])

def preMor1 (L:List ByteArray) (a:Nat):Bool:=true

noncomputable def oMor:Orc:=orc 121 true encMor (fun a=>preMor1 a.1 a.2) fun a=>resMor1 a.1 a.2

theorem okMor:OrcOK Tryz.prog noG oMor:=by
 refine mk_ok Tryz.f121 (keep:=false) (by kernel_rfl) (by kernel_rfl) en0_ok mixed (no_loops (by kernel_rfl)) (by first | exact fun _ _=>⟨rfl,rfl⟩ | (intro h;cases h)) ?_
 rintro⟨L,a⟩ hpre hok
 show(runF en0 false _ (encMor1 _ _)).val=some (resMor1 _ _)
 unfold encMor1 resMor1
 rw[evMor]
 simp only[List.length_map,F.tkB]
 rw[F.int_ltn]

theorem evTak (L:List ByteArray) (a:Nat):(runH en0 [] Tryz.f119 [.ptr 900 0 0] [(900,⟨true,0,0,[[.sl (L.map eStr),vI a]]⟩)]).val =
 bif decide ((↑(List.length (List.map eStr L)):Int)<IntKind.i64.wrap ((↑a:Int)+1)) then some (AV.tup [(vS ⟨⟨[]⟩⟩),(vB
 false)],[(900,Blk.mk true 0 0 [[AV.sl (List.map eStr L),(vI (IntKind.i64.wrap ((↑a:Int)+1)))]])],[]) else Option.bind (idx (IntKind.wrap
 IntKind.i64 (IntKind.i64.wrap ((↑a:Int)+1) - (1:Int)))) fun z=>Option.bind (unenc (List.map eStr) (List.map eStr L)) fun z_1=>bif decide (z<List.length z_1) then some (AV.tup [(vS (List.getD z_1 z (ByteArray.mk (Array.mk [])))),(vB true)],[(900,Blk.mk true 0 0 [[AV.sl (List.map
 eStr L),(vI (IntKind.i64.wrap ((↑a:Int)+1)))]])],[]) else none:=(runHR_val).symm.trans (by kernel_rfl)

def encTak1 (L:List ByteArray) (a:Nat):List AV×Heap:=([.ptr 900 0 0],[(900,⟨true,0,0,[[.sl (L.map eStr),vI a]]⟩)])

def encTak (a:(List ByteArray)×Nat):List AV×Heap:=encTak1 a.1 a.2

theorem encTak_inj (a a':(List ByteArray)×Nat) (h:encTak a=encTak a'):a=a':=by
 simp only[encTak,encTak1]at h
 try simp[strs_inj]at h
 grind

theorem unTak (L:List ByteArray) (a:Nat):unenc encTak (([.ptr 900 0 0],[(900,Blk.mk true 0 0 [[AV.sl (List.map eStr L),(vI (↑a:Int))]])]))=some (L,a):=unenc_of encTak_inj (L,a) rfl

def resTak1 (L:List ByteArray) (a:Nat):AV×Heap×List Nat:=(.tup [vS (F.tkS L a),vB (F.tkB L a)],[(900,⟨true,0,0,[[.sl (L.map eStr),vI (a+1:Nat)]]⟩)],[])

def preTak1 (L:List ByteArray) (a:Nat):Bool:=F.linesOk L&&decide (a≤200001)

noncomputable def oTak:OrcH:=orcH 119 encTak (fun a=>preTak1 a.1 a.2) fun a=>resTak1 a.1 a.2

theorem okTak:OrcHOK Tryz.prog noG oTak:=by
 refine mkH_ok (mv:=[]) Tryz.f119 (by kernel_rfl) (by kernel_rfl) en0_ok mixed (no_loops (by kernel_rfl)) ?_
 rintro⟨L,a⟩ hpre hok hokh
 show(runH en0 [] _ (encTak1 _ _).1 (encTak1 _ _).2).val=some (resTak1 _ _)
 unfold encTak1 resTak1
 rw[evTak]
 simp only[preTak1,F.linesOk,Bool.and_eq_true,decide_eq_true_eq]at hpre
 simp only[Option.bind_some,List.length_map,unStrs,F.tkB,F.tkS]
 have w1:IntKind.i64.wrap ((a:Int)+1)=((a+1:Nat):Int):=by rw[wrap_id (by omega) (by omega)];rfl
 have w2:idx (IntKind.i64.wrap (((a+1:Nat):Int) - 1))=some a:=by
  rw[wrap_id (by omega) (by omega),show((a+1:Nat):Int) - 1=(a:Int) by omega];rfl
 rw[w1,w2]
 by_cases ha:a<L.length
 ·simp only[decide_eq_false (show ¬(L.length:Int)<((a+1:Nat):Int) by omega),decide_eq_true ha,cond_false,cond_true,Option.bind_some]
 ·simp only[decide_eq_true (show(L.length:Int)<((a+1:Nat):Int) by omega),decide_eq_false ha,cond_false,cond_true,Option.bind_some]

def stBla (L:List ByteArray) (a:Nat) (n:Nat):St:=⟨[(3,vI n),(0, .ptr 900 0 0)],[(900,⟨true,0,0,[[.sl (L.map eStr),vI a]]⟩)]⟩

def stBla1 (a:(List ByteArray)×Nat×Nat):St:=stBla a.1 a.2.1 a.2.2

theorem stBla_inj (a a':(List ByteArray)×Nat×Nat) (h:stBla1 a=stBla1 a'):a=a':=by
 simp only[stBla1,stBla]at h
 try simp[strs_inj]at h
 grind

theorem unstBla0 (L:List ByteArray) (a:Nat)  : unenc stBla1 (St.mk [(3,(vI (0:Int))),(0, .ptr 900 0 0)] [(900,Blk.mk true 0 0 [[AV.sl (List.map eStr L),(vI (↑a:Int))]])])=some (L,a,0):=unenc_of stBla_inj (L,a,0) rfl

def outBla (L:List ByteArray) (a:Nat) (n:Nat):T (Ex×St):= .ret (.exit 0,⟨[(3,vI (n+F.lead (L.drop a):Nat)),(0, .ptr 900 0 0)],[(900,⟨true,0,0,[[.sl (L.map eStr),vI (a+F.lead (L.drop a):Nat)]]⟩)]⟩)

noncomputable def prlBla (L:List ByteArray) (a:Nat) (n:Nat):Bool:=decide (L.length≤200001)&&decide (a≤200001)&&decide (n≤a)

noncomputable def lpBla:Nat×(St→T (Ex×St)):=(2,lpo [3,0] [900] stBla1 (fun a=>prlBla a.1 a.2.1 a.2.2) fun a=>outBla a.1 a.2.1 a.2.2)

noncomputable def enBla:Env:=envH ty noG lks [oMor] [] [] [lpBla]

theorem enBla_ok:EnvOK Tryz.prog enBla:=by
 refine envH_ok lks_ok ty_ok ?_ ?_
 ·simp only[List.forall_mem_cons]
  exact⟨okMor,by simp⟩
 ·simp

theorem evBlaL (L:List ByteArray) (a:Nat) (n:Nat):((exec enBla (loopN Tryz.f120 0) (stBla L a n)).bind (lessX ([3,0],[900]) ([3,0],[900]) ([],[]))).val =
 Option.bind (unenc encMor [AV.pel [AV.sl (List.map eStr L),(vI (↑a:Int))] (0:Nat)]) fun z=>bif F.tkB z.1 z.2 then Option.bind (unenc
 (List.map eStr) (List.map eStr L)) fun z=>bif decide (a<List.length z) then bif ByteArray.toList (List.getD z a (ByteArray.mk (Array.mk []))) ==
 ByteArray.toList (ByteArray.mk (Array.mk [])) then some (Ex.normal,St.mk [(3,(vI (IntKind.i64.wrap ((↑n:Int)+1)))),(0, .ptr 900 0 0)] [(900,Blk.mk
 true 0 0 [[AV.sl (List.map eStr L),(vI (IntKind.i64.wrap ((↑a:Int)+1)))]])]) else some (Ex.exit (0:Nat),St.mk [(3,(vI (↑n:Int))),(0, .ptr 900 0
 0)] [(900,Blk.mk true 0 0 [[AV.sl (List.map eStr L),(vI (↑a:Int))]])]) else none else some (Ex.exit (0:Nat),St.mk [(3,(vI (↑n:Int))),(0, .ptr 900 0 0)] [(900,
 Blk.mk true 0 0 [[AV.sl (List.map eStr L),(vI (↑a:Int))]])]):=(execR_bind _ _ _).symm.trans (by kernel_rfl)

theorem lpBla_ok (L:List ByteArray) (a:Nat) (n:Nat) (hp:prlBla L a n=true) : ∀ex s',(outBla L a n).val=some (ex,s')→LoopOK enBla (loopN Tryz.f120 0) (stBla L a n) ex s':=by
 simp only[prlBla,Bool.and_eq_true,decide_eq_true_eq]at hp
 obtain⟨⟨h1,h2⟩,h3⟩:=hp
 refine loop_gen (st:=fun b:Nat×Nat=>stBla L b.1 b.2) (out:=fun b=>outBla L b.1 b.2) (I:=fun b=>b.1≤200001∧b.2≤b.1) (n:=([3,0],[900])) (e:=([3,0],[900])) (r:=([],[])) (fun b=>L.length - b.1) ?_ (a,n) ⟨h2,h3⟩
 rintro⟨a,n⟩ ⟨i1,i2⟩
 simp only at i1 i2
 have w1:IntKind.i64.wrap ((a:Int)+1)=((a+1:Nat):Int):=by rw[wrap_id (by omega) (by omega)];rfl
 have w2:IntKind.i64.wrap ((n:Int)+1)=((n+1:Nat):Int):=by rw[wrap_id (by omega) (by omega)];rfl
 by_cases ha:a<L.length
 ·have hy:L[a]? = some L[a]:=List.getElem?_eq_getElem ha
  generalize L[a]=y at hy
  have hd:=drop_q hy
  have ht:F.tkB L a=true:=decide_eq_true ha
  have ey:(y.toList==(⟨⟨[]⟩⟩:ByteArray).toList)=F.emp y:=rfl
  cases he:F.emp y
  ·left
   refine⟨(.exit 0,⟨[(3,vI n),(0, .ptr 900 0 0)],[(900,⟨true,0,0,[[.sl (L.map eStr),vI a]]⟩)]⟩),?_,?_,by simp,rfl⟩
   ·rw[evBlaL]
    simp only[unMor,Option.bind_some,unStrs,cond_true,cond_false,ht,decide_eq_true ha,getD_at hy,ey,he]
   ·simp only[outBla,hd,F.lead,he,cond_false,Nat.add_zero]
    rfl
  ·right
   refine⟨(a+1,n+1),?_,rfl,⟨by simp only;omega,by simp only;omega⟩,by simp only;omega,?_⟩
   ·rw[evBlaL]
    simp only[unMor,Option.bind_some,unStrs,cond_true,ht,decide_eq_true ha,getD_at hy,ey,he,w1,w2]
    rfl
   ·have e1:a+(F.lead (L.drop (a+1))+1)=a+1+F.lead (L.drop (a+1)):=by omega
    have e2:n+(F.lead (L.drop (a+1))+1)=n+1+F.lead (L.drop (a+1)):=by omega
    simp only[outBla,hd,F.lead,he,cond_true,e1,e2]
 ·have ht:F.tkB L a=false:=decide_eq_false ha
  have hd:L.drop a=[]:=List.drop_eq_nil_of_le (by omega)
  left
  refine⟨(.exit 0,⟨[(3,vI n),(0, .ptr 900 0 0)],[(900,⟨true,0,0,[[.sl (L.map eStr),vI a]]⟩)]⟩),?_,?_,by simp,rfl⟩
  ·rw[evBlaL]
   simp only[unMor,Option.bind_some,unStrs,cond_false,ht]
  ·simp only[outBla,hd,F.lead,Nat.add_zero]
   rfl

theorem evBla (L:List ByteArray) (a:Nat):(runH enBla [] Tryz.f120 [.ptr 900 0 0] [(900,⟨true,0,0,[[.sl (L.map eStr),vI a]]⟩)]).val =
 Option.bind (unenc stBla1 (St.mk [(3,(vI 0)),(0, .ptr 900 0 0)] [(900,Blk.mk true 0 0 [[AV.sl (List.map eStr L),(vI (↑a:Int))]])])) fun z=>bif decide (List.length z.1≤200001)&&decide (z.2.1≤200001)&&decide (z.2.2≤z.2.1)&&true then some ((vI (↑(z.2.2
 + F.lead (List.drop z.2.1 z.1)):Int)),[(900,Blk.mk true 0 0 [[AV.sl (List.map eStr z.1),(vI (↑(z.2.1+F.lead (List.drop z.2.1 z.1)):Int))]])],
 []) else none:=(runHR_val).symm.trans (by kernel_rfl)

def encBla1 (L:List ByteArray) (a:Nat):List AV×Heap:=([.ptr 900 0 0],[(900,⟨true,0,0,[[.sl (L.map eStr),vI a]]⟩)])

def encBla (a:(List ByteArray)×Nat):List AV×Heap:=encBla1 a.1 a.2

theorem encBla_inj (a a':(List ByteArray)×Nat) (h:encBla a=encBla a'):a=a':=by
 simp only[encBla,encBla1]at h
 try simp[strs_inj]at h
 grind

theorem unBla (L:List ByteArray) (a:Nat):unenc encBla (([.ptr 900 0 0],[(900,Blk.mk true 0 0 [[AV.sl (List.map eStr L),(vI (↑a:Int))]])]))=some (L,a):=unenc_of encBla_inj (L,a) rfl

def resBla1 (L:List ByteArray) (a:Nat):AV×Heap×List Nat:=(vI (F.lead (L.drop a)),[(900,⟨true,0,0,[[.sl (L.map eStr),vI (a+F.lead (L.drop a):Nat)]]⟩)],[])

def preBla1 (L:List ByteArray) (a:Nat):Bool:=F.linesOk L&&decide (a≤200001)

noncomputable def oBla:OrcH:=orcH 120 encBla (fun a=>preBla1 a.1 a.2) fun a=>resBla1 a.1 a.2

theorem okBla:OrcHOK Tryz.prog noG oBla:=by
 refine mkH_ok (mv:=[]) Tryz.f120 (by kernel_rfl) (by kernel_rfl) enBla_ok mixed (one_loop (x0:=loopN Tryz.f120 0) (by kernel_rfl) (lpo_ok ?_)) ?_
 ·rintro⟨L,a,n⟩ hp
  exact lpBla_ok L a n hp
 rintro⟨L,a⟩ hpre hok hokh
 show(runH enBla [] _ (encBla1 _ _).1 (encBla1 _ _).2).val=some (resBla1 _ _)
 unfold encBla1 resBla1
 rw[evBla]
 simp only[preBla1,F.linesOk,Bool.and_eq_true,decide_eq_true_eq]at hpre
 simp only[unstBla0,Option.bind_some,cond_true,Bool.and_true,decide_eq_true hpre.1.1,decide_eq_true hpre.2,Nat.zero_le,decide_true,Nat.zero_add]

noncomputable def enNwP:Env:=envH ty noG lks [oTrSo,oSpl] [] [] []

theorem enNwP_ok:EnvOK Tryz.prog enNwP:=by
 refine envH_ok lks_ok ty_ok ?_ ?_
 ·simp only[List.forall_mem_cons]
  exact⟨okTrSo,okSpl,by simp⟩
 ·simp

theorem evNwP (s:ByteArray):(runH enNwP [] Tryz.f118 [vS s] []).val =
 bif ByteArray.toList s==ByteArray.toList (ByteArray.mk (Array.mk [])) then some (.ptr 0 0 0,[(0,Blk.mk true 0 0 [[AV.e0,(vI 0)]])],[]) else Option.bind
 (unenc encTrSo [(vS s),(vS ⟨⟨[10]⟩⟩)]) fun z=>bif F.small z.1&&decide (ByteArray.size z.2≤100)
 then Option.bind (unenc encSpl [(vS (F.trim z.1 z.2)),(vS ⟨⟨[10]⟩⟩)]) fun z=>bif decide (ByteArray.size
 z.1≤4294967280)&&decide ((1:Nat)≤ByteArray.size z.2) then some (.ptr 0 0 0,[(0,Blk.mk true 0 0 [[AV.sl (List.map eStr (F.split z.1 z.2)),(vI 0)]])],[]) else none else none:=(runHR_val).symm.trans (by kernel_rfl)

def encNwP1 (s:ByteArray):List AV×Heap:=([vS s],[])

def encNwP (a:ByteArray):List AV×Heap:=encNwP1 a

theorem encNwP_inj (a a':ByteArray) (h:encNwP a=encNwP a'):a=a':=by
 simp only[encNwP,encNwP1]at h
 try simp[]at h
 grind

theorem unNwP (s:ByteArray):unenc encNwP (([(vS s)],[]))=some (s):=unenc_of encNwP_inj (s) rfl

def resNwP1 (s:ByteArray):T (AV×Heap×List Nat):= .ret (.ptr 0 0 0,[(0,⟨true,0,0,[[.sl ((F.lns s).map eStr),vI 0]]⟩)],[])

def preNwP1 (s:ByteArray):Bool:=F.small s

noncomputable def oNwP:OrcH:=orcT 118 encNwP (fun a=>preNwP1 a) fun a=>resNwP1 a

theorem okNwP:OrcHOK Tryz.prog noG oNwP:=by
 refine mkE_ok (mv:=[]) Tryz.f118 (by kernel_rfl) (by kernel_rfl) enNwP_ok mixed (no_loops (by kernel_rfl)) ?_
 rintro s r0 hpre hok hokh hr0
 show((runH enNwP [] _ (encNwP1 _).1 (encNwP1 _).2).val.map weakH)=some r0
 replace hr0:(resNwP1 _).val=some r0:=hr0
 unfold resNwP1 at hr0
 unfold encNwP1
 rw[evNwP]
 simp only[preNwP1,F.small,decide_eq_true_eq]at hpre
 simp only[unTrSo,unSpl,Option.bind_some]
 have e1:(s.toList==(⟨⟨[]⟩⟩:ByteArray).toList)=F.emp s:=rfl
 have e2:(⟨⟨[10]⟩⟩:ByteArray)=F.nl:=rfl
 rw[←hr0,e1,e2,F.lns_prog]
 have s1:F.small s=true:=decide_eq_true hpre
 have s2:(F.trim s F.nl).size≤s.size:=by
  unfold F.trim
  cases F.hasS s F.nl
  ·exact Nat.le_refl _
  ·exact F.ext_size _ _ _
 have s3:decide (F.nl.size≤100)=true:=rfl
 have s4:decide (1≤F.nl.size)=true:=rfl
 rw[s1,s3,s4,decide_eq_true (show(F.trim s F.nl).size≤4294967280 by omega)]
 cases F.emp s<;>rfl

end M

namespace F

def amp5:ByteArray:=⟨⟨[38,97,109,112,59]⟩⟩

def lt4:ByteArray:=⟨⟨[38,108,116,59]⟩⟩

def ampB:ByteArray:=⟨⟨[38]⟩⟩

def ltB:ByteArray:=⟨⟨[60]⟩⟩

def sgn (s:ByteArray):Bool:=match (bs s)[0]? with
 | some b=>b==38||b==60
 | none=>false

def plB:Nat→ByteArray→ByteArray→Option ByteArray
 | 0,s,out=>some out
 | f+1,s,out=>
  bif emp s then some out else
  bif hasP s amp5 then plB f (s.extract 5 s.size) (out++ampB) else
  bif hasP s lt4 then plB f (s.extract 4 s.size) (out++ltB) else
  bif sgn s then none else plB f (s.extract 1 s.size) (out++s.extract 0 1)

def plR (s:ByteArray):Option ByteArray:=plB s.size s ⟨⟨[]⟩⟩

theorem ext_sz (s:ByteArray) (k:Nat):(s.extract k s.size).size=s.size - k:=by rw[ByteArray.size_extract];omega

theorem plB_fuel : ∀(f g:Nat) (s out:ByteArray),s.size≤f→s.size≤g→plB f s out=plB g s out
 | 0,0,s,out,_,_=>rfl
 | 0,g+1,s,out,h,_=>by
  have he:emp s=true:=by rw[emp_size];exact decide_eq_true (by omega)
  rw[plB,plB,he];rfl
 | f+1,0,s,out,_,h=>by
  have he:emp s=true:=by rw[emp_size];exact decide_eq_true (by omega)
  rw[plB,plB,he];rfl
 | f+1,g+1,s,out,h1,h2=>by
  rw[plB,plB]
  cases he:emp s
  ·have hz:s.size≠0:=by
    rw[emp_size]at he
    exact of_decide_eq_false he
   have e5:=ext_sz s 5;have e4:=ext_sz s 4;have e1:=ext_sz s 1
   rw[plB_fuel f g (s.extract 5 s.size) _ (by omega) (by omega),plB_fuel f g (s.extract 4 s.size) _ (by omega) (by omega),plB_fuel f g (s.extract 1 s.size) _ (by omega) (by omega)]
  ·rfl

theorem bs_from (s:ByteArray) (k:Nat):bs (s.extract k s.size)=(bs s).drop k:=by
 rw[bs_ext,List.take_of_length_le (by rw[←size_bs];exact Nat.le_refl _)]

theorem bs_upto (s:ByteArray) (k:Nat):bs (s.extract 0 k)=(bs s).take k:=by rw[bs_ext,List.drop_zero]

theorem bs_app (a b:ByteArray):bs (a++b)=bs a++bs b:=by unfold bs;simp

theorem hasP_head {s:ByteArray} {b:UInt8} {r:List UInt8} (hs:bs s=b::r) (h:b≠38):hasP s amp5=false∧hasP s lt4=false:=by
 have e1:bs amp5=[38,97,109,112,59]:=rfl
 have e2:bs lt4=[38,108,116,59]:=rfl
 have hb:((38:UInt8)==b)=false:=beq_eq_false_iff_ne.2 (fun e=>h e.symm)
 unfold hasP Lib.hasPrefix
 rw[hs,e1,e2]
 simp only[List.isPrefixOf,hb,Bool.false_and]
 exact⟨trivial,trivial⟩

theorem plB_run : ∀(n:Nat) (s out:ByteArray) (f:Nat),n≤s.size→(∀b∈(bs s).take n,b≠38∧b≠60)→s.size≤f→plB f s out=plB f (s.extract n s.size) (out++s.extract 0 n)
 | 0,s,out,f,_,_,_=>by
  have e1:s.extract 0 s.size=s:=bsx (by rw[bs_ext,List.drop_zero,List.take_of_length_le (by rw[←size_bs];exact Nat.le_refl _)])
  have e2:out++s.extract 0 0=out:=bsx (by rw[bs_app,bs_ext];simp)
  rw[e1,e2]
 | n+1,s,out,f,hn,hb,hf=>by
  obtain⟨b,r,hs⟩ : ∃b r,bs s=b::r:=by
   cases h:bs s with
   | nil=>have:=bs_len s;rw[h]at this;simp at this;omega
   | cons b r=>exact⟨b,r,rfl⟩
  have h0:=hb b (by rw[hs];simp)
  obtain⟨p1,p2⟩:=hasP_head hs h0.1
  have he:emp s=false:=by rw[emp_size];exact decide_eq_false (by omega)
  have hg:sgn s=false:=by
   unfold sgn
   rw[hs]
   simp[h0.1,h0.2]
  obtain⟨g,rfl⟩ : ∃g,f=g+1:=⟨f - 1,by omega⟩
  have hz:=ext_sz s 1
  have hr:bs (s.extract 1 s.size)=r:=by rw[bs_from,hs];rfl
  have ih:=plB_run n (s.extract 1 s.size) (out++s.extract 0 1) g (by omega) (fun x hx=>hb x (by rw[hr]at hx;rw[hs,List.take_succ_cons];exact List.mem_cons_of_mem _ hx)) (by omega)
  have x1:(s.extract 1 s.size).extract n (s.extract 1 s.size).size=s.extract (n+1) s.size:=bsx (by
   rw[bs_from,bs_from,bs_from,List.drop_drop,Nat.add_comm])
  have x2:(out++s.extract 0 1)++(s.extract 1 s.size).extract 0 n=out++s.extract 0 (n+1):=bsx (by
   rw[bs_app,bs_app,bs_app,bs_upto,bs_upto,bs_upto,hr,hs]
   simp)
  rw[x1,x2]at ih
  have hz2:=ext_sz s (n+1)
  rw[plB,he,p1,p2,hg]
  simp only[cond_false]
  rw[ih]
  exact plB_fuel _ _ _ _ (by omega) (by omega)

end F

namespace F

def cutH (s p:ByteArray):ByteArray:=⟨(Lib.cut (bs s) (bs p)).1.toArray⟩

def cutT (s p:ByteArray):ByteArray:=⟨(Lib.cut (bs s) (bs p)).2.1.toArray⟩

def cutF (s p:ByteArray):Bool:=(Lib.cut (bs s) (bs p)).2.2

def ato (s:ByteArray):Int:=(Lib.atoi (bs s)).getD 0

theorem decFrom_dig : ∀(l:List UInt8) (acc:Nat),l.all digB=true → ∃n,Lib.decFrom acc l=some n
 | [],acc,_=>⟨acc,rfl⟩
 | b::r,acc,h=>by
  simp only[List.all_cons,Bool.and_eq_true]at h
  have hb:48≤(b.toNat:Int)∧(b.toNat:Int)≤57:=by simpa[digB,digit]using h.1
  have hd:Lib.digitVal b=some (b.toNat - 48):=by
   unfold Lib.digitVal
   rw[if_pos ⟨by omega,by omega⟩]
  obtain⟨n,hn⟩:=decFrom_dig r (acc*10+(b.toNat - 48)) h.2
  exact⟨n,by unfold Lib.decFrom;rw[hd];exact hn⟩

theorem isNum_ato {s:ByteArray} (h:isNum s=true):s.size≤18∧Lib.atoi (bs s)=some (ato s)∧0≤ato s∧ato s≤1000000000000000000:=by
 unfold isNum at h
 simp only[Bool.and_eq_true,decide_eq_true_eq]at h
 obtain⟨⟨h1,h2⟩,h3⟩:=h
 have hl:=bs_len s
 cases hs:bs s with
 | nil=>rw[hs]at hl;simp at hl;omega
 | cons b r=>
  rw[hs]at h1
  have hb:48≤(b.toNat:Int)∧(b.toNat:Int)≤57:=by
   simp only[List.all_cons,Bool.and_eq_true]at h1
   simpa[digB,digit]using h1.1
  have n1:(b==45)=false:=by rw[beq_eq_false_iff_ne];rintro rfl;exact absurd hb.1 (by decide)
  have n2:(b==43)=false:=by rw[beq_eq_false_iff_ne];rintro rfl;exact absurd hb.1 (by decide)
  obtain⟨n,hn⟩:=decFrom_dig (b::r) 0 h1
  have ha:Lib.atoi (bs s)=some (n:Int):=by
   rw[hs]
   simp[Lib.atoi,Lib.decNat,n1,n2,hn]
  have hlt:=Lib.decFrom_lt18 hn (by rw[←hs,hl];omega)
  have he:ato s=(n:Int):=by unfold ato;rw[ha];rfl
  rw[hs]at ha
  rw[he]
  exact⟨by omega,ha,by omega,by omega⟩

theorem cutH_size (s p:ByteArray):(cutH s p).size≤s.size:=by
 have hl:=bs_len s
 show(Lib.cut (bs s) (bs p)).1.toArray.size≤_
 unfold Lib.cut
 split
 ·simp only[List.size_toArray,List.length_take];omega
 ·simp only[List.size_toArray];omega

theorem cutT_size (s p:ByteArray):(cutT s p).size≤s.size:=by
 have hl:=bs_len s
 show(Lib.cut (bs s) (bs p)).2.1.toArray.size≤_
 unfold Lib.cut
 split
 ·simp only[List.size_toArray,List.length_drop];omega
 ·simp

def runN:List UInt8→Nat
 | []=>0
 | b::r=>bif b==38||b==60 then 0 else runN r+1

theorem runN_le : ∀l,runN l≤l.length
 | []=>Nat.le_refl 0
 | b::r=>by
  rw[runN]
  have:=runN_le r
  cases(b==38||b==60)<;>simp<;>omega

theorem runN_mem : ∀(l:List UInt8),∀b∈l.take (runN l),b≠38∧b≠60
 | [],b,h=>by simp[runN]at h
 | x::r,b,h=>by
  rw[runN]at h
  cases hx:(x==38||x==60)
  ·rw[hx]at h
   simp only[cond_false,List.take_succ_cons,List.mem_cons]at h
   simp only[Bool.or_eq_false_iff,beq_eq_false_iff_ne]at hx
   rcases h with rfl | h
   ·exact hx
   ·exact runN_mem r b h
  ·rw[hx]at h;simp at h

theorem eq38 (b:UInt8):((b.toNat:Int)==38)=(b==38):=by
 have:=beqU b 38
 have h:((b.toNat:Int) != 38) = !(b==38):=this
 unfold bne at h
 cases h1:((b.toNat:Int)==38)<;>cases h2:(b==38)<;>rw[h1,h2]at h<;>first | rfl | cases h

theorem eq60 (b:UInt8):((b.toNat:Int)==60)=(b==60):=by
 have:=beqU b 60
 have h:((b.toNat:Int) != 60) = !(b==60):=this
 unfold bne at h
 cases h1:((b.toNat:Int)==60)<;>cases h2:(b==60)<;>rw[h1,h2]at h<;>first | rfl | cases h

def plG (s:ByteArray):Bool:=found (plR s)

def plV (s:ByteArray):ByteArray:=got (plR s) ⟨⟨[]⟩⟩

end F

namespace M

def encCut1 (s:ByteArray) (p:ByteArray):List AV:=[vS s,vS p]

def encCut (a:ByteArray×ByteArray):List AV:=encCut1 a.1 a.2

theorem encCut_inj (a a':ByteArray×ByteArray) (h:encCut a=encCut a'):a=a':=by
 simp only[encCut,encCut1]at h
 try simp[]at h
 grind

theorem unCut (s:ByteArray) (p:ByteArray):unenc encCut ([(vS s),(vS p)])=some (s,p):=unenc_of encCut_inj (s,p) rfl

def resCut1 (s:ByteArray) (p:ByteArray):AV×Heap:=(.tup [vS (F.cutH s p),vS (F.cutT s p),vB (F.cutF s p)],[])

def preCut1 (s:ByteArray) (p:ByteArray):Bool:=decide (s.size≤4294967280)

noncomputable def oCut:Orc:=orc 176 true encCut (fun a=>preCut1 a.1 a.2) fun a=>resCut1 a.1 a.2

theorem okCut:OrcOK Tryz.prog noG oCut:=by
 refine orc_ok ⟨Tryz.f176,by kernel_rfl,by kernel_rfl,by kernel_rfl⟩ (fun x hp _=>?_) (fun _ _=>⟨rfl,rfl⟩)
 obtain⟨s,p⟩:=x
 simp only[preCut1,decide_eq_true_eq]at hp
 have h1:=F.cutH_size s p
 have h2:=F.cutT_size s p
 refine SpecP.below2 (rv:= .tuple #[.string (F.cutH s p), .string (F.cutT s p), .bool (F.cutF s p)]) (fun w S=>⟨[_,_,_],rfl,R0.v (by show(F.cutH s p).size≤9223372036854775807;omega),R0.v (by show(F.cutT s p).size≤9223372036854775807;omega),R0.v trivial,trivial⟩) fun hk _ w S hG=>?_
 obtain⟨m,hm⟩:=maxLen_of hG
 refine(Tryz.strings_Cut s p m w (by omega) hm).mono ?_
 rintro e w' ⟨he,n,rfl⟩
 exact⟨he,⟨rfl,rfl,rfl,Nat.le_refl _,fun _ _=>rfl⟩⟩

def encAto1 (s:ByteArray):List AV:=[vS s]

def encAto (a:ByteArray):List AV:=encAto1 a

theorem encAto_inj (a a':ByteArray) (h:encAto a=encAto a'):a=a':=by
 simp only[encAto,encAto1]at h
 try simp[]at h
 grind

theorem unAto (s:ByteArray):unenc encAto ([(vS s)])=some (s):=unenc_of encAto_inj (s) rfl

def resAto1 (s:ByteArray):AV×Heap:=(.tup [vI (F.ato s), .v .nilIface],[])

def preAto1 (s:ByteArray):Bool:=F.isNum s

noncomputable def oAto:Orc:=orc 164 true encAto (fun a=>preAto1 a) fun a=>resAto1 a

theorem okAto:OrcOK Tryz.prog noG oAto:=by
 refine orc_ok ⟨Tryz.f164,by kernel_rfl,by kernel_rfl,by kernel_rfl⟩ (fun s hp _=>?_) (fun _ _=>⟨rfl,rfl⟩)
 obtain⟨h1,h2,h3,h4⟩:=F.isNum_ato hp
 refine SpecP.below1 (rv:= .tuple #[.int .i64 (F.ato s), .nilIface]) (fun w S=>⟨[_,_],rfl,R0.v (by simp only[okAtom,IntKind.min,IntKind.max,IntKind.signed,IntKind.bits];simp;omega),R0.v trivial,trivial⟩) fun hk w S hG=>?_
 refine(Tryz.strconv_Atoi s (F.ato s) h1 h2 w).mono ?_
 rintro e w' ⟨he,t,rfl⟩
 exact⟨he,Lib.bytesWorld_below w _ _⟩

def stPli (s:ByteArray) (out:ByteArray) (n:Nat):St:=⟨[(5,vI n),(4,vS out),(0,vS s)],[]⟩

def stPli1 (a:ByteArray×ByteArray×Nat):St:=stPli a.1 a.2.1 a.2.2

theorem stPli_inj (a a':ByteArray×ByteArray×Nat) (h:stPli1 a=stPli1 a'):a=a':=by
 simp only[stPli1,stPli]at h
 try simp[]at h
 grind

theorem unstPli0 (s:ByteArray) (out:ByteArray)  : unenc stPli1 (St.mk [(5,(vI (1:Int))),(4,(vS out)),(0,(vS s))] [])=some (s,out,1):=unenc_of stPli_inj (s,out,1) rfl

def outPli (s:ByteArray) (out:ByteArray) (n:Nat):T (Ex×St):= .ret (.exit 3,⟨[(5,vI (n+F.runN ((F.bs s).drop n):Nat)),(4,vS out),(0,vS s)],[]⟩)

noncomputable def prlPli (s:ByteArray) (out:ByteArray) (n:Nat):Bool:=decide (s.size≤4294967280)&&decide (n≤4294967290)

noncomputable def lpPli:Nat×(St→T (Ex×St)):=(4,lpo [5,4,0] [] stPli1 (fun a=>prlPli a.1 a.2.1 a.2.2) fun a=>outPli a.1 a.2.1 a.2.2)

def stPln (s:ByteArray) (out:ByteArray):St:=⟨[(4,vS out),(0,vS s)],[]⟩

def stPln1 (a:ByteArray×ByteArray):St:=stPln a.1 a.2

theorem stPln_inj (a a':ByteArray×ByteArray) (h:stPln1 a=stPln1 a'):a=a':=by
 simp only[stPln1,stPln]at h
 try simp[]at h
 grind

theorem unstPln (s:ByteArray) (out:ByteArray):unenc stPln1 (St.mk [(4,(vS out)),(0,(vS s))] [])=some (s,out):=unenc_of stPln_inj (s,out) rfl

def outPln (s:ByteArray) (out:ByteArray):T (Ex×St):= .ifB (F.found (F.plB s.size s out)) (.ret (.exit 0,⟨[(4,vS (F.got (F.plB s.size s out) ⟨⟨[]⟩⟩))],[]⟩)) (.ret (.ret,⟨[(3,vB false),(2,vS ⟨⟨[]⟩⟩)],[]⟩))

noncomputable def prlPln (s:ByteArray) (out:ByteArray):Bool:=decide (s.size+out.size≤4294967280)

noncomputable def lpPln:Nat×(St→T (Ex×St)):=(2,lpo [4,0] [] stPln1 (fun a=>prlPln a.1 a.2) fun a=>outPln a.1 a.2)

noncomputable def enPln:Env:=envH ty noG lks [oHsP] [] [] [lpPln,lpPli]

theorem enPln_ok:EnvOK Tryz.prog enPln:=by
 refine envH_ok lks_ok ty_ok ?_ ?_
 ·simp only[List.forall_mem_cons]
  exact⟨okHsP,by simp⟩
 ·simp

theorem evPliL (s:ByteArray) (out:ByteArray) (n:Nat):((exec enPln (loopN Tryz.f125 1) (stPli s out n)).bind (lessX ([5,4,0],[]) ([5,4,0],[]) ([],[]))).val =
 bif decide ((↑n:Int)<(↑(ByteArray.size s):Int)) then Option.bind s[n]? fun z=>bif (↑(UInt8.toNat z):Int) != 38 then Option.bind s[n]? fun(z :
 UInt8)=>bif (↑(UInt8.toNat z):Int) != 60 then some (Ex.normal,St.mk [(5,(vI (IntKind.i64.wrap ((↑n:Int)+1)))),(4,(vS out)),(0,(vS
 s))] []) else some (Ex.exit (3:Nat),St.mk [(5,(vI (↑n:Int))),(4,(vS out)),(0,(vS s))] []) else some (Ex.exit (3:Nat),St.mk [(5,(vI (↑n:Int))),(4,(vS
 out)),(0,(vS s))] []) else some (Ex.exit (3:Nat),St.mk [(5,(vI (↑n:Int))),(4,(vS out)),(0,(vS s))] []):=(execR_bind _ _ _).symm.trans (by kernel_rfl)

theorem lpPli_ok (s:ByteArray) (out:ByteArray) (n:Nat) (hp:prlPli s out n=true) : ∀ex s',(outPli s out n).val=some (ex,s')→LoopOK enPln (loopN Tryz.f125 1) (stPli s out n) ex s':=by
 simp only[prlPli,Bool.and_eq_true,decide_eq_true_eq]at hp
 obtain⟨h1,h2⟩:=hp
 refine loop_gen (st:=fun b:Nat=>stPli s out b) (out:=fun b=>outPli s out b) (I:=fun b=>b≤4294967290) (n:=([5,4,0],[])) (e:=([5,4,0],[])) (r:=([],[])) (fun b=>s.size - b) ?_ n h2
 ·intro n i1
  have w1:IntKind.i64.wrap ((n:Int)+1)=((n+1:Nat):Int):=by rw[wrap_id (by omega) (by omega)];rfl
  by_cases hk:n<s.size
  ·obtain⟨y,hy⟩ : ∃y,(F.bs s)[n]? = some y:=⟨_,List.getElem?_eq_getElem (by rw[F.bs_len];exact hk)⟩
   have hd:=drop_q hy
   cases hc:(y==38||y==60)
   ·right
    refine⟨n+1,?_,rfl,by omega,by omega,?_⟩
    ·rw[evPliL]
     rw[F.bs_get,hy]
     simp only[Bool.or_eq_false_iff]at hc
     simp only[Option.bind_some,cond_true,cast_lt hk,F.eq38,F.eq60,hc.1,hc.2,w1,bne]
     try rfl
    ·have e1:n+(F.runN ((F.bs s).drop (n+1))+1)=n+1+F.runN ((F.bs s).drop (n+1)):=by omega
     simp only[outPli,hd,F.runN,hc,cond_false,e1]
   ·left
    refine⟨(.exit 3,⟨[(5,vI n),(4,vS out),(0,vS s)],[]⟩),?_,?_,by simp,rfl⟩
    ·rw[evPliL]
     rw[F.bs_get,hy]
     simp only[Option.bind_some,cond_true,cast_lt hk,F.eq38,F.eq60,bne]
     cases h1:y==38
     ·rw[h1,Bool.false_or]at hc
      rw[hc];rfl
     ·rfl
    ·simp only[outPli,hd,F.runN,hc,cond_true,Nat.add_zero]
     rfl
  ·left
   have hd:(F.bs s).drop n=[]:=List.drop_eq_nil_of_le (by rw[F.bs_len];omega)
   refine⟨(.exit 3,⟨[(5,vI n),(4,vS out),(0,vS s)],[]⟩),?_,?_,by simp,rfl⟩
   ·rw[evPliL]
    simp only[cond_false,decide_eq_false (show ¬(n:Int)<(s.size:Int) by omega)]
    try rfl
   ·simp only[outPli,hd,F.runN,Nat.add_zero]
    rfl

theorem plx (s out:ByteArray) : ∀k f,s.size=f+1→1≤k→F.plB f (s.extract k s.size) out=F.plB (s.extract k s.size).size (s.extract k s.size) out:=fun k f h hk=>by
 have:=F.ext_sz s k
 exact F.plB_fuel _ _ _ _ (by omega) (Nat.le_refl _)

theorem evPlnL (s:ByteArray) (out:ByteArray):((exec enPln (loopN Tryz.f125 0) (stPln s out)).bind (lessX ([4,0],[]) ([4],[]) ([3,2],[]))).val =
 (fun(q:Option (Ex×St))=>bif !ByteArray.toList s==ByteArray.toList (ByteArray.mk (Array.mk [])) then Option.bind (unenc encHsP [(vS s),(vS (ByteArray.mk (Array.mk
 [(38:UInt8),(97:UInt8),(109:UInt8),(112:UInt8),(59:UInt8)])))]) fun z=>bif F.hasP z.1 z.2 then bif Nat.ble (ByteArray.size
 out+ByteArray.size (ByteArray.mk (Array.mk [(38:UInt8)]))) 9223372036854775807 then bif Nat.ble (5:Nat) (ByteArray.size s)&&Nat.ble (ByteArray.size s)
 (ByteArray.size s) then some (Ex.normal,St.mk [(4,(vS (out++ByteArray.mk (Array.mk [(38:UInt8)])))),(0,(vS (ByteArray.extract s (5:Nat) (ByteArray.size s))))]
 []) else none else none else Option.bind (unenc encHsP [(vS s),(vS ⟨⟨[38,108,116,59]⟩⟩)]) fun(z :
 ByteArray×ByteArray)=>bif F.hasP z.1 z.2 then bif Nat.ble (ByteArray.size out+ByteArray.size (ByteArray.mk (Array.mk [(60:UInt8)]))) 9223372036854775807 then bif Nat.ble (4:Nat) (ByteArray.size s)&&Nat.ble (ByteArray.size s) (ByteArray.size s) then some (Ex.normal,St.mk [(4,(vS (out++ByteArray.mk (Array.mk
 [(60:UInt8)])))),(0,(vS (ByteArray.extract s (4:Nat) (ByteArray.size s))))] []) else none else none else Option.bind s[(0:Nat)]? fun z=>bif
 !(↑(UInt8.toNat z):Int)==38 then Option.bind s[(0:Nat)]? fun z=>bif (↑(UInt8.toNat z):Int)==60 then q else Option.bind (unenc stPli1
 (St.mk [(5,(vI 1)),(4,(vS out)),(0,(vS s))] [])) fun z=>(fun(q:Nat)=>(fun(q_1:ByteArray)=>(fun(q_2:Bool)=>bif
 decide (ByteArray.size z.1≤4294967280)&&decide (z.2.2≤4294967290)&&true then bif Nat.ble (0:Nat) q&&q_2 then bif Nat.ble (ByteArray.size
 z.2.1+ByteArray.size q_1) 9223372036854775807 then bif q_2&&Nat.ble (ByteArray.size z.1) (ByteArray.size z.1) then some (Ex.normal,St.mk [(4,(vS
 (z.2.1++q_1))),(0,(vS (ByteArray.extract z.1 q (ByteArray.size z.1))))] []) else none else none else none else none) (Nat.ble q (ByteArray.size z.1)))
 (ByteArray.extract z.1 (0:Nat) q)) (z.2.2+F.runN (List.drop z.2.2 (F.bs z.1))) else q else some (Ex.exit (0:Nat),St.mk [(4,(vS out))] [])) (some
 (Ex.ret,St.mk [(3,(vB false)),(2,(vS ⟨⟨[]⟩⟩))] [])):=(execR_bind _ _ _).symm.trans (by kernel_rfl)

theorem lpPln_ok (s:ByteArray) (out:ByteArray) (hp:prlPln s out=true) : ∀ex s',(outPln s out).val=some (ex,s')→LoopOK enPln (loopN Tryz.f125 0) (stPln s out) ex s':=by
 simp only[prlPln,decide_eq_true_eq]at hp
 refine loop_gen (st:=fun b:ByteArray×ByteArray=>stPln b.1 b.2) (out:=fun b=>outPln b.1 b.2) (I:=fun b=>b.1.size+b.2.size≤4294967280) (n:=([4,0],[])) (e:=([4],[])) (r:=([3,2],[])) (fun b=>b.1.size) ?_ (s,out) hp
 rintro⟨s,out⟩ i1
 simp only at i1
 have ey:(s.toList==(⟨⟨[]⟩⟩:ByteArray).toList)=F.emp s:=rfl
 have ea:(⟨⟨[38,97,109,112,59]⟩⟩:ByteArray)=F.amp5:=rfl
 have el:(⟨⟨[38,108,116,59]⟩⟩:ByteArray)=F.lt4:=rfl
 have eA:(⟨⟨[38]⟩⟩:ByteArray)=F.ampB:=rfl
 have eL:(⟨⟨[60]⟩⟩:ByteArray)=F.ltB:=rfl
 cases he:F.emp s
 case true=>
  left
  have hz:s.size=0:=by rw[F.emp_size]at he;exact of_decide_eq_true he
  refine⟨(.exit 0,⟨[(4,vS out)],[]⟩),?_,?_,by simp,rfl⟩
  ·rw[evPlnL]
   simp only[unHsP,unstPli0,Option.bind_some,Bool.and_true,ey,he]
   try rfl
  ·simp only[outPln,hz,F.plB]
   rfl
 have hz:s.size≠0:=by rw[F.emp_size]at he;exact of_decide_eq_false he
 obtain⟨f,hf⟩ : ∃f,s.size=f+1:=⟨s.size - 1,by omega⟩
 have o1 : ∀k o,1≤k→F.plB f (s.extract k s.size) o=F.plB (s.extract k s.size).size (s.extract k s.size) o:=fun k o hk=>plx s o k f hf hk
 cases h5:F.hasP s F.amp5
 case true=>
  right
  have hl:=F.hasP_le h5
  have hl:5≤s.size:=hl
  have e5:=F.ext_sz s 5
  have eo:(out++F.ampB).size=out.size+1:=by rw[ByteArray.size_append];rfl
  refine⟨(s.extract 5 s.size,out++F.ampB),?_,rfl,by simp only;omega,by simp only;omega,?_⟩
  ·rw[evPlnL]
   simp only[unHsP,unstPli0,Option.bind_some,cond_true,Bool.and_true,ey,he,ea,el,eA,eL,h5,Bool.not_false]
   rw[ble_t (show out.size+F.ampB.size≤9223372036854775807 by have:F.ampB.size=1:=rfl;omega),ble_t hl,ble_t (Nat.le_refl _)]
   rfl
  ·simp only[outPln,hf,F.plB,he,h5,cond_true,cond_false]
   rw[←hf,o1 5 _ (by omega)]
 cases h4:F.hasP s F.lt4
 case true=>
  right
  have hl:=F.hasP_le h4
  have hl:4≤s.size:=hl
  have e5:=F.ext_sz s 4
  have eo:(out++F.ltB).size=out.size+1:=by rw[ByteArray.size_append];rfl
  refine⟨(s.extract 4 s.size,out++F.ltB),?_,rfl,by simp only;omega,by simp only;omega,?_⟩
  ·rw[evPlnL]
   simp only[unHsP,unstPli0,Option.bind_some,cond_true,cond_false,Bool.and_true,ey,he,ea,el,eA,eL,h5,h4,Bool.not_false]
   rw[ble_t (show out.size+F.ltB.size≤9223372036854775807 by have:F.ltB.size=1:=rfl;omega),ble_t hl,ble_t (Nat.le_refl _)]
   rfl
  ·simp only[outPln,hf,F.plB,he,h5,h4,cond_true,cond_false]
   rw[←hf,o1 4 _ (by omega)]
 obtain⟨b,r,hs⟩ : ∃b r,F.bs s=b::r:=by
  cases h:F.bs s with
  | nil=>have:=F.bs_len s;rw[h]at this;simp at this;omega
  | cons b r=>exact⟨b,r,rfl⟩
 have h0:(F.bs s)[0]? = some b:=by rw[hs];rfl
 have hsg:F.sgn s=(b==38||b==60):=by unfold F.sgn;rw[h0]
 cases hg:F.sgn s
 case true=>
  left
  rw[hg]at hsg
  refine⟨(.ret,⟨[(3,vB false),(2,vS ⟨⟨[]⟩⟩)],[]⟩),?_,?_,by simp,rfl⟩
  ·rw[evPlnL]
   rw[F.bs_get,h0]
   simp only[unHsP,unstPli0,Option.bind_some,cond_true,cond_false,Bool.and_true,ey,he,ea,el,eA,eL,h5,h4,F.eq38,F.eq60,Bool.not_false]
   cases h1:b==38
   ·rw[h1,Bool.false_or]at hsg
    rw[←hsg];rfl
   ·rfl
  ·simp only[outPln,hf,F.plB,he,h5,h4,hg,cond_true,cond_false]
   rfl
 right
 rw[hg]at hsg
 have hrl:=F.runN_le ((F.bs s).drop 1)
 rw[List.length_drop,F.bs_len]at hrl
 obtain⟨n,hn⟩ : ∃n,1+F.runN ((F.bs s).drop 1)=n:=⟨_,rfl⟩
 have hmem : ∀x∈(F.bs s).take n,x≠38∧x≠60:=by
  intro x hx
  rw[←hn,Nat.add_comm,hs,List.take_succ_cons,List.mem_cons]at hx
  rcases hx with rfl | hx
  ·have:=hsg.symm;simp only[Bool.or_eq_false_iff,beq_eq_false_iff_ne]at this;exact this
  ·exact F.runN_mem r x hx
 have en:=F.ext_sz s n
 have e0:(s.extract 0 n).size=n:=by rw[ByteArray.size_extract];omega
 have eo:(out++s.extract 0 n).size=out.size+n:=by rw[ByteArray.size_append,e0]
 have hrun:=F.plB_run n s out s.size (by omega) hmem (Nat.le_refl _)
 refine⟨(s.extract n s.size,out++s.extract 0 n),?_,rfl,by simp only;omega,by simp only;omega,?_⟩
 ·rw[evPlnL]
  rw[F.bs_get,h0]
  have g1:(b==38)=false:=by cases h1:b==38;rfl;rw[h1]at hsg;cases hsg
  have g2:(b==60)=false:=by cases h1:b==60;rfl;rw[h1,Bool.or_true]at hsg;cases hsg
  simp only[unHsP,unstPli0,Option.bind_some,cond_true,cond_false,Bool.and_true,ey,he,ea,el,eA,eL,h5,h4,F.eq38,F.eq60,hn,g1,g2,Bool.not_false]
  rw[decide_eq_true (show s.size≤4294967280 by omega),ble_t (Nat.zero_le n),ble_t (show n≤s.size by omega),ble_t (show out.size+(s.extract 0 n).size≤9223372036854775807 by omega),ble_t (Nat.le_refl s.size)]
  rfl
 ·have:=F.plB_fuel s.size (s.extract n s.size).size (s.extract n s.size) (out++s.extract 0 n) (by omega) (Nat.le_refl _)
  simp only[outPln]
  rw[hrun,this]

theorem evPln (s:ByteArray):(runF enPln false Tryz.f125 [vS s]).val =
 Option.bind (unenc stPln1 (St.mk [(4,(vS ⟨⟨[]⟩⟩)),(0,(vS s))] [])) fun z=>bif decide (ByteArray.size z.1 +
 ByteArray.size z.2≤4294967280)&&true then bif F.found (F.plB (ByteArray.size z.1) z.1 z.2) then some (AV.tup [(vS (F.got (F.plB (ByteArray.size z.1)
 z.1 z.2) (ByteArray.mk (Array.mk [])))),(vB true)],[]) else some (AV.tup [(vS ⟨⟨[]⟩⟩),(vB false)],[]) else none:=(runFR_val).symm.trans (by kernel_rfl)

def encPln1 (s:ByteArray):List AV:=[vS s]

def encPln (a:ByteArray):List AV:=encPln1 a

theorem encPln_inj (a a':ByteArray) (h:encPln a=encPln a'):a=a':=by
 simp only[encPln,encPln1]at h
 try simp[]at h
 grind

theorem unPln (s:ByteArray):unenc encPln ([(vS s)])=some (s):=unenc_of encPln_inj (s) rfl

def resPln1 (s:ByteArray):AV×Heap:=(.tup [vS (F.plV s),vB (F.plG s)],[])

def prePln1 (s:ByteArray):Bool:=F.small s

noncomputable def oPln:Orc:=orc 125 true encPln (fun a=>prePln1 a) fun a=>resPln1 a

theorem okPln:OrcOK Tryz.prog noG oPln:=by
 refine mk_ok Tryz.f125 (keep:=false) (by kernel_rfl) (by kernel_rfl) enPln_ok mixed (two_loops (x0:=loopN Tryz.f125 0) (x1:=loopN Tryz.f125 1) (by kernel_rfl) (lpo_ok ?_) (lpo_ok ?_)) (by first | exact fun _ _=>⟨rfl,rfl⟩ | (intro h;cases h)) ?_
 ·rintro⟨s,out⟩ hp
  exact lpPln_ok s out hp
 ·rintro⟨s,out,n⟩ hp
  exact lpPli_ok s out n hp
 rintro s hpre hok
 show(runF enPln false _ (encPln1 _)).val=some (resPln1 _)
 unfold encPln1 resPln1
 rw[evPln]
 simp only[prePln1,F.small,decide_eq_true_eq]at hpre
 have e0:s.size+(⟨⟨[]⟩⟩:ByteArray).size≤4294967280:=hpre
 have er:F.plB s.size s ⟨⟨[]⟩⟩=F.plR s:=rfl
 simp only[unstPln,Option.bind_some,cond_true,Bool.and_true,F.plV,F.plG,decide_eq_true e0,er]
 cases F.plR s<;>rfl

end M

namespace F

theorem plB_size : ∀(f:Nat) (s out o:ByteArray),plB f s out=some o→o.size≤out.size+s.size
 | 0,s,out,o,h=>by
  rw[plB]at h;cases h;omega
 | f+1,s,out,o,h=>by
  rw[plB]at h
  cases he:emp s
  ·rw[he]at h
   have hz:s.size≠0:=by rw[emp_size]at he;exact of_decide_eq_false he
   simp only[cond_false]at h
   cases h5:hasP s amp5
   ·rw[h5]at h
    simp only[cond_false]at h
    cases h4:hasP s lt4
    ·rw[h4]at h
     simp only[cond_false]at h
     cases hg:sgn s
     ·rw[hg]at h
      have:=plB_size f _ _ _ h
      have e1:=ext_sz s 1
      have e2:(out++s.extract 0 1).size=out.size+1:=by rw[ByteArray.size_append,ByteArray.size_extract];omega
      omega
     ·rw[hg]at h;cases h
    ·rw[h4]at h
     have:=plB_size f _ _ _ h
     have hl:4≤s.size:=hasP_le h4
     have e1:=ext_sz s 4
     have e2:(out++ltB).size=out.size+1:=by rw[ByteArray.size_append];rfl
     omega
   ·rw[h5]at h
    have:=plB_size f _ _ _ h
    have hl:5≤s.size:=hasP_le h5
    have e1:=ext_sz s 5
    have e2:(out++ampB).size=out.size+1:=by rw[ByteArray.size_append];rfl
    omega
  ·rw[he]at h;cases h;omega

theorem plV_size (s:ByteArray):(plV s).size≤s.size:=by
 unfold plV got
 cases h:plR s with
 | none=>exact Nat.zero_le _
 | some o=>
  have:=plB_size _ _ _ _ h
  have e:(⟨⟨[]⟩⟩:ByteArray).size=0:=rfl
  simp only[Option.getD_some];omega

def lineB:ByteArray:=⟨⟨[32,108,105,110,101,58]⟩⟩

def befB:ByteArray:=⟨⟨[32,98,101,102,111,114,101]⟩⟩

def aftB:ByteArray:=⟨⟨[32,97,102,116,101,114]⟩⟩

def spB:ByteArray:=⟨⟨[32]⟩⟩

def zer (s:ByteArray):Bool:=match (bs s)[0]? with
 | some b=>((b.toNat:Int)==48)
 | none=>false

def numOk (s:ByteArray):Bool:=isNum s && !zer s

def rstP (t:ByteArray):ByteArray:=bif cutF t spB then spB++cutT t spB else cutT t spB

def mk1 (s:ByteArray):Bool:= !(cutP s lineB).2||numOk (cutH (cutP s lineB).1 spB)

def mkR (s:ByteArray):Int:=bif (cutP s lineB).2 then ato (cutH (cutP s lineB).1 spB) else 0

def mkS (s:ByteArray):ByteArray:=bif (cutP s lineB).2 then rstP (cutP s lineB).1 else s

def mkRow (s:ByteArray):Int:=bif mk1 s then mkR s else 0

def mkBef (s:ByteArray):Bool:=mk1 s&&(cutP (mkS s) befB).2

def mkAft (s:ByteArray):Bool:=mk1 s&&(cutP (cutP (mkS s) befB).1 aftB).2

def mkOk (s:ByteArray):Bool:=mk1 s&&emp (cutP (cutP (mkS s) befB).1 aftB).1

end F

namespace M

noncomputable def enStg:Env:=envH ty noG lks [oCuPo,oCut,oDig,oAto] [] [] []

theorem enStg_ok:EnvOK Tryz.prog enStg:=by
 refine envH_ok lks_ok ty_ok ?_ ?_
 ·simp only[List.forall_mem_cons]
  exact⟨okCuPo,okCut,okDig,okAto,by simp⟩
 ·simp

theorem evStg (s:ByteArray) (fr:Int) (tt:Int):(runH enStg [] Tryz.f123 [vS s, .ptr 900 0 0] [(900,⟨true,0,0,[[vI fr,vI tt, .e0,vI 0,vB false,vB false]]⟩)]).val =
 (fun(q:List AV)=>(fun(q_1:List AV)=>(fun(q_2:Option (AV×Heap×List Nat))=>Option.bind (unenc encCuPo [(vS s),(vS ⟨⟨[32,
 108,105,110,101,58]⟩⟩)]) fun z=>bif F.small z.1&&decide (ByteArray.size z.2≤100) then bif (F.cutP z.1 z.2).snd then Option.bind (unenc encCut [(vS (F.cutP z.1 z.2).fst),(vS ⟨⟨[32]⟩⟩)]) fun z=>bif decide (ByteArray.size z.1≤4294967280) then Option.bind (unenc encDig [(vS (F.cutH z.1 z.2))]) fun z_1=>bif F.small z_1
 then bif !!F.isNum z_1 then Option.bind (F.cutH z.1 z.2)[(0:Nat)]? fun z_2=>bif (↑(UInt8.toNat z_2):Int)==48 then q_2 else Option.bind (unenc
 encAto [(vS (F.cutH z.1 z.2))]) fun z_3=>bif F.isNum z_3 then bif F.cutF z.1 z.2 then bif Nat.ble (ByteArray.size (ByteArray.mk (Array.mk [(32 :
 UInt8)]))+ByteArray.size (F.cutT z.1 z.2)) 9223372036854775807 then Option.bind (unenc encCuPo ((vS (ByteArray.mk (Array.mk [(32:UInt8)])++F.cutT z.1
 z.2))::q_1)) fun z=>bif F.small z.1&&decide (ByteArray.size z.2≤100) then Option.bind (unenc encCuPo ((vS (F.cutP z.1
 z.2).fst)::q)) fun z_4=>bif F.small z_4.1&&decide (ByteArray.size z_4.2≤100) then some ((vB (ByteArray.toList (F.cutP
 z_4.1 z_4.2).fst==ByteArray.toList (ByteArray.mk (Array.mk [])))),[(900,Blk.mk true 0 0 [[(vI fr),(vI tt),AV.e0,(vI (F.ato z_3)),(vB (F.cutP z.1 z.2).snd),
 (vB (F.cutP z_4.1 z_4.2).snd)]])],[]) else none else none else none else Option.bind (unenc encCuPo ((vS (F.cutT z.1 z.2))::q_1)) fun z=>bif F.small z.1&&decide (ByteArray.size z.2≤100) then Option.bind (unenc encCuPo ((vS (F.cutP z.1 z.2).fst)::q)) fun z_4=>bif F.small z_4.1&&decide (ByteArray.size z_4.2≤100) then some ((vB (ByteArray.toList (F.cutP z_4.1 z_4.2).fst==ByteArray.toList
 (ByteArray.mk (Array.mk [])))),[(900,Blk.mk true 0 0 [[(vI fr),(vI tt),AV.e0,(vI (F.ato z_3)),(vB (F.cutP z.1 z.2).snd),(vB (F.cutP z_4.1 z_4.2).snd)]])],
 []) else none else none else none else q_2 else none else none else Option.bind (unenc encCuPo ((vS s)::q_1)) fun z=>bif F.small z.1 &&
 decide (ByteArray.size z.2≤100) then Option.bind (unenc encCuPo ((vS (F.cutP z.1 z.2).fst)::q)) fun z_1=>bif F.small z_1.1
 && decide (ByteArray.size z_1.2≤100) then some ((vB (ByteArray.toList (F.cutP z_1.1 z_1.2).fst==ByteArray.toList (ByteArray.mk (Array.mk [])))),[(900,
 Blk.mk true 0 0 [[(vI fr),(vI tt),AV.e0,(vI 0),(vB (F.cutP z.1 z.2).snd),(vB (F.cutP z_1.1 z_1.2).snd)]])],[]) else none else none else none) (some
 ((vB false),[(900,Blk.mk true 0 0 [[(vI fr),(vI tt),AV.e0,(vI 0),(vB false),(vB false)]])],[]))) [(vS ⟨⟨[32,98,
 101,102,111,114,101]⟩⟩)]) [(vS ⟨⟨[32,97,102,116,
 101,114]⟩⟩)]:=(runHR_val).symm.trans (by kernel_rfl)

def encStg1 (s:ByteArray) (fr:Int) (tt:Int):List AV×Heap:=([vS s, .ptr 900 0 0],[(900,⟨true,0,0,[[vI fr,vI tt, .e0,vI 0,vB false,vB false]]⟩)])

def encStg (a:ByteArray×Int×Int):List AV×Heap:=encStg1 a.1 a.2.1 a.2.2

theorem encStg_inj (a a':ByteArray×Int×Int) (h:encStg a=encStg a'):a=a':=by
 simp only[encStg,encStg1]at h
 try simp[]at h
 grind

theorem unStg (s:ByteArray) (fr:Int) (tt:Int):unenc encStg (([(vS s), .ptr 900 0 0],[(900,Blk.mk true 0 0 [[(vI fr),(vI tt),AV.e0,(vI (0:Int)),(vB false),(vB false)]])]))=some (s,fr,tt):=unenc_of encStg_inj (s,fr,tt) rfl

def resStg1 (s:ByteArray) (fr:Int) (tt:Int):AV×Heap×List Nat:=(vB (F.mkOk s),[(900,⟨true,0,0,[[vI fr,vI tt, .e0,vI (F.mkRow s),vB (F.mkBef s),vB (F.mkAft s)]]⟩)],[])

def preStg1 (s:ByteArray) (fr:Int) (tt:Int):Bool:=F.small s

noncomputable def oStg:OrcH:=orcH 123 encStg (fun a=>preStg1 a.1 a.2.1 a.2.2) fun a=>resStg1 a.1 a.2.1 a.2.2

theorem okStg:OrcHOK Tryz.prog noG oStg:=by
 refine mkH_ok (mv:=[]) Tryz.f123 (by kernel_rfl) (by kernel_rfl) enStg_ok mixed (no_loops (by kernel_rfl)) ?_
 rintro⟨s,fr,tt⟩ hpre hok hokh
 show(runH enStg [] _ (encStg1 _ _ _).1 (encStg1 _ _ _).2).val=some (resStg1 _ _ _)
 unfold encStg1 resStg1
 rw[evStg]
 simp only[preStg1,F.small,decide_eq_true_eq]at hpre
 have eL:(⟨⟨[32,108,105,110,101,58]⟩⟩:ByteArray)=F.lineB:=rfl
 have eB:(⟨⟨[32,98,101,102,111,114,101]⟩⟩:ByteArray)=F.befB:=rfl
 have eA:(⟨⟨[32,97,102,116,101,114]⟩⟩:ByteArray)=F.aftB:=rfl
 have eS:(⟨⟨[32]⟩⟩:ByteArray)=F.spB:=rfl
 have ey : ∀y:ByteArray,(y.toList==(⟨⟨[]⟩⟩:ByteArray).toList)=F.emp y:=fun _=>rfl
 have d1:decide (F.lineB.size≤100)=true:=rfl
 have d2:decide (F.befB.size≤100)=true:=rfl
 have d3:decide (F.aftB.size≤100)=true:=rfl
 have s1:F.small s=true:=decide_eq_true hpre
 have hb : ∀y:ByteArray,y.size≤4294967280→F.small y=true∧F.small (F.cutP y F.befB).1=true:=fun y hy=>
  ⟨decide_eq_true hy,F.small_le (F.cutP_size y F.befB) hy⟩
 have ht:=F.cutP_size s F.lineB
 simp only[unCuPo,unCut,unDig,unAto,Option.bind_some,cond_true,Bool.and_true,eL,eB,eA,eS,ey,d1,d2,d3,s1,F.mkOk,F.mkRow,F.mkBef,F.mkAft,F.mk1,F.mkR,F.mkS,F.numOk,F.rstP]
 cases hc:(F.cutP s F.lineB).2
 ·obtain⟨b1,b2⟩:=hb s hpre
  simp only[b2,cond_true,cond_false,Bool.not_false,Bool.true_or,Bool.true_and]
 have hlt:(F.cutP s F.lineB).1.size+6≤s.size:=by
  unfold F.cutP at hc ⊢
  cases h:F.hasP s F.lineB
  ·rw[h]at hc;cases hc
  ·have:=F.hasP_le h
   have h6:F.lineB.size=6:=rfl
   have:=F.ext_sz s 6
   rw[h6]
   simp only[cond_true];omega
 generalize (F.cutP s F.lineB).1=u at hlt ht ⊢
 have h1:=F.cutH_size u F.spB
 have h2:=F.cutT_size u F.spB
 have hs:(F.spB++F.cutT u F.spB).size=1+(F.cutT u F.spB).size:=by rw[ByteArray.size_append];rfl
 have k1:decide (u.size≤4294967280)=true:=decide_eq_true (by omega)
 have k2:F.small (F.cutH u F.spB)=true:=F.small_le h1 (by omega)
 have k3:Nat.ble (F.spB.size+(F.cutT u F.spB).size) 9223372036854775807=true:=ble_t (by have:F.spB.size=1:=rfl;omega)
 obtain⟨b1,b2⟩:=hb (F.spB++F.cutT u F.spB) (by omega)
 obtain⟨b3,b4⟩:=hb (F.cutT u F.spB) (by omega)
 simp only[k1,k2,k3,b1,b2,b3,b4,cond_true,Bool.not_true,Bool.false_or]
 cases hn:F.isNum (F.cutH u F.spB)
 ·simp only[Bool.not_true,Bool.not_false,cond_false,Bool.false_and]
 obtain⟨b,hb0⟩ : ∃b,(F.bs (F.cutH u F.spB))[0]? = some b:=by
  have:1≤(F.cutH u F.spB).size:=by
   unfold F.isNum at hn
   simp only[Bool.and_eq_true,decide_eq_true_eq]at hn
   exact hn.1.2
  exact⟨_,List.getElem?_eq_getElem (by rw[F.bs_len];omega)⟩
 have hz:F.zer (F.cutH u F.spB)=((b.toNat:Int)==48):=by unfold F.zer;rw[hb0]
 rw[F.bs_get,hb0,hz]
 simp only[Option.bind_some,Bool.not_true,Bool.not_false,cond_true,Bool.true_and]
 cases((b.toNat:Int)==48)
 ·cases F.cutF u F.spB<;>rfl
 ·rfl

end M

namespace F

end F

namespace M

end M

def F.plOk (x:ByteArray):Bool:=F.plG x&&F.line (F.plV x)

def F.bdP:List ByteArray→List ByteArray→Nat→Bool×List ByteArray×Nat
 | [],acc,a=>bif acc.isEmpty then (false,acc,a+1) else (true,acc,a)
 | x::r,acc,a=>bif F.emp x && !acc.isEmpty then (true,acc,a) else bif F.plOk x then F.bdP r (acc++[F.plV x]) (a+1) else (false,acc,a+1)

def F.isEp (l:List ByteArray):Bool:=l.isEmpty

namespace M

def oCp (ls:List ByteArray):AV:=match ls with
 | []=> .e0
 | _::_=> .own 69

def oBp (ls:List ByteArray):Heap:=match ls with
 | []=>[]
 | _::_=>[(69,⟨false,9,1,ls.map eStr⟩)]

def stBp (L:List ByteArray) (fr:Int) (tt:Int) (ro:Int) (be:Bool) (af:Bool) (a:Nat):St:=⟨[(2, .fn 125 []),(1, .ptr 901 0 0),(0, .ptr 900 0 0)],[(901,⟨true,0,0,[[vI fr,vI tt, .e0,vI ro,vB be,vB af]]⟩),(900,⟨true,0,0,[[.sl (L.map eStr),vI a]]⟩)]⟩

def stBp1 (a:(List ByteArray)×Int×Int×Int×Bool×Bool×Nat):St:=stBp a.1 a.2.1 a.2.2.1 a.2.2.2.1 a.2.2.2.2.1 a.2.2.2.2.2.1 a.2.2.2.2.2.2

theorem stBp_inj (a a':(List ByteArray)×Int×Int×Int×Bool×Bool×Nat) (h:stBp1 a=stBp1 a'):a=a':=by
 simp only[stBp1,stBp]at h
 try simp[strs_inj]at h
 grind

theorem unstBp (L:List ByteArray) (fr:Int) (tt:Int) (ro:Int) (be:Bool) (af:Bool) (a:Nat):unenc stBp1 (St.mk [(2,AV.fn (125:FuncId) []),(1, .ptr 901 0 0),(0, .ptr 900 0 0)] [(901,Blk.mk true 0 0 [[(vI fr),(vI tt),AV.e0,(vI ro),(vB be),(vB af)]]),(900,Blk.mk
 true 0 0 [[AV.sl (List.map eStr L),(vI (↑a:Int))]])])=some (L,fr,tt,ro,be,af,a):=unenc_of stBp_inj (L,fr,tt,ro,be,af,a) rfl

def outBp (L : List ByteArray) (fr : Int) (tt : Int) (ro : Int) (be : Bool) (af : Bool) (a : Nat) : T (Ex × St) := .ifB (F.bdP (L.drop a) [] a).1
      (.ifB (decide ((F.bdP (L.drop a) [] a).2.2 < L.length))
        (.ret (.ret, ⟨[(6, vB true)], [(901, ⟨true, 0, 0, [[vI fr, vI tt, .own 69, vI ro, vB be, vB af]]⟩), (900, ⟨true, 0, 0, [[.sl (L.map eStr), vI (F.bdP (L.drop a) [] a).2.2]]⟩), (69, ⟨false, 9, 1, (F.bdP (L.drop a) [] a).2.1.map eStr⟩)]⟩))
        (.ret (.exit 0, ⟨[], [(901, ⟨true, 0, 0, [[vI fr, vI tt, .own 69, vI ro, vB be, vB af]]⟩), (900, ⟨true, 0, 0, [[.sl (L.map eStr), vI (F.bdP (L.drop a) [] a).2.2]]⟩), (69, ⟨false, 9, 1, (F.bdP (L.drop a) [] a).2.1.map eStr⟩)]⟩)))
      (.ifB (F.isEp (F.bdP (L.drop a) [] a).2.1)
        (.ret (.ret, ⟨[(6, vB false)], [(901, ⟨true, 0, 0, [[vI fr, vI tt, .e0, vI ro, vB be, vB af]]⟩), (900, ⟨true, 0, 0, [[.sl (L.map eStr), vI (F.bdP (L.drop a) [] a).2.2]]⟩)]⟩))
        (.ret (.ret, ⟨[(6, vB false)], [(901, ⟨true, 0, 0, [[vI fr, vI tt, .own 69, vI ro, vB be, vB af]]⟩), (900, ⟨true, 0, 0, [[.sl (L.map eStr), vI (F.bdP (L.drop a) [] a).2.2]]⟩), (69, ⟨false, 9, 1, (F.bdP (L.drop a) [] a).2.1.map eStr⟩)]⟩)))

noncomputable def prlBp (L:List ByteArray) (fr:Int) (tt:Int) (ro:Int) (be:Bool) (af:Bool) (a:Nat):Bool:=F.linesOk L&&decide (a≤200001)

noncomputable def lpBp:Nat×(St→T (Ex×St)):=(1,lpo [2,1,0] [901,900] stBp1 (fun a=>prlBp a.1 a.2.1 a.2.2.1 a.2.2.2.1 a.2.2.2.2.1 a.2.2.2.2.2.1 a.2.2.2.2.2.2) fun a=>outBp a.1 a.2.1 a.2.2.1 a.2.2.2.1 a.2.2.2.2.1 a.2.2.2.2.2.1 a.2.2.2.2.2.2)

def outPx (L : List ByteArray) (fr : Int) (tt : Int) (ro : Int) (be : Bool) (af : Bool) (ls : List ByteArray) (a : Nat) : T (Ex × St) := .ifB (F.bdP (L.drop a) ls a).1
      (.ifB (decide ((F.bdP (L.drop a) ls a).2.2 < L.length))
        (.ret (.ret, ⟨[(6, vB true)], [(901, ⟨true, 0, 0, [[vI fr, vI tt, .own 69, vI ro, vB be, vB af]]⟩), (900, ⟨true, 0, 0, [[.sl (L.map eStr), vI (F.bdP (L.drop a) ls a).2.2]]⟩), (69, ⟨false, 9, 1, (F.bdP (L.drop a) ls a).2.1.map eStr⟩)]⟩))
        (.ret (.exit 0, ⟨[], [(901, ⟨true, 0, 0, [[vI fr, vI tt, .own 69, vI ro, vB be, vB af]]⟩), (900, ⟨true, 0, 0, [[.sl (L.map eStr), vI (F.bdP (L.drop a) ls a).2.2]]⟩), (69, ⟨false, 9, 1, (F.bdP (L.drop a) ls a).2.1.map eStr⟩)]⟩)))
      (.ifB (F.isEp (F.bdP (L.drop a) ls a).2.1)
        (.ret (.ret, ⟨[(6, vB false)], [(901, ⟨true, 0, 0, [[vI fr, vI tt, .e0, vI ro, vB be, vB af]]⟩), (900, ⟨true, 0, 0, [[.sl (L.map eStr), vI (F.bdP (L.drop a) ls a).2.2]]⟩)]⟩))
        (.ret (.ret, ⟨[(6, vB false)], [(901, ⟨true, 0, 0, [[vI fr, vI tt, .own 69, vI ro, vB be, vB af]]⟩), (900, ⟨true, 0, 0, [[.sl (L.map eStr), vI (F.bdP (L.drop a) ls a).2.2]]⟩), (69, ⟨false, 9, 1, (F.bdP (L.drop a) ls a).2.1.map eStr⟩)]⟩)))

def stPx (L:List ByteArray) (fr:Int) (tt:Int) (ro:Int) (be:Bool) (af:Bool) (ls:List ByteArray) (a:Nat):St:=⟨[(2, .fn 125 []),(1, .ptr 901 0 0),(0, .ptr 900 0 0)],(901,⟨true,0,0,[[vI fr,vI tt,oCp ls,vI ro,vB be,vB af]]⟩)::(900,⟨true,0,0,[[.sl (L.map eStr),vI a]]⟩)::oBp ls⟩

noncomputable def enBp:Env:=envH ty noG lks [oMor,oPln,oLin] [oTak] [] [lpBp]

theorem enBp_ok:EnvOK Tryz.prog enBp:=by
 refine envH_ok lks_ok ty_ok ?_ ?_
 ·simp only[List.forall_mem_cons]
  exact⟨okMor,okPln,okLin,by simp⟩
 ·simp only[List.forall_mem_cons]
  exact⟨okTak,by simp⟩

def stPn (L:List ByteArray) (fr:Int) (tt:Int) (ro:Int) (be:Bool) (af:Bool) (a:Nat):St:=⟨[(2, .fn 125 []),(1, .ptr 901 0 0),(0, .ptr 900 0 0)],[(901,⟨true,0,0,[[vI fr,vI tt, .e0,vI ro,vB be,vB af]]⟩),(900,⟨true,0,0,[[.sl (L.map eStr),vI a]]⟩)]⟩

def stPs (L:List ByteArray) (fr:Int) (tt:Int) (ro:Int) (be:Bool) (af:Bool) (ls:List ByteArray) (a:Nat):St:=⟨[(2, .fn 125 []),(1, .ptr 901 0 0),(0, .ptr 900 0 0)],[(901,⟨true,0,0,[[vI fr,vI tt, .own 69,vI ro,vB be,vB af]]⟩),(900,⟨true,0,0,[[.sl (L.map eStr),vI a]]⟩),(69,⟨false,9,1,ls.map eStr⟩)]⟩

theorem evBpN (L:List ByteArray) (fr:Int) (tt:Int) (ro:Int) (be:Bool) (af:Bool) (a:Nat):((exec enBp (loopN Tryz.f124 0) (stPn L fr tt ro be af a)).bind (lessX ([2,1,0],[901,900,69]) ([],[901,900,69]) ([6],[901,900,69]))).val =
 (fun(q:List AV)=>(fun(q_1:Option (List ByteArray×Nat))=>(fun(q_2:Nat×Blk)=>(fun(q:Option (Ex×St))=>(fun(q:Option (Ex×St))=>Option.bind q_1
 fun z=>bif !F.tkB z.1 z.2 then q else q) (Option.bind q_1 fun z=>bif F.tkB z.1 z.2 then Option.bind (unenc
 (List.map eStr) (List.map eStr L)) fun z=>bif decide (a<List.length z) then bif ByteArray.toList (List.getD z a (ByteArray.mk (Array.mk []))) ==
 ByteArray.toList (ByteArray.mk (Array.mk [])) then q else q else none else q)) (Option.bind (unenc encTak ([.ptr 900 0 0],[(900,Blk.mk true 0 0 [[AV.sl (List.map eStr
 L),(vI (↑a:Int))]])])) fun z=>bif F.linesOk z.1&&decide (z.2≤200001) then bif !F.tkB z.1 z.2 then some (Ex.ret,St.mk
 [(6,(vB false))] [q_2,(900,Blk.mk true 0 0 [[AV.sl (List.map eStr z.1),(vI (↑(z.2+1):Int))]])]) else Option.bind (unenc encPln [(vS (F.tkS z.1
 z.2))]) fun z_1=>bif F.small z_1 then bif !!F.plG z_1 then Option.bind (unenc encLin [(vS (F.plV z_1))]) fun z_2=>bif F.small z_2 then
 bif !F.line z_2 then some (Ex.ret,St.mk [(6,(vB false))] [q_2,(900,Blk.mk true 0 0 [[AV.sl (List.map eStr z.1),(vI (↑(z.2+1):Int))]])]) else some
 (Ex.normal,St.mk [(2,AV.fn (125:FuncId) []),(1, .ptr 901 0 0),(0, .ptr 900 0 0)] [(901,Blk.mk true 0 0 [(vI fr)::(vI tt) :: .own 69::q]),(900,Blk.mk true 0 0
 [[AV.sl (List.map eStr z.1),(vI (↑(z.2+1):Int))]]),(69,Blk.mk false 9 1 [[(vS (F.plV z_1))]])]) else none else some (Ex.ret,St.mk [(6,(vB false))]
 [q_2,(900,Blk.mk true 0 0 [[AV.sl (List.map eStr z.1),(vI (↑(z.2+1):Int))]])]) else none else none)) (901,Blk.mk true 0 0 [(vI fr)::(vI tt)::AV.e0
 :: q])) (unenc encMor [AV.pel [AV.sl (List.map eStr L),(vI (↑a:Int))] (0:Nat)])) [(vI ro),(vB be),(vB af)]:=(execR_bind _ _ _).symm.trans (by kernel_rfl)

theorem evBpS (L:List ByteArray) (fr:Int) (tt:Int) (ro:Int) (be:Bool) (af:Bool) (ls:List ByteArray) (a:Nat):((exec enBp (loopN Tryz.f124 0) (stPs L fr tt ro be af ls a)).bind (lessX ([2,1,0],[901,900,69]) ([],[901,900,69]) ([6],[901,900,69]))).val =
 (fun(q:Int)=>(fun(q_1:List (Nat×Blk))=>(fun(q_2:Option (List ByteArray×Nat))=>(fun(q_3:Nat×Blk)=>(fun(q_4:Nat×Blk)=>(fun(q_5:List (Nat
 × Blk))=>(fun(q_6:Option (Ex×St))=>(fun(q_7:Option (Ex×St))=>Option.bind q_2 fun z=>bif !F.tkB z.1 z.2 then bif q==0 then q_7 else some (Ex.exit (0:Nat),St.mk [] q_5) else q_7) (Option.bind q_2 fun z=>bif F.tkB z.1 z.2 then Option.bind (unenc
 (List.map eStr) (List.map eStr L)) fun z=>bif decide (a<List.length z) then bif ByteArray.toList (List.getD z a (ByteArray.mk (Array.mk []))) ==
 ByteArray.toList (ByteArray.mk (Array.mk [])) then bif decide ((0:Int)<q) then some (Ex.ret,St.mk [(6,(vB true))] q_5) else q_6 else q_6 else none else q_6))
 (Option.bind (unenc encTak ([.ptr 900 0 0],[q_3])) fun z=>bif F.linesOk z.1&&decide (z.2≤200001) then bif !F.tkB z.1 z.2
 then some (Ex.ret,St.mk [(6,(vB false))] (q_4::(900,Blk.mk true 0 0 [[AV.sl (List.map eStr z.1),(vI (↑(z.2+1):Int))]])::q_1)) else Option.bind
 (unenc encPln [(vS (F.tkS z.1 z.2))]) fun z_1=>bif F.small z_1 then bif !!F.plG z_1 then Option.bind (unenc encLin [(vS (F.plV z_1))]) fun(z_2 :
 ByteArray)=>bif F.small z_2 then bif !F.line z_2 then some (Ex.ret,St.mk [(6,(vB false))] (q_4::(900,Blk.mk true 0 0 [[AV.sl (List.map eStr z.1),(vI (↑(z.2 +
 (1:Nat)):Int))]])::q_1)) else bif Nat.ble ((List.length (List.map eStr ls)+1)*16) 140737488355328&&true then some (Ex.normal,St.mk
 [(2,AV.fn (125:FuncId) []),(1, .ptr 901 0 0),(0, .ptr 900 0 0)] [q_4,(900,Blk.mk true 0 0 [[AV.sl (List.map eStr z.1),(vI (↑(z.2+1):Int))]]),(69,
 Blk.mk false 9 1 (List.map eStr ls++[[(vS (F.plV z_1))]]))]) else none else none else some (Ex.ret,St.mk [(6,(vB false))] (q_4::(900,Blk.mk true 0 0 [[AV.sl
 (List.map eStr z.1),(vI (↑(z.2+1):Int))]])::q_1)) else none else none)) (q_4::q_3::q_1)) (901,Blk.mk true 0 0 [[(vI fr),(vI tt), .own 69,(vI ro),
 (vB be),(vB af)]])) (900,Blk.mk true 0 0 [[AV.sl (List.map eStr L),(vI (↑a:Int))]])) (unenc encMor [AV.pel [AV.sl (List.map eStr L),(vI (↑a:Int))] (0:Nat)]))
 [(69,Blk.mk false 9 1 (List.map eStr ls))]) (↑(List.length (List.map eStr ls)):Int):=(execR_bind _ _ _).symm.trans (by kernel_rfl)

theorem oCp_snoc (ls:List ByteArray) (y:ByteArray):oCp (ls++[y]) = .own 69:=by cases ls<;>rfl

theorem oBp_snoc (ls:List ByteArray) (y:ByteArray):oBp (ls++[y])=[(69,⟨false,9,1,(ls++[y]).map eStr⟩)]:=by cases ls<;>rfl

theorem stPx_snoc (L:List ByteArray) (fr:Int) (tt:Int) (ro:Int) (be:Bool) (af:Bool) (ls:List ByteArray) (y:ByteArray) (a:Nat):stPx L fr tt ro be af (ls++[y]) a=stPs L fr tt ro be af (ls++[y]) a:=by
 unfold stPx stPs
 rw[oCp_snoc,oBp_snoc]

theorem lpBp_ok (L:List ByteArray) (fr:Int) (tt:Int) (ro:Int) (be:Bool) (af:Bool) (a:Nat) (hp:prlBp L fr tt ro be af a=true) : ∀ex s',(outBp L fr tt ro be af a).val=some (ex,s')→LoopOK enBp (loopN Tryz.f124 0) (stBp L fr tt ro be af a) ex s':=by
 simp only[prlBp,Bool.and_eq_true,decide_eq_true_eq]at hp
 obtain⟨h1,h2⟩:=hp
 have hL:L.length≤200001∧L.all F.small=true:=by simpa[F.linesOk]using h1
 refine loop_gen (st:=fun b:List ByteArray×Nat=>stPx L fr tt ro be af b.1 b.2) (out:=fun b=>outPx L fr tt ro be af b.1 b.2) (I:=fun b=>b.2≤200001∧b.1.length≤b.2) (n:=([2,1,0],[901,900,69])) (e:=([],[901,900,69])) (r:=([6],[901,900,69])) (fun b=>L.length+1 - b.2) ?_ ([],a) ⟨h2,Nat.zero_le _⟩
 rintro⟨ls,a⟩ ⟨i1,i2⟩
 simp only at i1 i2
 have h2:decide (a≤200001)=true:=decide_eq_true i1
 by_cases ha:a<L.length
 ·have hy:L[a]? = some L[a]:=List.getElem?_eq_getElem ha
  generalize L[a]=y at hy
  have hd:=drop_q hy
  have ht:F.tkB L a=true:=decide_eq_true ha
  have hS:F.tkS L a=y:=by unfold F.tkS;rw[ht,cond_true];exact getD_at hy
  have hys:F.small y=true:=List.all_eq_true.1 hL.2 y (List.mem_of_getElem? hy)
  have ey:(y.toList==(⟨⟨[]⟩⟩:ByteArray).toList)=F.emp y:=rfl
  have hps:F.small (F.plV y)=true:=F.small_le (F.plV_size y) (of_decide_eq_true hys)
  cases ls with
  | nil=>
   cases hl:F.plOk y
   ·left
    refine⟨(.ret,⟨[(6,vB false)],[(901,⟨true,0,0,[[vI fr,vI tt, .e0,vI ro,vB be,vB af]]⟩),(900,⟨true,0,0,[[.sl (L.map eStr),vI (a+1:Nat)]]⟩)]⟩),?_,?_,by simp,rfl⟩
    ·show((exec enBp (loopN Tryz.f124 0) (stPn L fr tt ro be af a)).bind _).val=_
     rw[evBpN]
     simp only[unMor,unPln,unLin,unTak,Option.bind_some,unStrs,cond_true,cond_false,ht,hS,h1,h2,hys,hps,decide_eq_true ha,getD_at hy,ey,Bool.not_true,Bool.and_self]
     cases hG:F.plG y
     ·simp only[Bool.not_false,Bool.not_true,cond_false]
      cases F.emp y<;>rfl
     ·have hl2:F.line (F.plV y)=false:=by simpa[F.plOk,hG]using hl
      simp only[hl2,Bool.not_false,Bool.not_true,cond_true]
      cases F.emp y<;>rfl
    ·simp only[outPx,F.isEp,hd,F.bdP,hl,List.isEmpty_nil,Bool.not_true,Bool.and_false,cond_false]
     rfl
   ·right
    refine⟨([F.plV y],a+1),?_,rfl,⟨by simp only;omega,by simp⟩,by simp only;omega,?_⟩
    ·show((exec enBp (loopN Tryz.f124 0) (stPn L fr tt ro be af a)).bind _).val=_
     rw[evBpN]
     have hG:F.plG y=true∧F.line (F.plV y)=true:=by simpa[F.plOk]using hl
     simp only[unMor,unPln,unLin,unTak,Option.bind_some,unStrs,cond_true,cond_false,ht,hS,h1,h2,hys,hps,hG.1,hG.2,decide_eq_true ha,getD_at hy,ey,Bool.not_true,Bool.not_false,Bool.and_self]
     cases F.emp y<;>rfl
    ·simp only[outPx,F.isEp,hd,F.bdP,hl,List.isEmpty_nil,Bool.not_true,Bool.and_false,cond_false,cond_true,List.nil_append]
  | cons x r=>
   cases he:F.emp y
   ·cases hl:F.plOk y
    ·left
     refine⟨(.ret,⟨[(6,vB false)],[(901,⟨true,0,0,[[vI fr,vI tt, .own 69,vI ro,vB be,vB af]]⟩),(900,⟨true,0,0,[[.sl (L.map eStr),vI (a+1:Nat)]]⟩),(69,⟨false,9,1,(x::r).map eStr⟩)]⟩),?_,?_,by simp,rfl⟩
     ·show((exec enBp (loopN Tryz.f124 0) (stPs L fr tt ro be af (x::r) a)).bind _).val=_
      rw[evBpS]
      simp only[unMor,unPln,unLin,unTak,Option.bind_some,List.length_map,unStrs,cond_true,cond_false,Bool.and_true,ht,hS,h1,h2,hys,hps,decide_eq_true ha,getD_at hy,ey,he,Bool.not_true,Bool.and_self]
      cases hG:F.plG y
      ·simp only[Bool.not_false,Bool.not_true,cond_false]
       try rfl
      ·have hl2:F.line (F.plV y)=false:=by simpa[F.plOk,hG]using hl
       simp only[hl2,Bool.not_false,Bool.not_true,cond_true]
       try rfl
     ·simp only[outPx,F.isEp,hd,F.bdP,he,hl,Bool.false_and,cond_false]
      rfl
    ·right
     refine⟨(x::r++[F.plV y],a+1),?_,by rw[stPx_snoc];rfl,⟨by simp only;omega,by simp at i2 ⊢;omega⟩,by simp only;omega,?_⟩
     ·show((exec enBp (loopN Tryz.f124 0) (stPs L fr tt ro be af (x::r) a)).bind _).val=some (_,stPx L fr tt ro be af (x::r++[F.plV y]) (a+1))
      rw[evBpS,stPx_snoc]
      have hG:F.plG y=true∧F.line (F.plV y)=true:=by simpa[F.plOk]using hl
      simp only[unMor,unPln,unLin,unTak,Option.bind_some,List.length_map,unStrs,cond_true,cond_false,Bool.and_true,ht,hS,h1,h2,hys,hps,hG.1,hG.2,decide_eq_true ha,getD_at hy,ey,he,Bool.not_true,Bool.not_false,Bool.and_self]
      have em:(x::r).map eStr++[[vS (F.plV y)]]=(x::r++[F.plV y]).map eStr:=by simp[eStr]
      have hlen:((x::r).length+1)*16≤140737488355328:=by omega
      rw[em,ble_t hlen]
      rfl
     ·simp only[outPx,F.isEp,hd,F.bdP,he,hl,Bool.false_and,cond_false,cond_true]
   ·left
    refine⟨(.ret,⟨[(6,vB true)],[(901,⟨true,0,0,[[vI fr,vI tt, .own 69,vI ro,vB be,vB af]]⟩),(900,⟨true,0,0,[[.sl (L.map eStr),vI a]]⟩),(69,⟨false,9,1,(x::r).map eStr⟩)]⟩),?_,?_,by simp,rfl⟩
    ·show((exec enBp (loopN Tryz.f124 0) (stPs L fr tt ro be af (x::r) a)).bind _).val=_
     rw[evBpS]
     simp only[unMor,unPln,unLin,unTak,Option.bind_some,List.length_map,unStrs,cond_true,cond_false,Bool.and_true,ht,hS,h1,h2,hys,decide_eq_true ha,getD_at hy,ey,he,Bool.not_true,Bool.and_self]
     rw[decide_eq_true (show(0:Int)<((x::r).length:Int) by simp)]
     rfl
    ·simp only[outPx,F.isEp,hd,F.bdP,he,List.isEmpty_cons,Bool.not_false,Bool.and_self,cond_true,decide_eq_true ha]
     rfl
 ·have ht:F.tkB L a=false:=decide_eq_false ha
  have hd:L.drop a=[]:=List.drop_eq_nil_of_le (by omega)
  cases ls with
  | nil=>
   left
   refine⟨(.ret,⟨[(6,vB false)],[(901,⟨true,0,0,[[vI fr,vI tt, .e0,vI ro,vB be,vB af]]⟩),(900,⟨true,0,0,[[.sl (L.map eStr),vI (a+1:Nat)]]⟩)]⟩),?_,?_,by simp,rfl⟩
   ·show((exec enBp (loopN Tryz.f124 0) (stPn L fr tt ro be af a)).bind _).val=_
    rw[evBpN]
    simp only[unMor,unPln,unLin,unTak,Option.bind_some,unStrs,cond_true,cond_false,ht,h1,h2,Bool.not_false,Bool.and_self]
    try rfl
   ·simp only[outPx,F.isEp,hd,F.bdP,List.isEmpty_nil,cond_true]
    rfl
  | cons x r=>
   left
   refine⟨(.exit 0,⟨[],[(901,⟨true,0,0,[[vI fr,vI tt, .own 69,vI ro,vB be,vB af]]⟩),(900,⟨true,0,0,[[.sl (L.map eStr),vI a]]⟩),(69,⟨false,9,1,(x::r).map eStr⟩)]⟩),?_,?_,by simp,rfl⟩
   ·show((exec enBp (loopN Tryz.f124 0) (stPs L fr tt ro be af (x::r) a)).bind _).val=_
    rw[evBpS]
    simp only[unMor,unPln,unLin,unTak,Option.bind_some,List.length_map,unStrs,cond_true,cond_false,Bool.and_true,ht,h1,h2,Bool.not_false,Bool.and_self]
    have e0:(((x::r).length:Int)==0)=false:=by rw[beq_eq_false_iff_ne];simp;omega
    rw[e0]
    rfl
   ·simp only[outPx,F.isEp,hd,F.bdP,List.isEmpty_cons,cond_false,decide_eq_false ha]
    rfl

theorem evBdp (L:List ByteArray) (fr:Int) (tt:Int) (ro:Int) (be:Bool) (af:Bool) (a:Nat):(runH enBp [] Tryz.f124 [.ptr 900 0 0, .ptr 901 0 0, .fn 125 []] [(901,⟨true,0,0,[[vI fr,vI tt, .e0,vI ro,vB be,vB af]]⟩),(900,⟨true,0,0,[[.sl (L.map eStr),vI a]]⟩)]).val =
 Option.bind (unenc stBp1 (St.mk [(2,AV.fn (125:FuncId) []),(1, .ptr 901 0 0),(0, .ptr 900 0 0)] [(901,Blk.mk true 0 0 [[(vI fr),(vI tt),AV.e0,(vI ro),(vB be),
 (vB af)]]),(900,Blk.mk true 0 0 [[AV.sl (List.map eStr L),(vI (↑a:Int))]])])) fun z=>(fun(q:Bool×List
 ByteArray×Nat)=>(fun(q_1:Nat)=>(fun(q_2:List ByteArray)=>(fun(q_3:List AV)=>(fun(q_4:Nat×Blk)=>(fun(q_5:Heap×List Nat)=>(fun(q_6:Option
 (AV×Heap×List Nat))=>bif F.linesOk z.1&&decide (z.2.2.2.2.2.2≤200001)&&true then bif q.fst then bif decide (q_1<List.length z.1) then
 q_6 else q_6 else bif F.isEp q_2 then some ((vB false),[(901,Blk.mk true 0 0 [(vI z.2.1)::(vI z.2.2.1)::AV.e0::q_3]),q_4],[]) else some ((vB false),
 q_5) else none) (some ((vB true),q_5))) ([(901,Blk.mk true 0 0 [(vI z.2.1)::(vI z.2.2.1) :: .own 0::q_3]),q_4,(0,Blk.mk false 9 1 (List.map eStr q_2))],
 [])) (900,Blk.mk true 0 0 [[AV.sl (List.map eStr z.1),(vI (↑q_1:Int))]])) [(vI z.2.2.2.1),(vB z.2.2.2.2.1),(vB z.2.2.2.2.2.1)])
 q.snd.fst) q.snd.snd) (F.bdP (List.drop z.2.2.2.2.2.2 z.1) [] z.2.2.2.2.2.2):=(runHR_val).symm.trans (by kernel_rfl)

def encBdp1 (L:List ByteArray) (fr:Int) (tt:Int) (ro:Int) (be:Bool) (af:Bool) (a:Nat):List AV×Heap:=([.ptr 900 0 0, .ptr 901 0 0, .fn 125 []],[(901,⟨true,0,0,[[vI fr,vI tt, .e0,vI ro,vB be,vB af]]⟩),(900,⟨true,0,0,[[.sl (L.map eStr),vI a]]⟩)])

def encBdp (a:(List ByteArray)×Int×Int×Int×Bool×Bool×Nat):List AV×Heap:=encBdp1 a.1 a.2.1 a.2.2.1 a.2.2.2.1 a.2.2.2.2.1 a.2.2.2.2.2.1 a.2.2.2.2.2.2

theorem encBdp_inj (a a':(List ByteArray)×Int×Int×Int×Bool×Bool×Nat) (h:encBdp a=encBdp a'):a=a':=by
 simp only[encBdp,encBdp1]at h
 try simp[strs_inj]at h
 grind

theorem unBdp (L:List ByteArray) (fr:Int) (tt:Int) (ro:Int) (be:Bool) (af:Bool) (a:Nat):unenc encBdp (([.ptr 900 0 0, .ptr 901 0 0,AV.fn (125:FuncId) []],[(901,Blk.mk true 0 0 [[(vI fr),(vI tt),AV.e0,(vI ro),(vB be),(vB af)]]),(900,Blk.mk true 0 0 [[AV.sl
 (List.map eStr L),(vI (↑a:Int))]])]))=some (L,fr,tt,ro,be,af,a):=unenc_of encBdp_inj (L,fr,tt,ro,be,af,a) rfl

def resBdp1 (L : List ByteArray) (fr : Int) (tt : Int) (ro : Int) (be : Bool) (af : Bool) (a : Nat) : T (AV × Heap × List Nat) := .ifB (F.bdP (L.drop a) [] a).1
      (.ret (vB true, [(901, ⟨true, 0, 0, [[vI fr, vI tt, .own 0, vI ro, vB be, vB af]]⟩), (900, ⟨true, 0, 0, [[.sl (L.map eStr), vI (F.bdP (L.drop a) [] a).2.2]]⟩), (0, ⟨false, 9, 1, (F.bdP (L.drop a) [] a).2.1.map eStr⟩)], []))
      (.ifB (F.isEp (F.bdP (L.drop a) [] a).2.1)
        (.ret (vB false, [(901, ⟨true, 0, 0, [[vI fr, vI tt, .e0, vI ro, vB be, vB af]]⟩), (900, ⟨true, 0, 0, [[.sl (L.map eStr), vI (F.bdP (L.drop a) [] a).2.2]]⟩)], []))
        (.ret (vB false, [(901, ⟨true, 0, 0, [[vI fr, vI tt, .own 0, vI ro, vB be, vB af]]⟩), (900, ⟨true, 0, 0, [[.sl (L.map eStr), vI (F.bdP (L.drop a) [] a).2.2]]⟩), (0, ⟨false, 9, 1, (F.bdP (L.drop a) [] a).2.1.map eStr⟩)], [])))

def preBdp1 (L:List ByteArray) (fr:Int) (tt:Int) (ro:Int) (be:Bool) (af:Bool) (a:Nat):Bool:=F.linesOk L&&decide (a≤200001)

noncomputable def oBdp:OrcH:=orcT 124 encBdp (fun a=>preBdp1 a.1 a.2.1 a.2.2.1 a.2.2.2.1 a.2.2.2.2.1 a.2.2.2.2.2.1 a.2.2.2.2.2.2) fun a=>resBdp1 a.1 a.2.1 a.2.2.1 a.2.2.2.1 a.2.2.2.2.1 a.2.2.2.2.2.1 a.2.2.2.2.2.2

theorem okBdp:OrcHOK Tryz.prog noG oBdp:=by
 refine mkT_ok (mv:=[]) Tryz.f124 (by kernel_rfl) (by kernel_rfl) enBp_ok mixed (one_loop (x0:=loopN Tryz.f124 0) (by kernel_rfl) (lpo_ok ?_)) ?_
 ·rintro⟨L,fr,tt,ro,be,af,a⟩ hp
  exact lpBp_ok L fr tt ro be af a hp
 rintro⟨L,fr,tt,ro,be,af,a⟩ r0 hpre hok hokh hr0
 show(runH enBp [] _ (encBdp1 _ _ _ _ _ _ _).1 (encBdp1 _ _ _ _ _ _ _).2).val=some r0
 replace hr0:(resBdp1 _ _ _ _ _ _ _).val=some r0:=hr0
 unfold resBdp1 at hr0
 unfold encBdp1
 rw[evBdp]
 simp only[preBdp1,Bool.and_eq_true]at hpre
 obtain⟨h1,h2⟩:=hpre
 rw[←hr0]
 simp only[unstBp,Option.bind_some,cond_true,Bool.and_true,h1,h2]
 clear hr0 hok hokh
 generalize F.bdP (List.drop a L) [] a=b
 obtain⟨b1,b2,b3⟩:=b
 cases b1
 ·cases F.isEp b2<;>rfl
 ·cases decide (b3<L.length)<;>rfl

end M

namespace F

def dot:ByteArray:=⟨⟨[46]⟩⟩

def webB:ByteArray:=⟨⟨[87,69,66,86,84,84]⟩⟩

def lgOk (s:ByteArray):Bool:=(rtP s dot).2.2.2&&mkOk (rtP s dot).2.2.1

def lgCap (s:ByteArray) (ls:List ByteArray):Cap:=⟨(rtP s dot).1,(rtP s dot).2.1,ls,mkRow (rtP s dot).2.2.1,mkBef (rtP s dot).2.2.1,mkAft (rtP s dot).2.2.1⟩

def lgL (L:List ByteArray):Nat→List Cap→Nat→Bool×List Cap×Nat
 | 0,out,a=>(true,out,a)
 | f+1,out,a=>
  bif tkB L a then
   bif lgOk (tkS L a) then
    bif (bdP (L.drop (a+1)) [] (a+1)).1 then
     lgL L f (out++[lgCap (tkS L a) (bdP (L.drop (a+1)) [] (a+1)).2.1]) ((bdP (L.drop (a+1)) [] (a+1)).2.2+lead (L.drop (bdP (L.drop (a+1)) [] (a+1)).2.2))
    else (false,[],(bdP (L.drop (a+1)) [] (a+1)).2.2)
   else (false,[],a+1)
  else (true,out,a)

theorem bdP_ge : ∀(M acc:List ByteArray) (a:Nat),a≤(bdP M acc a).2.2
 | [],acc,a=>by
  rw[bdP]
  cases acc.isEmpty<;>simp
 | x::r,acc,a=>by
  rw[bdP]
  have:=bdP_ge r (acc++[plV x]) (a+1)
  cases emp x && !acc.isEmpty
  ·cases plOk x
   ·simp
   ·simp only[cond_false,cond_true];omega
  ·simp

theorem bdP_le_t : ∀(M acc:List ByteArray) (a:Nat),(bdP M acc a).1=true→(bdP M acc a).2.2≤a+M.length
 | [],acc,a,h=>by
  rw[bdP]at h ⊢
  cases he:acc.isEmpty
  ·simp
  ·rw[he]at h;cases h
 | x::r,acc,a,h=>by
  rw[bdP]at h ⊢
  have:=bdP_le_t r (acc++[plV x]) (a+1)
  cases he:emp x && !acc.isEmpty
  ·rw[he]at h
   cases hl:plOk x
   ·rw[hl]at h;cases h
   ·rw[hl]at h
    simp only[cond_false,cond_true,List.length_cons]at h ⊢
    have:=this h
    omega
  ·simp

theorem lgL_fuel (L:List ByteArray) : ∀(f g:Nat) (out:List Cap) (a:Nat),L.length<f+a→L.length<g+a→lgL L f out a=lgL L g out a
 | 0,0,out,a,_,_=>rfl
 | 0,g+1,out,a,h,_=>by
  have ht:tkB L a=false:=decide_eq_false (by omega)
  rw[lgL,lgL,ht];rfl
 | f+1,0,out,a,_,h=>by
  have ht:tkB L a=false:=decide_eq_false (by omega)
  rw[lgL,lgL,ht];rfl
 | f+1,g+1,out,a,h1,h2=>by
  have hb:=bdP_ge (L.drop (a+1)) [] (a+1)
  rw[lgL,lgL]
  rw[lgL_fuel L f g _ _ (by omega) (by omega)]

def hd1 (L:List ByteArray):Bool:=tkB L 0&&seq (tkS L 0) webB

def hd2 (L:List ByteArray):Bool:=((lead (L.drop 1):Int)==0)&&tkB L 1

def lgA (L:List ByteArray):Bool×List Cap×Nat:=
 bif hd1 L then (bif hd2 L then (false,[],2) else lgL L (L.length+1 - (1+lead (L.drop 1))) [] (1+lead (L.drop 1))) else (false,[],1)

end F

namespace M

theorem lgCap_row (s:ByteArray) (ls:List ByteArray):eCap (F.lgCap s ls)=[vI (F.rdT s F.dot).1,vI (F.rdT (F.cutP (F.rdT s F.dot).2.1 F.arrow).1 F.dot).1, .sl (ls.map eStr),vI (F.mkRow (F.rdT (F.cutP (F.rdT s F.dot).2.1 F.arrow).1 F.dot).2.1),vB (F.mkBef (F.rdT (F.cutP (F.rdT s F.dot).2.1 F.arrow).1 F.dot).2.1),vB (F.mkAft (F.rdT (F.cutP (F.rdT s F.dot).2.1 F.arrow).1 F.dot).2.1)]:=by
 simp only[eCap,F.lgCap,F.rtP]

def stLgo (L:List ByteArray) (out:List Cap) (a:Nat):St:=⟨[(7, .own 7),(0, .ptr 900 0 0)],[(900,⟨true,0,0,[[.sl (L.map eStr),vI a]]⟩),(7,⟨false,122,6,out.map eCap⟩)]⟩

def stLgo1 (a:(List ByteArray)×(List Cap)×Nat):St:=stLgo a.1 a.2.1 a.2.2

theorem stLgo_inj (a a':(List ByteArray)×(List Cap)×Nat) (h:stLgo1 a=stLgo1 a'):a=a':=by
 simp only[stLgo1,stLgo]at h
 try simp[strs_inj,eCaps_inj]at h
 grind

theorem unstLgo0 (L:List ByteArray) (a:Nat)  : unenc stLgo1 (St.mk [(7, .own 7),(0, .ptr 900 0 0)] [(900,Blk.mk true 0 0 [[AV.sl (List.map eStr L),(vI (↑a:Int))]]),(7,Blk.mk false 122 6 [])])=some (L,[],a):=unenc_of stLgo_inj (L,[],a) rfl

def outLgo (L : List ByteArray) (out : List Cap) (a : Nat) : T (Ex × St) := .ifB (F.lgL L (L.length + 1 - a) out a).1
      (.ret (.exit 0, ⟨[(7, .own 7)], [(900, ⟨true, 0, 0, [[.sl (L.map eStr), vI (F.lgL L (L.length + 1 - a) out a).2.2]]⟩), (7, ⟨false, 122, 6, (F.lgL L (L.length + 1 - a) out a).2.1.map eCap⟩)]⟩))
      (.ret (.ret, ⟨[(3, vB false), (2, .own 2)], [(900, ⟨true, 0, 0, [[.sl (L.map eStr), vI (F.lgL L (L.length + 1 - a) out a).2.2]]⟩), (2, ⟨false, 122, 6, []⟩)]⟩))

noncomputable def prlLgo (L:List ByteArray) (out:List Cap) (a:Nat):Bool:=F.linesOk L&&decide (a≤200001)&&decide (out.length≤a)

noncomputable def lpLgo:Nat×(St→T (Ex×St)):=(9,lpo [7,0] [900,7] stLgo1 (fun a=>prlLgo a.1 a.2.1 a.2.2) fun a=>outLgo a.1 a.2.1 a.2.2)

noncomputable def enLgo:Env:=envH ty noG lks [oMor] [oBla,oTak,oRtp,oStg,oBdp] [2] [lpLgo]

theorem enLgo_ok:EnvOK Tryz.prog enLgo:=by
 refine envH_ok lks_ok ty_ok ?_ ?_
 ·simp only[List.forall_mem_cons]
  exact⟨okMor,by simp⟩
 ·simp only[List.forall_mem_cons]
  exact⟨okBla,okTak,okRtp,okStg,okBdp,by simp⟩

theorem evLgoL (L:List ByteArray) (out:List Cap) (a:Nat):((exec enLgo (loopN Tryz.f60 0) (stLgo L out a)).bind (lessX ([7,0],[900,7]) ([7],[900,7]) ([3,2],[900,2]))).val =
 (fun(q:List AV)=>(fun(q_1:List (Nat×Blk))=>(fun(q_2:List (Nat×AV))=>(fun(q_3:List AV)=>(fun(q_4:Nat×Blk)=>Option.bind (unenc encMor [AV.pel
 [AV.sl (List.map eStr L),(vI (↑a:Int))] (0:Nat)]) fun z=>bif F.tkB z.1 z.2 then Option.bind (unenc encTak (q,[q_4])) fun z=>(fun(q_5:Nat×Blk)=>(fun(q_6:Option (Ex×St))=>bif F.linesOk z.1&&decide (z.2≤200001) then Option.bind (unenc encRtp ((vS
 (F.tkS z.1 z.2))::(vS ⟨⟨[46]⟩⟩)::q,[(900,Blk.mk true 0 0 [(vI 0)::(vI 0)::q_3])])) fun z=>(fun(q_7:Int×ByteArray×Bool)=>bif F.small z.1&&decide (ByteArray.size z.2=(1:Nat)) then bif !!((F.rdT z.1 z.2).snd.snd&&(F.cutP
 (F.rdT z.1 z.2).snd.fst F.arrow).snd&&q_7.snd.snd) then Option.bind (unenc encStg ((vS q_7.snd.fst)::q,[(900,Blk.mk true 0 0 [(vI (F.rdT z.1 z.2).fst)::(vI
 q_7.fst)::q_3])])) fun z=>bif F.small z.1 then bif !!F.mkOk z.1 then Option.bind (unenc encBdp ([.ptr 900 0 0, .ptr 901 0 0,AV.fn (125 :
 Nat) []],[(901,Blk.mk true 0 0 [[(vI z.2.1),(vI z.2.2),AV.e0,(vI (F.mkRow z.1)),(vB (F.mkBef z.1)),(vB (F.mkAft z.1))]]),q_5])) fun z=>(fun(q_8:Bool×List ByteArray×Nat)=>(fun(q_9:List ByteArray)=>(fun(q_10:Nat×Blk)=>(fun(q_11 :
 Option (Ex×St))=>bif F.linesOk z.1&&decide (z.2.2.2.2.2.2≤200001) then bif q_8.fst then bif Nat.ble ((List.length (List.map eCap out)+1)*56) 140737488355328&&true then Option.bind (unenc encBla (q,[q_10])) fun z_1=>bif F.linesOk z_1.1&&decide
 (z_1.2≤200001) then some (Ex.normal,St.mk [(7, .own 7),(0, .ptr 900 0 0)] [(900,Blk.mk true 0 0 [[AV.sl (List.map eStr z_1.1),(vI (↑(z_1.2+F.lead
 (List.drop z_1.2 z_1.1)):Int))]]),(7,Blk.mk false 122 6 (List.map eCap out++[[(vI z.2.1),(vI z.2.2.1),AV.sl (List.map eStr q_9),(vI
 z.2.2.2.1),(vB z.2.2.2.2.1),(vB z.2.2.2.2.2.1)]]))]) else none else none else bif F.isEp q_9 then q_11 else q_11 else none) (some (Ex.ret,
 St.mk q_2 (q_10::q_1)))) (900,Blk.mk true 0 0 [[AV.sl (List.map eStr z.1),(vI (↑q_8.snd.snd:Int))]])) q_8.snd.fst) (F.bdP (List.drop z.2.2.2.2.2.2
 z.1) [] z.2.2.2.2.2.2) else q_6 else none else q_6 else none) (F.rdT (F.cutP (F.rdT z.1 z.2).snd.fst F.arrow).fst z.2) else none) (some (Ex.ret,St.mk
 q_2 (q_5::q_1)))) (900,Blk.mk true 0 0 [[AV.sl (List.map eStr z.1),(vI (↑(z.2+1):Int))]]) else some (Ex.exit (0:Nat),St.mk [(7, .own 7)] [q_4,(7,
 Blk.mk false 122 6 (List.map eCap out))])) (900,Blk.mk true 0 0 [[AV.sl (List.map eStr L),(vI (↑a:Int))]])) [AV.e0,(vI 0),(vB false),(vB false)]) [(3,(vB
 false)),(2, .own 2)]) [(2,Blk.mk false 122 6 [])]) [.ptr 900 0 0]:=(execR_bind _ _ _).symm.trans (by kernel_rfl)

theorem lpLgo_ok (L:List ByteArray) (out:List Cap) (a:Nat) (hp:prlLgo L out a=true) : ∀ex s',(outLgo L out a).val=some (ex,s')→LoopOK enLgo (loopN Tryz.f60 0) (stLgo L out a) ex s':=by
 simp only[prlLgo,Bool.and_eq_true,decide_eq_true_eq]at hp
 obtain⟨⟨h1,h2⟩,h3⟩:=hp
 have hL:L.length≤200001∧L.all F.small=true:=by simpa[F.linesOk]using h1
 refine loop_gen (st:=fun b:List Cap×Nat=>stLgo L b.1 b.2) (out:=fun b=>outLgo L b.1 b.2) (I:=fun b=>b.2≤200001∧b.1.length≤b.2) (n:=([7,0],[900,7])) (e:=([7],[900,7])) (r:=([3,2],[900,2])) (fun b=>L.length+1 - b.2) ?_ (out,a) ⟨h2,h3⟩
 rintro⟨out,a⟩ ⟨i1,i2⟩
 simp only at i1 i2
 have hsm : ∀k,F.small (F.tkS L k)=true:=fun k=>by
  unfold F.tkS F.tkB
  by_cases hk:k<L.length
  ·rw[decide_eq_true hk,cond_true]
   have hy:L[k]? = some L[k]:=List.getElem?_eq_getElem hk
   rw[getD_at hy]
   exact List.all_eq_true.1 hL.2 _ (List.mem_of_getElem? hy)
  ·rw[decide_eq_false hk];rfl
 have ec:(⟨⟨[46]⟩⟩:ByteArray)=F.dot:=rfl
 have e1:decide (F.dot.size=1)=true:=rfl
 cases ht:F.tkB L a
 ·left
  refine⟨(.exit 0,⟨[(7, .own 7)],[(900,⟨true,0,0,[[.sl (L.map eStr),vI a]]⟩),(7,⟨false,122,6,out.map eCap⟩)]⟩),?_,?_,by simp,rfl⟩
  ·rw[evLgoL]
   simp only[unMor,unBla,unTak,unRtp,unStg,unBdp,Option.bind_some,List.length_map,cond_false,Bool.and_true,ht]
  ·have:F.lgL L (L.length+1 - a) out a=(true,out,a):=by
    cases L.length+1 - a with
    | zero=>rfl
    | succ f=>rw[F.lgL,ht];rfl
   simp only[outLgo,this]
   rfl
 have ha:a<L.length:=by simpa[F.tkB]using ht
 obtain⟨f,hf⟩ : ∃f,L.length+1 - a=f+1:=⟨L.length - a,by omega⟩
 have h2:decide (a≤200001)=true:=decide_eq_true i1
 have h2':decide (a+1≤200001)=true:=decide_eq_true (by omega)
 have hrs:F.small (F.rtP (F.tkS L a) F.dot).2.2.1=true:=F.small_le (Nat.le_trans (F.rdT_size _ _) (Nat.le_trans (F.cutP_size _ _) (F.rdT_size _ _))) (of_decide_eq_true (hsm a))
 have failT:F.lgOk (F.tkS L a)=false→(outLgo L out a).val=some (.ret,⟨[(3,vB false),(2, .own 2)],[(900,⟨true,0,0,[[.sl (L.map eStr),vI (a+1:Nat)]]⟩),(2,⟨false,122,6,[]⟩)]⟩):=fun w=>by
  simp only[outLgo,hf,F.lgL,ht,w,cond_true,cond_false]
  rfl
 cases hg:(F.rtP (F.tkS L a) F.dot).2.2.2
 ·left
  refine⟨_,?_,failT (by unfold F.lgOk;rw[hg];rfl),by simp,rfl⟩
  simp only[F.rtP]at hg
  rw[evLgoL]
  simp only[unMor,unBla,unTak,unRtp,unStg,unBdp,Option.bind_some,List.length_map,cond_true,cond_false,Bool.and_true,Bool.true_and,ht,hg,h1,h2,h2',hsm,ec,e1,Bool.and_self,Bool.not_true,Bool.not_false]
  try rfl
 cases hm:F.mkOk (F.rtP (F.tkS L a) F.dot).2.2.1
 ·left
  refine⟨_,?_,failT (by unfold F.lgOk;rw[hg,hm];rfl),by simp,rfl⟩
  simp only[F.rtP]at hg hm hrs
  rw[evLgoL]
  simp only[unMor,unBla,unTak,unRtp,unStg,unBdp,Option.bind_some,List.length_map,cond_true,cond_false,Bool.and_true,Bool.true_and,ht,hg,hm,hrs,h1,h2,h2',hsm,ec,e1,Bool.and_self,Bool.not_true,Bool.not_false]
  done
 have hok:F.lgOk (F.tkS L a)=true:=by unfold F.lgOk;rw[hg,hm];rfl
 have hg':=hg
 have hm':=hm
 have hrs':=hrs
 simp only[F.rtP]at hg' hm' hrs'
 cases hb:(F.bdP (L.drop (a+1)) [] (a+1)).1
 ·left
  refine⟨(.ret,⟨[(3,vB false),(2, .own 2)],[(900,⟨true,0,0,[[.sl (L.map eStr),vI (F.bdP (L.drop (a+1)) [] (a+1)).2.2]]⟩),(2,⟨false,122,6,[]⟩)]⟩),?_,?_,by simp,rfl⟩
  ·rw[evLgoL]
   simp only[unMor,unBla,unTak,unRtp,unStg,unBdp,Option.bind_some,List.length_map,cond_true,cond_false,Bool.and_true,Bool.true_and,ht,hg',hm',hrs',hb,h1,h2,h2',hsm,ec,e1,Bool.and_self,Bool.not_true,Bool.not_false]
   cases F.isEp (F.bdP (L.drop (a+1)) [] (a+1)).2.1<;>rfl
  ·simp only[outLgo,hf,F.lgL,ht,hok,hb,cond_true,cond_false]
   rfl
 ·right
  have b1:=F.bdP_ge (L.drop (a+1)) [] (a+1)
  have b2:=F.bdP_le_t (L.drop (a+1)) [] (a+1) hb
  rw[List.length_drop]at b2
  have b3:=F.lead_le (L.drop (F.bdP (L.drop (a+1)) [] (a+1)).2.2)
  rw[List.length_drop]at b3
  have h4:decide ((F.bdP (L.drop (a+1)) [] (a+1)).2.2≤200001)=true:=decide_eq_true (by omega)
  refine⟨(out++[F.lgCap (F.tkS L a) (F.bdP (L.drop (a+1)) [] (a+1)).2.1],(F.bdP (L.drop (a+1)) [] (a+1)).2.2+F.lead (L.drop (F.bdP (L.drop (a+1)) [] (a+1)).2.2)),?_,rfl,⟨by simp only;omega,by simp;omega⟩,by simp only;omega,?_⟩
  ·rw[evLgoL]
   simp only[unMor,unBla,unTak,unRtp,unStg,unBdp,Option.bind_some,List.length_map,cond_true,Bool.and_true,ht,hg',hm',hrs',hb,h1,h2,h2',h4,hsm,ec,e1,Bool.and_self,Bool.not_true,Bool.not_false]
   have em:out.map eCap++[[vI (F.rdT (F.tkS L a) F.dot).1,vI (F.rdT (F.cutP (F.rdT (F.tkS L a) F.dot).2.1 F.arrow).1 F.dot).1, .sl ((F.bdP (L.drop (a+1)) [] (a+1)).2.1.map eStr),vI (F.mkRow (F.rdT (F.cutP (F.rdT (F.tkS L a) F.dot).2.1 F.arrow).1 F.dot).2.1),vB (F.mkBef (F.rdT (F.cutP (F.rdT (F.tkS L a) F.dot).2.1 F.arrow).1 F.dot).2.1),vB (F.mkAft (F.rdT (F.cutP (F.rdT (F.tkS L a) F.dot).2.1 F.arrow).1 F.dot).2.1)]]=(out++[F.lgCap (F.tkS L a) (F.bdP (L.drop (a+1)) [] (a+1)).2.1]).map eCap:=by
    rw[List.map_append,List.map_cons,List.map_nil,lgCap_row]
   rw[em,ble_t (show(out.length+1)*56≤140737488355328 by omega)]
   rfl
  ·have key:=F.lgL_fuel L (L.length+1 - ((F.bdP (L.drop (a+1)) [] (a+1)).2.2+F.lead (L.drop (F.bdP (L.drop (a+1)) [] (a+1)).2.2))) f (out++[F.lgCap (F.tkS L a) (F.bdP (L.drop (a+1)) [] (a+1)).2.1]) ((F.bdP (L.drop (a+1)) [] (a+1)).2.2+F.lead (L.drop (F.bdP (L.drop (a+1)) [] (a+1)).2.2)) (by omega) (by omega)
   simp only[outLgo,hf,F.lgL,ht,hok,hb,cond_true,key]

theorem evLgo (L:List ByteArray):(runH enLgo [] Tryz.f60 [.ptr 900 0 0] [(900,⟨true,0,0,[[.sl (L.map eStr),vI 0]]⟩)]).val =
 (fun(q:List (Nat×Blk))=>(fun(q_1:AV)=>(fun(q_2:List (Nat×AV))=>Option.bind (unenc encTak ([.ptr 900 0 0],[(900,Blk.mk true 0 0 [[AV.sl (List.map eStr
 L),(vI 0)]])])) fun z=>(fun(q_3:Nat×Blk)=>bif F.linesOk z.1&&decide (z.2≤200001) then bif bif !F.tkB z.1 z.2
 then true else !ByteArray.toList (F.tkS z.1 z.2)==ByteArray.toList (ByteArray.mk (Array.mk [(87:UInt8),(69:UInt8),(66:UInt8),(86:UInt8),(84:UInt8),(84
 : UInt8)])) then some (q_1,q_3::q,[]) else Option.bind (unenc encBla ([.ptr 900 0 0],[q_3])) fun z=>(fun(q_4:List AV)=>(fun(q_5 :
 Option (AV×Heap×List Nat))=>bif F.linesOk z.1&&decide (z.2≤200001) then bif (↑(F.lead (List.drop z.2 z.1)):Int)==0 then Option.bind
 (unenc encMor [AV.pel q_4 (0:Nat)]) fun z_1=>bif F.tkB z_1.1 z_1.2 then some (q_1,(900,Blk.mk true 0 0 [[AV.sl (List.map eStr z.1),
 (vI (IntKind.i64.wrap ((↑(z.2+F.lead (List.drop z.2 z.1)):Int)+1)))]])::q,[]) else q_5 else q_5 else none) (Option.bind (unenc stLgo1 (St.mk
 q_2 [(900,Blk.mk true 0 0 [q_4]),(7,Blk.mk false 122 6 [])])) fun z=>bif F.linesOk z.1&&decide (z.2.2≤200001) &&
 decide (List.length z.2.1≤z.2.2)&&true then bif (F.lgL z.1 (List.length z.1+1 - z.2.2) z.2.1 z.2.2).fst then some (AV.tup [.own 0,
 (vB true)],[(900,Blk.mk true 0 0 [[AV.sl (List.map eStr z.1),(vI (↑(F.lgL z.1 (List.length z.1+1 - z.2.2) z.2.1 z.2.2).snd.snd:Int))]]),
 (0,Blk.mk false 122 6 (List.map eCap (F.lgL z.1 (List.length z.1+1 - z.2.2) z.2.1 z.2.2).snd.fst))],[]) else some (q_1,(900,Blk.mk true 0 0
 [[AV.sl (List.map eStr z.1),(vI (↑(F.lgL z.1 (List.length z.1+1 - z.2.2) z.2.1 z.2.2).snd.snd:Int))]])::q,[]) else none)) [AV.sl
 (List.map eStr z.1),(vI (↑(z.2+F.lead (List.drop z.2 z.1)):Int))] else none) (900,Blk.mk true 0 0 [[AV.sl (List.map eStr z.1),(vI (↑(z.2+1) :
 Int))]])) [(7, .own 7),(0, .ptr 900 0 0)]) (AV.tup [.own 0,(vB false)])) [(0,Blk.mk false 122 6 [])]:=(runHR_val).symm.trans (by kernel_rfl)

def encLgo1 (L:List ByteArray):List AV×Heap:=([.ptr 900 0 0],[(900,⟨true,0,0,[[.sl (L.map eStr),vI 0]]⟩)])

def encLgo (a:(List ByteArray)):List AV×Heap:=encLgo1 a

theorem encLgo_inj (a a':(List ByteArray)) (h:encLgo a=encLgo a'):a=a':=by
 simp only[encLgo,encLgo1]at h
 try simp[strs_inj]at h
 grind

theorem unLgo (L:List ByteArray):unenc encLgo (([.ptr 900 0 0],[(900,Blk.mk true 0 0 [[AV.sl (List.map eStr L),(vI (0:Int))]])]))=some (L):=unenc_of encLgo_inj (L) rfl

def resLgo1 (L:List ByteArray):AV×Heap×List Nat:=(.tup [.own 0,vB (F.lgA L).1],[(900,⟨true,0,0,[[.sl (L.map eStr),vI (F.lgA L).2.2]]⟩),(0,⟨false,122,6,(bif (F.lgA L).1 then (F.lgA L).2.1 else []).map eCap⟩)],[])

def preLgo1 (L:List ByteArray):Bool:=F.linesOk L

noncomputable def oLgo:OrcH:=orcH 60 encLgo (fun a=>preLgo1 a) fun a=>resLgo1 a

theorem okLgo:OrcHOK Tryz.prog noG oLgo:=by
 refine mkH_ok (mv:=[]) Tryz.f60 (by kernel_rfl) (by kernel_rfl) enLgo_ok mixed (one_loop (x0:=loopN Tryz.f60 0) (by kernel_rfl) (lpo_ok ?_)) ?_
 ·rintro⟨L,out,a⟩ hp
  exact lpLgo_ok L out a hp
 rintro L hpre hok hokh
 show(runH enLgo [] _ (encLgo1 _).1 (encLgo1 _).2).val=some (resLgo1 _)
 unfold encLgo1 resLgo1
 rw[evLgo]
 simp only[preLgo1]at hpre
 have hL:L.length≤200001∧L.all F.small=true:=by simpa[F.linesOk]using hpre
 have b3:=F.lead_le (L.drop 1)
 rw[List.length_drop]at b3
 have u0:unenc encTak ([.ptr 900 0 0],[(900,⟨true,0,0,[[.sl (L.map eStr),vI 0]]⟩)])=some (L,0):=unTak L 0
 have eW:(⟨⟨[87,69,66,86,84,84]⟩⟩:ByteArray)=F.webB:=rfl
 have es : ∀x y:ByteArray,(x.toList==y.toList)=F.seq x y:=fun _ _=>rfl
 simp only[unMor,unBla,unstLgo0,Option.bind_some,cond_true,Bool.and_true,Bool.true_and,hpre,u0,eW,es,Nat.zero_le,decide_true,Bool.and_self,F.lgA,F.hd1,F.hd2,Nat.zero_add]
 cases hA:F.tkB L 0
 ·simp only[Bool.not_false,cond_true,cond_false,Bool.false_and,List.map_nil]
  try rfl
 cases hB:F.seq (F.tkS L 0) F.webB
 ·simp only[Bool.not_false,Bool.not_true,cond_true,cond_false,Bool.true_and,List.map_nil]
  try rfl
 have hA1:1≤L.length:=by
  have:(0:Nat)<L.length:=by simpa[F.tkB]using hA
  omega
 have q1:decide (1≤200001)=true:=rfl
 have q2:decide (1+F.lead (L.drop 1)≤200001)=true:=decide_eq_true (by omega)
 have q3:decide (([]:List Cap).length≤1+F.lead (L.drop 1))=true:=decide_eq_true (Nat.zero_le _)
 simp only[Bool.not_true,cond_true,cond_false,Bool.and_self,q1,q2,q3]
 by_cases hl:F.lead (L.drop 1)=0
 ·rw[hl]
  have e0:(((0:Nat):Int)==0)=true:=rfl
  have e1:IntKind.i64.wrap (((1+0:Nat):Int)+1)=2:=rfl
  simp only[e0,e1,Nat.add_zero,cond_true,Bool.true_and]
  cases F.tkB L 1
  ·simp only[cond_false]
   generalize F.lgL L (L.length+1 - 1) [] 1=q
   obtain⟨q1,q2,q3⟩:=q
   cases q1<;>rfl
  ·simp only[cond_true]
   try rfl
 ·have e0:((F.lead (L.drop 1):Int)==0)=false:=by rw[beq_eq_false_iff_ne];omega
  simp only[e0,cond_false,Bool.false_and]
  generalize F.lgL L (L.length+1 - (1+F.lead (L.drop 1))) [] (1+F.lead (L.drop 1))=q
  obtain⟨q1,q2,q3⟩:=q
  cases q1<;>rfl

end M

namespace F

theorem bdP_small : ∀(M acc:List ByteArray) (a:Nat),smL M=true→smL acc=true→smL (bdP M acc a).2.1=true
 | [],acc,a,_,h=>by
  rw[bdP]
  cases acc.isEmpty<;>exact h
 | x::r,acc,a,hM,h=>by
  have hM:(small x&&smL r)=true:=hM
  rw[Bool.and_eq_true]at hM
  rw[bdP]
  have hx:small (plV x)=true:=small_le (plV_size x) (of_decide_eq_true hM.1)
  have ih:=bdP_small r (acc++[plV x]) (a+1) hM.2 (by unfold smL at h ⊢;rw[List.all_append,h];simp[hx])
  cases emp x && !acc.isEmpty
  ·cases plOk x
   ·exact h
   ·exact ih
  ·exact h

theorem smL_dropL {L:List ByteArray} (h:smL L=true) (k:Nat):smL (L.drop k)=true:=
 List.all_eq_true.2 fun x hx=>List.all_eq_true.1 h x (List.mem_of_mem_drop hx)

theorem lgL_small {L:List ByteArray} (hL:smL L=true) : ∀(f:Nat) (out:List Cap) (a:Nat),smC out=true→smC (lgL L f out a).2.1=true
 | 0,out,a,h=>h
 | f+1,out,a,h=>by
  have hb:=bdP_small (L.drop (a+1)) [] (a+1) (smL_dropL hL _) rfl
  have ih:=lgL_small hL f (out++[lgCap (tkS L a) (bdP (L.drop (a+1)) [] (a+1)).2.1]) ((bdP (L.drop (a+1)) [] (a+1)).2.2+lead (L.drop (bdP (L.drop (a+1)) [] (a+1)).2.2)) (by
   unfold smC at h ⊢
   rw[List.all_append,h]
   simp[lgCap,hb])
  rw[lgL]
  cases tkB L a
  ·exact h
  cases lgOk (tkS L a)
  ·rfl
  cases(bdP (L.drop (a+1)) [] (a+1)).1
  ·rfl
  ·exact ih

theorem lgA_small {L:List ByteArray} (hL:smL L=true):smC (lgA L).2.1=true:=by
 unfold lgA
 cases hd1 L
 ·rfl
 cases hd2 L
 ·exact lgL_small hL _ _ _ rfl
 ·rfl

theorem lns_okL {s:ByteArray} (h:s.size≤200000):linesOk (lns s)=true:=by
 unfold linesOk
 rw[Bool.and_eq_true]
 refine⟨decide_eq_true (by have:=lns_len s;omega),List.all_eq_true.2 fun x hx=>?_⟩
 have:=lns_mem hx
 exact decide_eq_true (by omega)

theorem linesOk_smL {L:List ByteArray} (h:linesOk L=true):smL L=true:=(Bool.and_eq_true _ _▸h:decide (L.length≤200001)=true∧L.all small=true).2

def rdKL (q:Bool×List Cap×Nat):List Cap×Int×Int:=
 bif q.1 then (bif chkC q.2.1 != 0 then ([],0,chkC q.2.1) else (q.2.1,0,0)) else ([],(q.2.2:Int),10)

def rdLo (s:ByteArray):List Cap×Int×Int:=bif decide (200000<s.size) then ([],0,2) else rdKL (lgA (lns s))

end F

namespace M

noncomputable def enCl2:Env:=envH ty noG lks [] [oLgo] [] []

theorem enCl2_ok:EnvOK Tryz.prog enCl2:=by
 refine envH_ok lks_ok ty_ok ?_ ?_
 ·simp
 ·simp only[List.forall_mem_cons]
  exact⟨okLgo,by simp⟩

theorem evCl2 (L:List ByteArray):(runH enCl2 [] Tryz.f59 [.ptr 900 0 0] [(900,⟨true,0,0,[[.sl (L.map eStr),vI 0]]⟩)]).val =
 Option.bind (unenc encLgo ([.ptr 900 0 0],[(900,Blk.mk true 0 0 [[AV.sl (List.map eStr L),(vI 0)]])])) fun z=>bif F.linesOk z then some
 (AV.tup [.own 0,(vB (F.lgA z).fst)],[(900,Blk.mk true 0 0 [[AV.sl (List.map eStr z),(vI (↑(F.lgA z).snd.snd:Int))]]),(0,Blk.mk false 122 6 (List.map eCap (bif
 (F.lgA z).fst then (F.lgA z).snd.fst else [])))],[]) else none:=(runHR_val).symm.trans (by kernel_rfl)

def encCl21 (L:List ByteArray):List AV×Heap:=([.ptr 900 0 0],[(900,⟨true,0,0,[[.sl (L.map eStr),vI 0]]⟩)])

def encCl2 (a:(List ByteArray)):List AV×Heap:=encCl21 a

theorem encCl2_inj (a a':(List ByteArray)) (h:encCl2 a=encCl2 a'):a=a':=by
 simp only[encCl2,encCl21]at h
 try simp[strs_inj]at h
 grind

theorem unCl2 (L:List ByteArray):unenc encCl2 (([.ptr 900 0 0],[(900,Blk.mk true 0 0 [[AV.sl (List.map eStr L),(vI (0:Int))]])]))=some (L):=unenc_of encCl2_inj (L) rfl

def resCl21 (L:List ByteArray):AV×Heap×List Nat:=(.tup [.own 0,vB (F.lgA L).1],[(900,⟨true,0,0,[[.sl (L.map eStr),vI (F.lgA L).2.2]]⟩),(0,⟨false,122,6,(bif (F.lgA L).1 then (F.lgA L).2.1 else []).map eCap⟩)],[])

def preCl21 (L:List ByteArray):Bool:=F.linesOk L

noncomputable def oCl2:OrcH:=orcH 59 encCl2 (fun a=>preCl21 a) fun a=>resCl21 a

theorem okCl2:OrcHOK Tryz.prog noG oCl2:=by
 refine mkH_ok (mv:=[]) Tryz.f59 (by kernel_rfl) (by kernel_rfl) enCl2_ok mixed (no_loops (by kernel_rfl)) ?_
 rintro L hpre hok hokh
 show(runH enCl2 [] _ (encCl21 _).1 (encCl21 _).2).val=some (resCl21 _)
 unfold encCl21 resCl21
 rw[evCl2]
 simp only[preCl21]at hpre
 simp only[unLgo,Option.bind_some,cond_true,hpre]

noncomputable def enReL:Env:=envH ty noG lks [oChC] [oNwP,oCl2] [] []

theorem enReL_ok:EnvOK Tryz.prog enReL:=by
 refine envH_ok lks_ok ty_ok ?_ ?_
 ·simp only[List.forall_mem_cons]
  exact⟨okChC,by simp⟩
 ·simp only[List.forall_mem_cons]
  exact⟨okNwP,okCl2,by simp⟩

theorem evReL (s:ByteArray):(runF enReL false Tryz.f58 [vS s, .fn 59 []]).val =
 bif decide ((200000:Int)<(↑(ByteArray.size s):Int)) then some (AV.tup [AV.sl [],(vI 0),(vI 2)],[]) else Option.bind (unenc encNwP ([(vS s)],[]))
 fun z=>bif F.small z then Option.bind (unenc encCl2 ([.ptr 900 0 0],[(900,Blk.mk true 0 0 [[AV.sl (List.map eStr (F.lns z)),(vI 0)]])])) fun(z
 : List ByteArray)=>bif F.linesOk z then bif !(F.lgA z).fst then some (AV.tup [AV.sl [],(vI (↑(F.lgA z).snd.snd:Int)),(vI 10)],[]) else Option.bind (unenc
 encChC [AV.sl (List.map eCap (bif (F.lgA z).fst then (F.lgA z).snd.fst else []))]) fun z_1=>bif F.smC z_1 then bif F.chkC z_1 != 0 then some (AV.tup
 [AV.sl [],(vI 0),(vI (F.chkC z_1))],[]) else some (AV.tup [AV.sl (List.map eCap (bif (F.lgA z).fst then (F.lgA z).snd.fst else [])),(vI 0),(vI 0)],[]) else none else none else none:=(runFR_val).symm.trans (by kernel_rfl)

def encReL1 (s:ByteArray):List AV:=[vS s, .fn 59 []]

def encReL (a:ByteArray):List AV:=encReL1 a

theorem encReL_inj (a a':ByteArray) (h:encReL a=encReL a'):a=a':=by
 simp only[encReL,encReL1]at h
 try simp[]at h
 grind

theorem unReL (s:ByteArray):unenc encReL ([(vS s),AV.fn (59:FuncId) []])=some (s):=unenc_of encReL_inj (s) rfl

def resReL1 (s:ByteArray):AV×Heap:=(.tup [.sl ((F.rdLo s).1.map eCap),vI (F.rdLo s).2.1,vI (F.rdLo s).2.2],[])

def preReL1 (s:ByteArray):Bool:=F.small s

noncomputable def oReL:Orc:=orc 58 false encReL (fun a=>preReL1 a) fun a=>resReL1 a

theorem okReL:OrcOK Tryz.prog noG oReL:=by
 refine mk_ok Tryz.f58 (keep:=false) (by kernel_rfl) (by kernel_rfl) enReL_ok mixed (no_loops (by kernel_rfl)) (by first | exact fun _ _=>⟨rfl,rfl⟩ | (intro h;cases h)) ?_
 rintro s hpre hok
 show(runF enReL false _ (encReL1 _)).val=some (resReL1 _)
 unfold encReL1 resReL1
 rw[evReL]
 simp only[preReL1]at hpre
 simp only[unChC,unNwP,unCl2,Option.bind_some,cond_true,hpre,F.rdLo]
 by_cases hb:200000<s.size
 ·rw[decide_eq_true (show(200000:Int)<s.size by omega),decide_eq_true hb]
  rfl
 have hl:=F.lns_okL (s:=s) (by omega)
 rw[decide_eq_false (show ¬(200000:Int)<s.size by omega),decide_eq_false hb,hl]
 have hq:F.smC (F.lgA (F.lns s)).2.1=true:=F.lgA_small (F.linesOk_smL hl)
 generalize F.lgA (F.lns s)=q at hq
 obtain⟨q1,q2,q3⟩:=q
 simp only at hq
 simp only[F.rdKL,cond_true,cond_false]
 cases q1
 ·rfl
 ·simp only[hq,cond_true,cond_false,Bool.not_true]
  cases F.chkC q2 != 0<;>rfl

noncomputable def enRLo:Env:=envH ty noG lks [oReL] [] [] []

theorem enRLo_ok:EnvOK Tryz.prog enRLo:=by
 refine envH_ok lks_ok ty_ok ?_ ?_
 ·simp only[List.forall_mem_cons]
  exact⟨okReL,by simp⟩
 ·simp

theorem evRLo (s:ByteArray):(runF enRLo false Tryz.f20 [vS s]).val =
 Option.bind (unenc encReL [(vS s),AV.fn (59:Nat) []]) fun z=>bif F.small z then some (AV.tup [AV.sl (List.map eCap (F.rdLo z).fst),(vI (F.rdLo
 z).snd.fst),(vI (F.rdLo z).snd.snd)],[]) else none:=(runFR_val).symm.trans (by kernel_rfl)

def encRLo1 (s:ByteArray):List AV:=[vS s]

def encRLo (a:ByteArray):List AV:=encRLo1 a

theorem encRLo_inj (a a':ByteArray) (h:encRLo a=encRLo a'):a=a':=by
 simp only[encRLo,encRLo1]at h
 try simp[]at h
 grind

theorem unRLo (s:ByteArray):unenc encRLo ([(vS s)])=some (s):=unenc_of encRLo_inj (s) rfl

def resRLo1 (s:ByteArray):AV×Heap:=(.tup [.sl ((F.rdLo s).1.map eCap),vI (F.rdLo s).2.1,vI (F.rdLo s).2.2],[])

def preRLo1 (s:ByteArray):Bool:=F.small s

noncomputable def oRLo:Orc:=orc 20 false encRLo (fun a=>preRLo1 a) fun a=>resRLo1 a

theorem okRLo:OrcOK Tryz.prog noG oRLo:=by
 refine mk_ok Tryz.f20 (keep:=false) (by kernel_rfl) (by kernel_rfl) enRLo_ok mixed (no_loops (by kernel_rfl)) (by first | exact fun _ _=>⟨rfl,rfl⟩ | (intro h;cases h)) ?_
 rintro s hpre hok
 show(runF enRLo false _ (encRLo1 _)).val=some (resRLo1 _)
 unfold encRLo1 resRLo1
 rw[evRLo]
 simp only[preRLo1]at hpre
 simp only[unReL,Option.bind_some,cond_true,hpre]

end M

namespace F

def bndS (s:ByteArray):ByteArray:=bif decide (200000<s.size) then ⟨⟨[]⟩⟩ else s

def bnfL (s:ByteArray):Int:=bif decide (200000<s.size) then 2 else 0

def capW (c:Cap):Bool:=decide (0≤c.fr)&&decide (c.fr≤359999999)&&decide (0≤c.to)&&decide (c.to≤359999999)&&decide (0≤c.row)&&decide (c.row≤15)&&decide (c.lines.length≤15)&&decide (c.lines≠[])&&allL c.lines

theorem chkP_mem {α:Type} {f:Option α→α→Int} : ∀ {l:List α} {p:Option α},chkP f p l=0 → ∀c∈l,∃q,f q c=0
 | x::l,p,h,c,hc=>by
  rw[chkP]at h
  cases hx:f p x != 0
  ·rw[hx,cond_false]at h
   rcases List.mem_cons.1 hc with rfl | hc
   ·exact⟨p,by simpa using hx⟩
   ·exact chkP_mem h c hc
  ·rw[hx,cond_true]at h
   rw[h]at hx;simp at hx

theorem capF_w {q:Option Cap} {c:Cap} (h:capF q c=0):capW c=true:=by
 unfold capF at h
 cases h1:noTime c.fr
 ·cases h2:noTime c.to
  ·rw[h1,h2]at h
   simp only[Bool.or_self,cond_false]at h
   cases h3:(le c.to c.fr||befP q c)
   ·rw[h3,cond_false]at h
    cases h4:out c.row 0 15
    ·rw[h4,cond_false]at h
     unfold linesF at h
     cases h5:c.lines.isEmpty
     ·rw[h5,cond_false]at h
      cases h6:decide (15<c.lines.length)
      ·rw[h6,cond_false]at h
       cases h7:allL c.lines
       ·rw[h7,cond_false]at h;cases h
       ·simp only[noTime,out,Bool.or_eq_false_iff,decide_eq_false_iff_not]at h1 h2 h4 h6
        have h8:c.lines≠[]:=by rintro e;rw[e]at h5;cases h5
        unfold capW
        rw[h7,decide_eq_true h8,decide_eq_true (show 0≤c.fr by omega),decide_eq_true (show c.fr≤359999999 by omega),decide_eq_true (show 0≤c.to by omega),decide_eq_true (show c.to≤359999999 by omega),decide_eq_true (show 0≤c.row by omega),decide_eq_true (show c.row≤15 by omega),decide_eq_true (show c.lines.length≤15 by omega)]
        rfl
      ·rw[h6,cond_true]at h;cases h
     ·rw[h5,cond_true]at h;cases h
    ·rw[h4,cond_true]at h;cases h
   ·rw[h3,cond_true]at h;cases h
  ·rw[h1,h2]at h;cases h
 ·rw[h1]at h;cases h

theorem chkC_w {l:List Cap} (h:chkC l=0):l.length≤500∧l.all capW=true:=by
 unfold chkC at h
 cases h1:decide (500<l.length)
 ·rw[h1,cond_false]at h
  refine⟨by simpa using h1,List.all_eq_true.2 fun c hc=>?_⟩
  obtain⟨q,hq⟩:=chkP_mem h c hc
  exact capF_w hq
 ·rw[h1,cond_true]at h;cases h

theorem capW_spec {c:Cap} (h:capW c=true):0≤c.fr∧c.fr≤359999999∧0≤c.to∧c.to≤359999999∧0≤c.row∧c.row≤15∧c.lines.length≤15∧c.lines≠[] ∧ ∀s∈c.lines,line s=true:=by
 unfold capW at h
 simp only[Bool.and_eq_true,decide_eq_true_eq]at h
 obtain⟨⟨⟨⟨⟨⟨⟨⟨h1,h2⟩,h3⟩,h4⟩,h5⟩,h6⟩,h7⟩,h8⟩,h9⟩:=h
 exact⟨h1,h2,h3,h4,h5,h6,h7,h8,List.all_eq_true.1 h9⟩

theorem line_size {s:ByteArray} (h:line s=true):s.size≤200:=by
 unfold line at h
 rw[Bool.and_eq_true,decide_eq_true_eq]at h
 exact h.1

def lnB (xs:List ByteArray):List UInt8:=xs.flatMap fun x=>bs x++[10]

theorem tms_size {c:Cap} {p:ByteArray} (h:capW c=true) (hp:p.size=1):(tms c p).size=29:=by
 obtain⟨h1,h2,h3,h4,_⟩:=capW_spec h
 have s1:(clk c.fr p).size=12:=by
  obtain⟨k,hk⟩:=Int.eq_ofNat_of_zero_le h1
  rw[hk,clk_size (by omega),hp]
 have s2:(clk c.to p).size=12:=by
  obtain⟨k,hk⟩:=Int.eq_ofNat_of_zero_le h3
  rw[hk,clk_size (by omega),hp]
 unfold tms
 rw[ByteArray.size_append,ByteArray.size_append,s1,s2]
 rfl

theorem sp1_cut (c:UInt8) : ∀(a r:List UInt8),(∀b∈a,b≠c)→sp1 c (a++c::r)=a::sp1 c r
 | [],r,_=>by rw[List.nil_append,sp1,beq_self_eq_true,cond_true]
 | b::a,r,h=>by
  have ih:=sp1_cut c a r fun x hx=>h x (List.mem_cons_of_mem _ hx)
  rw[List.cons_append,sp1,beq_eq_false_iff_ne.2 (h b (List.mem_cons_self ..)),cond_false,ih]

theorem sp1_lnB : ∀(L:List ByteArray),(∀x∈L,∀b∈bs x,b≠10)→sp1 10 (lnB L)=L.map bs++[[]]
 | [],_=>rfl
 | x::L,h=>by
  have e:lnB (x::L)=bs x++10::lnB L:=by
   show(bs x++[10])++lnB L=_
   rw[List.append_assoc];rfl
  rw[e,sp1_cut 10 _ _ (h x (List.mem_cons_self ..)),sp1_lnB L fun y hy=>h y (List.mem_cons_of_mem _ hy)]
  rfl

theorem lns_lnB {T:ByteArray} {L:List ByteArray} (h : ∀x∈L,∀b∈bs x,b≠10) (hT:bs T=lnB L):lns T=L:=by
 have h1:(split T nl).map (·.data.toList)=L.map bs++[[]]:=by
  rw[←sp1_lnB L h,←hT]
  exact split_bytes T 10
 have h2:split T nl=L++[⟨⟨[]⟩⟩]:=bmap_inj (by rw[h1,List.map_append];rfl)
 unfold lns
 rw[h2]
 simp only[List.length_append,List.length_singleton,Nat.add_sub_cancel]
 have h3:(L++[(⟨⟨[]⟩⟩:ByteArray)]).getD L.length ⟨#[]⟩=⟨⟨[]⟩⟩:=by
  rw[List.getD_eq_getElem?_getD,List.getElem?_append_right (Nat.le_refl _)]
  simp
 rw[h3,show emp (⟨⟨[]⟩⟩:ByteArray)=true from by simp[emp],cond_true,List.take_left]

theorem lnB_app (a b:List ByteArray):lnB (a++b)=lnB a++lnB b:=by
 unfold lnB
 rw[List.flatMap_append]

theorem lnB_cons (x:ByteArray) (b:List ByteArray):lnB (x::b)=bs x++([10]++lnB b):=by
 show(bs x++[10])++lnB b=_
 rw[List.append_assoc]

theorem dig_ne {b:UInt8} (h:digB b=true):b≠10:=by
 rintro rfl
 exact absurd h (by decide)

theorem clk_ne {t:Int} {p:ByteArray} {q:UInt8} (hp:bs p=[q]) (hq:q≠10) (h0:0≤t) (h1:t≤359999999) : ∀b∈bs (clk t p),b≠10:=by
 obtain⟨k,rfl⟩:=Int.eq_ofNat_of_zero_le h0
 intro b hb
 rw[bs_clk (by omega),hp]at hb
 simp only[List.cons_append,List.nil_append,List.mem_cons,List.not_mem_nil,or_false]at hb
 have D : ∀n,n<10→dg n≠10:=fun n hn=>dig_ne (dg_dig hn)
 rcases hb with rfl | rfl | rfl | rfl | rfl | rfl | rfl | rfl | rfl | rfl | rfl | rfl
 all_goals first | exact hq | exact D _ (by omega) | decide

theorem tms_ne {c:Cap} {p:ByteArray} {q:UInt8} (hp:bs p=[q]) (hq:q≠10) (h:capW c=true) : ∀b∈bs (tms c p),b≠10:=by
 obtain⟨h1,h2,h3,h4,_⟩:=capW_spec h
 intro b hb
 unfold tms at hb
 rw[bs_cat,bs_cat,List.mem_append,List.mem_append]at hb
 rcases hb with (hb | hb) | hb
 ·exact clk_ne hp hq h1 h2 b hb
 ·have hb:b∈([32,45,45,62,32]:List UInt8):=hb
  simp only[List.mem_cons,List.not_mem_nil,or_false]at hb
  rcases hb with rfl | rfl | rfl | rfl | rfl<;>decide
 ·exact clk_ne hp hq h3 h4 b hb

theorem line_ne {s:ByteArray} (h:line s=true):(∀b∈bs s,b≠10)∧s.size≠0:=by
 unfold line clean at h
 simp only[Bool.and_eq_true,decide_eq_true_eq]at h
 refine⟨fun b hb=>?_,h.2.1.1.1.1.1⟩
 have:=List.all_eq_true.1 h.2.2 b hb
 rintro rfl
 exact absurd this (by decide)

theorem take_at {L:List ByteArray} {a:Nat} {x:ByteArray} {t:List ByteArray} (h:L.drop a=x::t):tkB L a=true∧tkS L a=x∧L.drop (a+1)=t∧a<L.length:=by
 have hlt:a<L.length:=by
  rcases Nat.lt_or_ge a L.length with h' | h'
  ·exact h'
  ·rw[List.drop_eq_nil_of_le h']at h;cases h
 have h0:L[a]? = some x:=by
  have:(L.drop a)[0]? = some x:=by rw[h];rfl
  rw[List.getElem?_drop]at this
  simpa using this
 have hB:tkB L a=true:=decide_eq_true hlt
 refine⟨hB,?_,?_,hlt⟩
 ·unfold tkS
  rw[hB,cond_true,List.getD_eq_getElem?_getD,h0];rfl
 ·have:(L.drop a).drop 1=t:=by rw[h];rfl
  rw[List.drop_drop]at this
  exact this

def rpl (s old new:ByteArray):ByteArray:=⟨(Lib.replaceAll (bs s) (bs old) (bs new)).toArray⟩

theorem index_hit (c:UInt8) (l:List UInt8):Lib.index (c::l) [c]=((0:Nat):Int):=by
 rw[Lib.index];simp[List.isPrefixOf]

theorem replaceK_eq (c:UInt8) (new:List UInt8) (k:Nat) (l:List UInt8):Lib.replaceK [c] new (k+1) (c::l)=new++Lib.replaceK [c] new k l:=by
 rw[Lib.replaceK_hit [c] new k (c::l) 0 (index_hit c l)]
 rfl

theorem replaceK_ne {b c:UInt8} (h:b≠c) (new:List UInt8) (k:Nat) (l:List UInt8):Lib.replaceK [c] new k (b::l)=b::Lib.replaceK [c] new k l:=by
 cases k with
 | zero=>rfl
 | succ k=>
  have hp:([c]:List UInt8).isPrefixOf (b::l)=false:=by simp[List.isPrefixOf,Ne.symm h]
  have hix:Lib.index (b::l) [c]=if Lib.index l [c] == -1 then -1 else Lib.index l [c]+1:=by rw[Lib.index,hp];simp
  by_cases hm:Lib.index l [c] = -1
  ·rw[Lib.replaceK,Lib.replaceK,hix,hm]
   simp
  ·have hge:=Lib.index_ge l [c]
   obtain⟨j,hj⟩ : ∃j:Nat,Lib.index l [c]=j:=⟨(Lib.index l [c]).toNat,by omega⟩
   have hix':Lib.index (b::l) [c]=((j+1:Nat):Int):=by rw[hix,if_neg (fun e=>hm (beq_iff_eq.1 e)),hj];omega
   rw[Lib.replaceK_hit [c] new k (b::l) (j+1) hix',Lib.replaceK_hit [c] new k l j hj]
   rw[List.take_succ_cons,show j+1+[c].length=(j+[c].length)+1 by omega,List.drop_succ_cons]
   rfl

theorem replace_map (c:UInt8) (new:List UInt8) : ∀l:List UInt8,Lib.replaceK [c] new (Lib.count l [c]) l=l.flatMap fun b=>bif b==c then new else [b]
 | []=>by
  rw[Lib.count_one]
  rfl
 | b::l=>by
  by_cases h:b=c
  ·subst h
   rw[Lib.count_cons_eq,Nat.add_comm,replaceK_eq,replace_map b new l,List.flatMap_cons,beq_self_eq_true,cond_true]
  ·rw[Lib.count_cons_ne b c l h,replaceK_ne h,replace_map c new l,List.flatMap_cons,beq_eq_false_iff_ne.2 h,cond_false]
   rfl

theorem bs_rpl (s:ByteArray) (c:UInt8) (new:List UInt8) (hn:new≠[c]):bs (rpl s ⟨⟨[c]⟩⟩ ⟨⟨new⟩⟩)=(bs s).flatMap fun b=>bif b==c then new else [b]:=by
 show(Lib.replaceAll (bs s) [c] new).toArray.toList=_
 unfold Lib.replaceAll Lib.replace Lib.replaceNum
 have h:([c]==new)=false:=beq_eq_false_iff_ne.2 fun e=>hn e.symm
 rw[h]
 simp only[Bool.false_eq_true,if_false]
 rw[if_pos (by omega)]
 simpa using replace_map c new (bs s)

def esc (s:ByteArray):ByteArray:=rpl (rpl s ampB amp5) ltB lt4

def escB (b:UInt8):List UInt8:=bif b==38 then [38,97,109,112,59] else bif b==60 then [38,108,116,59] else [b]

theorem bs_esc (s:ByteArray):bs (esc s)=(bs s).flatMap escB:=by
 unfold esc ampB amp5 ltB lt4
 rw[bs_rpl _ 60 _ (by decide),bs_rpl _ 38 _ (by decide),List.flatMap_assoc]
 congr 1
 funext b
 unfold escB
 cases h1:b==38
 ·simp only[cond_false,List.flatMap_cons,List.flatMap_nil,List.append_nil]
 ·simp only[cond_true]
  rfl

theorem escB_len (b:UInt8):1≤(escB b).length∧(escB b).length≤5:=by
 unfold escB
 cases b==38
 ·cases b==60
  ·simp
  ·simp
 ·simp

theorem flat_len : ∀l:List UInt8,l.length≤(l.flatMap escB).length∧(l.flatMap escB).length≤5*l.length
 | []=>⟨Nat.le_refl _,Nat.le_refl _⟩
 | b::l=>by
  have h1:=escB_len b
  have h2:=flat_len l
  rw[List.flatMap_cons,List.length_append,List.length_cons]
  omega

theorem esc_size (s:ByteArray):s.size≤(esc s).size∧(esc s).size≤5*s.size:=by
 have:=flat_len (bs s)
 rw[size_bs (esc s),bs_esc,size_bs s]
 exact this

theorem esc_ne {s:ByteArray} (h : ∀b∈bs s,b≠10) : ∀b∈bs (esc s),b≠10:=by
 intro b hb
 rw[bs_esc,List.mem_flatMap]at hb
 obtain⟨x,hx,hb⟩:=hb
 unfold escB at hb
 cases h1:x==38
 ·cases h2:x==60
  ·rw[h1,h2]at hb
   simp only[cond_false,List.mem_singleton]at hb
   rw[hb];exact h x hx
  ·rw[h1,h2]at hb
   simp only[cond_false,cond_true,List.mem_cons,List.not_mem_nil,or_false]at hb
   rcases hb with rfl | rfl | rfl | rfl<;>decide
 ·rw[h1]at hb
  simp only[cond_true,List.mem_cons,List.not_mem_nil,or_false]at hb
  rcases hb with rfl | rfl | rfl | rfl | rfl<;>decide

theorem hasP_pre {s p:ByteArray} {r:List UInt8} (h:bs s=bs p++r):hasP s p=true:=by
 rw[hasP_take,h,size_bs,List.take_left]
 simp

theorem plB_esc : ∀(l:List UInt8) (f:Nat) (T out:ByteArray),bs T=l.flatMap escB→T.size≤f → ∃o,plB f T out=some o∧bs o=bs out++l
 | [],f,T,out,hT,hf=>by
  have he:emp T=true:=by rw[emp_size,size_bs,hT];rfl
  refine⟨out,?_,by simp⟩
  cases f with
  | zero=>rfl
  | succ f=>rw[plB,he];rfl
 | b::l,f,T,out,hT,hf=>by
  rw[List.flatMap_cons]at hT
  have hl:=escB_len b
  have hz:T.size=(escB b).length+(l.flatMap escB).length:=by rw[size_bs,hT,List.length_append]
  obtain⟨f,rfl⟩ : ∃g,f=g+1:=⟨f - 1,by omega⟩
  have he:emp T=false:=by rw[emp_size];exact decide_eq_false (by omega)
  rw[plB,he,cond_false]
  by_cases h1:b=38
  ·subst h1
   have hp:hasP T amp5=true:=hasP_pre (p:=amp5) hT
   obtain⟨o,o1,o2⟩:=plB_esc l f (T.extract 5 T.size) (out++ampB) (by rw[bs_from,hT];rfl) (by rw[ext_sz];omega)
   refine⟨o,by rw[hp,cond_true];exact o1,?_⟩
   rw[o2,bs_app,List.append_assoc]
   rfl
  ·by_cases h2:b=60
   ·subst h2
    have hT2:bs T=[38,108,116,59]++l.flatMap escB:=hT
    have hp5:hasP T amp5=false:=by
     unfold hasP Lib.hasPrefix
     rw[hT2]
     rfl
    have hp:hasP T lt4=true:=hasP_pre (p:=lt4) hT2
    obtain⟨o,o1,o2⟩:=plB_esc l f (T.extract 4 T.size) (out++ltB) (by rw[bs_from,hT2];rfl) (by rw[ext_sz];omega)
    refine⟨o,by rw[hp5,cond_false,hp,cond_true];exact o1,?_⟩
    rw[o2,bs_app,List.append_assoc]
    rfl
   ·have hb:escB b=[b]:=by
     unfold escB
     rw[beq_eq_false_iff_ne.2 h1,beq_eq_false_iff_ne.2 h2]
     rfl
    rw[hb]at hT
    obtain⟨p5,p4⟩:=hasP_head (s:=T) (b:=b) (r:=l.flatMap escB) hT h1
    have hs:sgn T=false:=by
     unfold sgn
     rw[hT]
     show(b==38||b==60)=false
     rw[beq_eq_false_iff_ne.2 h1,beq_eq_false_iff_ne.2 h2]
     rfl
    obtain⟨o,o1,o2⟩:=plB_esc l f (T.extract 1 T.size) (out++T.extract 0 1) (by rw[bs_from,hT];rfl) (by rw[ext_sz];omega)
    refine⟨o,by rw[p5,cond_false,p4,cond_false,hs,cond_false];exact o1,?_⟩
    rw[o2,bs_app,bs_upto,hT,List.append_assoc]
    rfl

theorem plR_esc (s:ByteArray):plR (esc s)=some s:=by
 obtain⟨o,o1,o2⟩:=plB_esc (bs s) (esc s).size (esc s) ⟨⟨[]⟩⟩ (bs_esc s) (Nat.le_refl _)
 unfold plR
 rw[o1]
 have:o=s:=bsx (by rw[o2];rfl)
 rw[this]

theorem plOk_esc {s:ByteArray} (h:line s=true):plOk (esc s)=true∧plV (esc s)=s:=by
 have e:plV (esc s)=s:=by unfold plV;rw[plR_esc];rfl
 refine⟨?_,e⟩
 unfold plOk
 rw[e,h]
 unfold plG
 rw[plR_esc]
 rfl

def mks (row:Int) (b a:Bool):ByteArray:=(bif row != 0 then lineB++itoa row else ⟨⟨[]⟩⟩)++(bif b then befB else ⟨⟨[]⟩⟩)++(bif a then aftB else ⟨⟨[]⟩⟩)

def dig16 (k:Nat):List UInt8:=bif Nat.blt k 10 then [UInt8.ofNat (48+k)] else [UInt8.ofNat (48+k / 10),UInt8.ofNat (48+k % 10)]

theorem dec16 {k:Nat} (h:k<100):Lib.decDigits k=dig16 k:=by
 unfold dig16
 by_cases h1:k<10
 ·rw[Lib.decDigits_one h1,show Nat.blt k 10=true from by rw[Nat.blt_eq];exact h1];rfl
 ·rw[Lib.decDigits_two h1 h,show Nat.blt k 10=false from by rw[←Bool.not_eq_true,Nat.blt_eq];exact h1];rfl

def mksL (k:Nat) (b a:Bool):List UInt8:=(bif k != 0 then [32,108,105,110,101,58]++dig16 k else [])++(bif b then [32,98,101,102,111,114,101] else [])++(bif a then [32,97,102,116,101,114] else [])

theorem bs_mks {k:Nat} (h:k<100) (b a:Bool):bs (mks (k:Int) b a)=mksL k b a:=by
 unfold mks mksL
 rw[bs_app,bs_app]
 have e1:((k:Int) != 0)=(k != 0):=by
  by_cases hk:k=0
  ·subst hk;rfl
  ·rw[bne_iff_ne.2 (show(k:Int)≠0 by omega),bne_iff_ne.2 hk]
 rw[e1]
 congr 1
 ·congr 1
  ·cases k != 0
   ·rfl
   ·simp only[cond_true]
    rw[bs_app,bs_itoa,dec16 h]
    rfl
  ·cases b<;>rfl
 ·cases a<;>rfl

theorem mks_read : ∀(k:Fin 16) (b a:Bool),mkOk ⟨⟨mksL k.val b a⟩⟩=true∧mkRow ⟨⟨mksL k.val b a⟩⟩=(k.val:Int)∧mkBef ⟨⟨mksL k.val b a⟩⟩=b∧mkAft ⟨⟨mksL k.val b a⟩⟩=a:=by decide +kernel

end F

theorem bld_und:Tryz.prog.underlying 26=some (.slice 5):=by kernel_rfl

theorem bld_str:Tryz.prog.underlying 9=some .string:=by kernel_rfl

theorem bld_info:(Tryz.prog.info? 5).map (fun i=>(i.zero,i.size,i.bytes))=some (some (.int .u8 0),1,1):=by kernel_rfl

def BufAt (w:World) (v:Value) (own:Option Nat) (xs:List Value):Prop:=
 (∃A,v = .slice A 0 0∧xs=[]∧own=none) ∨
 (∃g cap cur,own=some g∧v = .slice (some ⟨g,0,none⟩) xs.length cap∧w.heap[g]? = some (.cells cur 5 (0,0))∧xs.length≤cap∧cap≤9223372036854775807∧cur.size=cap∧cur.toList.take xs.length=xs)

theorem BufAt.kept {w w':World} {v:Value} {own:Option Nat} {xs:List Value} (h:BufAt w v own xs) (hb : ∀g,own=some g→w'.heap[g]? = w.heap[g]?):BufAt w' v own xs:=by
 rcases h with h | ⟨g,cap,cur,h1,h2,h3,h4⟩
 ·exact .inl h
 ·exact .inr ⟨g,cap,cur,h1,h2,by rw[hb g h1];exact h3,h4⟩

theorem buf_new (w:World) (cs:Array Value) (xs:List Value) (C:Nat) (h1:cs.size=C) (h2:xs.length≤C) (h3:C≤9223372036854775807) (h4:cs.toList.take xs.length=xs) (row:Option Nat) :
  BufAt (w.drew.alloc (.cells cs 5)) (.slice (some ⟨w.heap.size,0,none⟩) xs.length C) (some w.heap.size) xs∧w.grownBy (w.drew.alloc (.cells cs 5)) row:=by
 refine⟨.inr ⟨w.heap.size,C,cs,rfl,rfl,?_,h2,h3,h1,h4⟩,rfl,rfl,rfl,?_,fun k hk _=>?_⟩
 ·show(w.heap.push _)[w.heap.size]? = _
  simp
 ·show _≤(w.heap.push _).size
  simp
 ·show(w.heap.push _)[k]? = _
  rw[Array.getElem?_push,if_neg (by omega)]

theorem strCells_len (s:ByteArray):(Lib.strCells s).length=s.size:=Lib.strCells_length s

theorem run_app_str (w:World) (ty:TypeId) {v:Value} {own:Option Nat} {xs:List Value} (h:BufAt w v own xs) (s:ByteArray) (hlen:xs.length+s.size≤140737488355328) :
  ∃v' w' own',(Builtin.append_ #[26,9] ty #[v, .string s]).run Tryz.prog w = .ok v' w'∧BufAt w' v' own' (xs++Lib.strCells s)∧w.grownBy w' own∧(∀g,own'=some g→own=some g∨w.heap.size≤g):=by
 obtain⟨i0,hi,hz0,hz1,hz2⟩:=info_parts bld_info
 have hl:=strCells_len s
 have hgC : ∀n old,n≤140737488355328→n≤grownCap w n old 5∧grownCap w n old 5≤9223372036854775807:=fun n old hn=>
  ⟨grownCap_ge w n old _,by have:=grownCap_le_maxLen w n old 5 (by unfold maxLen;omega);unfold maxLen at this;omega⟩
 have h0c:(Value.int IntKind.u8 0).cells.size=1:=rfl
 rcases h with ⟨A,rfl,rfl,rfl⟩ | ⟨g,cap,cur,rfl,rfl,hg,hnc,hcm,hcs,ht⟩
 ·simp only[List.length_nil,Nat.zero_add]at hlen
  by_cases hs:s.size=0
  ·have hn:Lib.strCells s=[]:=List.eq_nil_of_length_eq_zero (by rw[hl];exact hs)
   refine⟨.slice A 0 0,w,none,?_, .inl ⟨A,rfl,by rw[hn];rfl,rfl⟩,⟨rfl,rfl,rfl,Nat.le_refl _,fun _ _ _=>rfl⟩,fun g hg=>by cases hg⟩
   have hf:=Lib.run_firstCells_string (P:=Tryz.prog) w 1 s
   rw[hs,hn]at hf
   cases A<;>simp[Builtin.append_,run_underlying bld_und,run_underlying bld_str,sizeOf,typeInfo,hi,hz1,Builtin.lenOf,hs,hf,storeCells]
  ·obtain⟨c1,c2⟩:=hgC s.size 0 hlen
   cases A with
   | none=>
    have hr:=run_append_nil_string (P:=Tryz.prog) w 26 9 ty 5 i0 _ bld_und bld_str hi hz0 s (by omega) (by omega) (by rw[hz2];omega)
    have e1:(s.data.map fun b=>Value.int .u8 b.toNat)=(Lib.strCells s).toArray:=by
     apply Array.ext'
     simp[Lib.strCells]
    rw[e1]at hr
    obtain⟨k1,k2⟩:=buf_new w ((Lib.strCells s).toArray++Builtin.zeroCells (Value.int .u8 0).cells (grownCap w s.size 0 5 - s.size)) (Lib.strCells s) (grownCap w s.size 0 5)
     (by rw[Array.size_append,size_zeroCells,h0c,List.size_toArray,hl];omega) (by rw[hl];exact c1) c2 (by rw[Array.toList_append];exact List.take_left) none
    rw[hl]at k1
    exact⟨_,_,_,hr,by rw[List.nil_append];exact k1,k2,fun g hg=> .inr (by cases hg;exact Nat.le_refl _)⟩
   | some a=>
    have hr:=Lib.run_append_grow_string (P:=Tryz.prog) w 26 9 ty 5 i0 _ bld_und bld_str hi hz0 a 0 0 [] (by simp) (fun j v hj=>by simp at hj) s (by omega) (by omega) (by rw[hz2];exact growslice_fits (by omega) (by omega))
    simp only[Nat.zero_add]at hr
    obtain⟨k1,k2⟩:=buf_new w (([]:List Value).toArray++(Lib.strCells s).toArray++Builtin.zeroCells (Value.int .u8 0).cells (grownCap w s.size 0 5 - s.size)) (Lib.strCells s) (grownCap w s.size 0 5)
     (by rw[Array.size_append,Array.size_append,size_zeroCells,h0c,List.size_toArray,List.size_toArray,hl];simp;omega) (by rw[hl];exact c1) c2 (by rw[Array.toList_append,Array.toList_append];exact List.take_left) none
    rw[hl]at k1
    exact⟨_,_,_,hr,by rw[List.nil_append];exact k1,k2,fun g hg=> .inr (by cases hg;exact Nat.le_refl _)⟩
 ·by_cases hroom:xs.length+s.size≤cap
  ·have hr:=Lib.run_append_room_string (P:=Tryz.prog) w 26 9 ty 5 i0 bld_und bld_str hi hz1 g xs.length cap cur hg s hroom (by omega)
   have hl2:(xs++Lib.strCells s).length=xs.length+s.size:=by rw[List.length_append,hl]
   refine⟨_,_,some g,hr, .inr ⟨g,cap,_,rfl,by rw[hl2],setRow_heap w g cur _ _ _ hg,by rw[hl2];exact hroom,hcm,?_,?_⟩,⟨rfl,rfl,rfl,by simp,fun k _ hk=>setRow_other w g k _ (fun e=>hk (by rw[e]))⟩,fun g' hg'=> .inl hg'⟩
   ·simp only[List.size_toArray,List.length_append,List.length_take,List.length_drop,Array.length_toList,hl]
    omega
   ·rw[ht]
    exact List.take_left
  ·have holds : ∀j u,xs[j]? = some u→w.cell? ((⟨g,0,none⟩:Addr).add j)=some u:=fun j u hu=>by
    have hj:=(List.getElem?_eq_some_iff.1 hu).1
    have e:(cur.toList.take xs.length)[j]? = some u:=by rw[ht];exact hu
    rw[List.getElem?_take,if_pos hj]at e
    rw[Addr.add_lit,Nat.zero_add]
    simp only[World.cell?,hg]
    simpa using e
   obtain⟨c1,c2⟩:=hgC (xs.length+s.size) cap hlen
   have hr:=Lib.run_append_grow_string (P:=Tryz.prog) w 26 9 ty 5 i0 _ bld_und bld_str hi hz0 ⟨g,0,none⟩ xs.length cap xs (by rw[hz1];simp) holds s (by omega) (by omega) (by rw[hz2];exact growslice_fits (by omega) (by omega))
   have hl2:(xs++Lib.strCells s).length=xs.length+s.size:=by rw[List.length_append,hl]
   obtain⟨k1,k2⟩:=buf_new w (xs.toArray++(Lib.strCells s).toArray++Builtin.zeroCells (Value.int .u8 0).cells (grownCap w (xs.length+s.size) cap 5 - (xs.length+s.size))) (xs++Lib.strCells s) (grownCap w (xs.length+s.size) cap 5)
    (by rw[Array.size_append,Array.size_append,size_zeroCells,h0c,List.size_toArray,List.size_toArray,hl];omega) (by rw[hl2];exact c1) c2 (by rw[Array.toList_append,Array.toList_append];exact List.take_left) (some g)
   rw[hl2]at k1
   exact⟨_,_,_,hr,k1,k2,fun g' hg'=> .inr (by cases hg';exact Nat.le_refl _)⟩

def bldRen:Go.Shelf.Ren:=⟨fun | 240=>157 | 276=>199 | n=>n,fun | 0=>0 | 4=>4 | 9=>9 | 20=>20 | 37=>26 | 70=>160 | 72=>162 | 164=>257 | n=>n,fun | n=>n⟩

theorem bldLays:Go.Proofs.Lays.n240 Tryz.prog bldRen:={
 mixed:=by kernel_rfl
 f240:=Tryz.func157.trans (congrArg some (by kernel_rfl))
 f276:=Tryz.func199.trans (congrArg some (by kernel_rfl))
 t0:=Tryz.underlying0
 a0:=Tryz.isAgg0
 z0:=Tryz.sizeOf0
 v0:=Tryz.zeroValue0
 t4:=Tryz.underlying4
 a4:=Tryz.isAgg4
 z4:=Tryz.sizeOf4
 v4:=Tryz.zeroValue4
 t9:=Tryz.underlying9
 a9:=Tryz.isAgg9
 z9:=Tryz.sizeOf9
 v9:=Tryz.zeroValue9
 t20:=Tryz.underlying20
 a20:=Tryz.isAgg20
 z20:=Tryz.sizeOf20
 v20:=Tryz.zeroValue20
 t70:=Tryz.underlying160
 a70:=Tryz.isAgg160
 z70:=Tryz.sizeOf160
 v70:=Tryz.zeroValue160
 t72:=Tryz.underlying162
 a72:=Tryz.isAgg162
 z72:=Tryz.sizeOf162
 v72:=Tryz.zeroValue162
 t164:=Tryz.underlying257
 a164:=Tryz.isAgg257
 z164:=Tryz.sizeOf257
 v164:=Tryz.zeroValue257 }

theorem bldX:Builder.X72 Tryz.prog bldRen:=⟨by kernel_rfl,by kernel_rfl⟩

structure Stays (w w':World) (k:Nat→Prop):Prop where
 os:w'.os=w.os
 tape:w'.tape=w.tape
 output:w'.output=w.output
 size:w.heap.size≤w'.heap.size
 block : ∀b,b<w.heap.size→k b→w'.heap[b]? = w.heap[b]?

theorem bld_check (b:Nat) (p v:Value) (hp:p = .pointer none∨p = .pointer (some ⟨b,0,none⟩)) (w:World) (hbk:w.heap[b]? = some (.cells #[p,v] 162 (0,0))) :
  Calls Tryz.prog 157 #[.pointer (some ⟨b,0,none⟩)] w fun e w'=>e = .returned (.tuple #[])∧w'.heap[b]? = some (.cells #[.pointer (some ⟨b,0,none⟩),v] 162 (0,0))∧w'.heap.size=w.heap.size∧Stays w w' (fun k=>k≠b):=by
 have hc0:w.cell? ⟨b,0,none⟩=some p:=by rw[Lib.cell_of_heap hbk];rfl
 rcases hp with rfl | rfl
 ·refine(Any.Builder_copyCheck_fresh bldLays bldX b w hc0 (by simp[World.shape?,hbk];rfl) (by simp[World.frozen?,hbk])).mono ?_
  rintro e w' ⟨rfl,rfl⟩
  exact⟨rfl,by simp[World.setCell,Array.getElem?_modify,hbk],by simp[World.setCell],rfl,rfl,rfl,by simp[World.setCell],fun k _ hk=>Below.heap_setCell _ _ _ _ (fun e=>hk (by simpa using e))⟩
 ·refine(Any.Builder_copyCheck_used bldLays bldX b w hc0).mono ?_
  rintro e w' ⟨rfl,rfl⟩
  exact⟨rfl,hbk,rfl,rfl,rfl,rfl,Nat.le_refl _,fun _ _ _=>rfl⟩

set_option maxHeartbeats 4000000 in
set_option maxRecDepth 100000 in
theorem bld_write (b:Nat) (p v:Value) (own:Option Nat) (xs:List Value) (s:ByteArray) (hp:p = .pointer none∨p = .pointer (some ⟨b,0,none⟩)) (w:World) (hbk:w.heap[b]? = some (.cells #[p,v] 162 (0,0)))
  (hbuf:BufAt w v own xs) (hne:own≠some b) (hlen:xs.length+s.size≤140737488355328) :
  Calls Tryz.prog 99 #[.pointer (some ⟨b,0,none⟩), .string s] w fun e w'=>e = .returned (.tuple #[.int .i64 s.size, .nilIface]) ∧ ∃v' own',w'.heap[b]? = some (.cells #[.pointer (some ⟨b,0,none⟩),v'] 162 (0,0)) ∧
   BufAt w' v' own' (xs++Lib.strCells s)∧own'≠some b∧(∀g,own'=some g→own=some g∨w.heap.size≤g)∧Stays w w' (fun k=>k≠b∧own≠some k):=by
 go_enter Tryz.func99,Tryz.ntmps99
 go_wp2_with (go_at_call 157;refine(bld_check b p v hp _ hbk).mono ?_)
 rintro e w1 ⟨rfl,hb1,hsz,hst⟩
 have hlt:b<w.heap.size:=(Array.getElem?_eq_some_iff.1 hbk).1
 have hbuf1:BufAt w1 v own xs:=hbuf.kept fun g hg=>by
  rcases hbuf with ⟨A,_,_,h⟩ | ⟨g',cap,cur,h1,h2,h3,_⟩
  ·rw[h]at hg;cases hg
  ·rw[hg]at h1
   cases h1
   exact hst.block g (Array.getElem?_eq_some_iff.1 h3).1 (fun e=>hne (by rw[hg,e]))
 obtain⟨v',w2,own',hr,hb2,hg2,hn2⟩:=run_app_str w1 26 hbuf1 s hlen
 have c0:w1.cell? ⟨b,0,none⟩=some (.pointer (some ⟨b,0,none⟩)):=by rw[Lib.cell_of_heap hb1];rfl
 have c1:w1.cell? ⟨b,1,none⟩=some v:=by rw[Lib.cell_of_heap hb1];rfl
 have hB2:w2.heap[b]? = some (.cells #[.pointer (some ⟨b,0,none⟩),v] 162 (0,0)):=by
  rw[hg2.block b (by omega) (fun e=>hne e.symm)];exact hb1
 have d0:w2.cell? ⟨b,0,none⟩=some (.pointer (some ⟨b,0,none⟩)):=by rw[Lib.cell_of_heap hB2];rfl
 have d1:w2.cell? ⟨b,1,none⟩=some v:=by rw[Lib.cell_of_heap hB2];rfl
 have f1:w2.frozen? ⟨b,1,none⟩=false:=Lib.frozen_of_heap hB2 1
 have hne2:own'≠some b:=fun e=>by
  rcases hn2 b e with h | h
  ·exact hne h
  ·omega
 obtain⟨ao,n',cap,rfl⟩ : ∃ao n' cap,v' = .slice ao n' cap:=by
  rcases hb2 with ⟨A,h,_⟩ | ⟨g,cap,cur,_,h,_⟩
  ·exact⟨_,_,_,h⟩
  ·exact⟨_,_,_,h⟩
 go_wp2_with (at_builtin;refine Lib.wpList_append_run _ rfl _ _ _ _ rfl _ _ rfl rfl _ _ hr ?_)
 go_ret2
 have hS : ∀k,k≠b→(w2.setCell ⟨b,1,none⟩ (.slice ao n' cap)).heap[k]? = w2.heap[k]?:=fun k hk=>Below.heap_setCell _ _ _ _ (fun e=>hk (by simpa using e))
 have hZ:(w2.setCell ⟨b,1,none⟩ (.slice ao n' cap)).heap.size=w2.heap.size:=by simp[World.setCell]
 refine⟨rfl, .slice ao n' cap,own',?_,hb2.kept fun g hg=>hS g (fun e=>hne2 (by rw[hg,e])),hne2,fun g hg=>by have:=hn2 g hg;rw[hsz]at this;exact this,?_,?_,?_,?_,?_⟩
 ·simp[World.setCell,Array.getElem?_modify,hB2]
 ·exact hg2.os.trans hst.os
 ·exact hg2.tape.trans hst.tape
 ·exact hg2.output.trans hst.output
 ·rw[hZ];have:=hg2.size;omega
 ·rintro k hk ⟨k1,k2⟩
  rw[hS k k1,hg2.block k (by omega) (fun e=>k2 e.symm)]
  exact hst.block k hk k1

theorem frz_block (w:World) (g n k:Nat) (h:k≠g):(w.freeze ⟨g,0,none⟩ n).heap[k]? = w.heap[k]?:=by
 unfold World.freeze
 split
 ·rfl
 ·simp only[Array.getElem?_modify]
  rw[if_neg (fun e=>h e.symm)]

theorem frz_stays (w:World) (g n:Nat):Stays w (w.drew.freeze ⟨g,0,none⟩ n) (fun k=>k≠g):=by
 have h : ∀k,k≠g→(w.drew.freeze ⟨g,0,none⟩ n).heap[k]? = w.drew.heap[k]?:=fun k hk=>frz_block _ _ _ _ hk
 refine⟨?_,?_,?_,?_,fun k _ hk=>h k hk⟩
 all_goals (unfold World.freeze;split<;>first | rfl | exact Nat.le_refl _ | (rw[Array.size_modify];exact Nat.le_refl _))

set_option maxHeartbeats 4000000 in
set_option maxRecDepth 100000 in
theorem bld_string (b g cap:Nat) (p:Value) (cur:Array Value) (l:List UInt8) (w:World) (hbk:w.heap[b]? = some (.cells #[p, .slice (some ⟨g,0,none⟩) l.length cap] 162 (0,0)))
  (hg:w.heap[g]? = some (.cells cur 5 (0,0))) (hle:l.length≤cap) (hcap:cap≤9223372036854775807) (hcs:cur.size=cap) (ht:cur.toList.take l.length=Lib.byteCells l) (h0:l≠[]) :
  Calls Tryz.prog 103 #[.pointer (some ⟨b,0,none⟩)] w fun e w'=>e = .returned (.string ⟨l.toArray⟩)∧Stays w w' (fun k=>k≠g):=by
 have hl0:l.length≠0:=by simpa using h0
 have c1:w.drew.cell? ⟨b,1,none⟩=some (.slice (some ⟨g,0,none⟩) l.length cap):=by
  have:w.drew.heap[b]? = some (.cells #[p, .slice (some ⟨g,0,none⟩) l.length cap] 162 (0,0)):=hbk
  rw[Lib.cell_of_heap this];rfl
 have hSD:(Builtin.unsafeSliceData_ #[26] 224 #[.slice (some ⟨g,0,none⟩) l.length cap]).run Tryz.prog w.drew = .ok (.pointer (some ⟨g,0,none⟩)) w.drew:=
  Lib.run_unsafeSliceData_row _ _ _ _ _ _ (by omega)
 have hUS:(Builtin.unsafeString_ #[224,3] 9 #[.pointer (some ⟨g,0,none⟩), .int .i64 l.length]).run Tryz.prog w.drew = .ok (.string ⟨l.toArray⟩) (w.drew.freeze ⟨g,0,none⟩ l.length):=by
  refine Lib.run_unsafeString_row w.drew _ _ _ 5 Tryz.underlying224 (by kernel_rfl) g cur.size (by have hg':w.drew.heap[g]? = some (.cells cur 5 (0,0)):=hg;simp[World.shape?,hg']) l h0 (by omega) (by omega) ?_
  intro j x hx
  have hj:=(List.getElem?_eq_some_iff.1 hx).1
  have e:(cur.toList.take l.length)[j]? = some (.int .u8 x.toNat):=by rw[ht];simp[Lib.byteCells,hx]
  rw[List.getElem?_take,if_pos hj]at e
  have hg':w.drew.heap[g]? = some (.cells cur 5 (0,0)):=hg
  rw[Addr.add_lit,Nat.zero_add]
  simp only[World.cell?,hg']
  simpa using e
 go_enter Tryz.func103,Tryz.ntmps103
 go_wp2
 go_region
 all_goals (go_wp2;go_ret;exact⟨rfl,frz_stays w g l.length⟩)

set_option maxHeartbeats 4000000 in
set_option maxRecDepth 100000 in
theorem bld_string_nil (b:Nat) (p:Value) (w:World) (hbk:w.heap[b]? = some (.cells #[p, .slice none 0 0] 162 (0,0))) :
  Calls Tryz.prog 103 #[.pointer (some ⟨b,0,none⟩)] w fun e w'=>e = .returned (.string ⟨#[]⟩)∧Stays w w' (fun _=>True):=by
 have hUS : ∀W:World,(Builtin.unsafeString_ #[224,3] 9 #[.pointer none, .int .i64 0]).run Tryz.prog W = .ok (.string .empty) W:=fun W=>Lib.run_unsafeString_none W _ _ _ _
 have c1:w.drew.cell? ⟨b,1,none⟩=some (.slice none 0 0):=by
  have:w.drew.heap[b]? = some (.cells #[p, .slice none 0 0] 162 (0,0)):=hbk
  rw[Lib.cell_of_heap this];rfl
 have hSD:(Builtin.unsafeSliceData_ #[26] 224 #[.slice none 0 0]).run Tryz.prog w.drew = .ok (.pointer none) w.drew:=rfl
 go_enter Tryz.func103,Tryz.ntmps103
 go_wp2
 go_region
 all_goals (go_wp2;go_ret;exact⟨rfl,rfl,rfl,rfl,Nat.le_refl _,fun _ _ _=>rfl⟩)

def F.eU (b:UInt8):M.Row:=[.v (.int .u8 b.toNat)]

def F.eUs (s:ByteArray):List M.Row:=s.data.toList.map F.eU

def F.bldS (o:Option ByteArray):ByteArray:=match o with
 | none=>⟨⟨[]⟩⟩
 | some s=>s

def F.bldLen (o:Option ByteArray):Nat:=match o with
 | none=>0
 | some s=>s.size

theorem F.bldS_some (s:ByteArray):F.bldS (some s)=s:=rfl

def F.wstB (o:Option ByteArray) (x:ByteArray):Bool:=decide (F.bldLen o+x.size≤140737488355328)

def F.bstB (o:Option ByteArray):Bool:=o.isNone||decide (0<(F.bldS o).size)

theorem F.wstB_eq (s x:ByteArray):F.wstB (some s) x=decide (s.size+x.size≤140737488355328):=rfl

theorem F.bstB_eq (s:ByteArray):F.bstB (some s)=decide (0<s.size):=rfl

namespace M

theorem eU_inj (a b:UInt8) (h:F.eU a=F.eU b):a=b:=by
 simp only[F.eU,List.cons.injEq,AV.v.injEq,Value.int.injEq,true_and,and_true]at h
 exact UInt8.toNat_inj.1 (by omega)

theorem eUs_inj {a b:ByteArray}:F.eUs a=F.eUs b↔a=b:=by
 unfold F.eUs
 rw[List.map_inj_right eU_inj]
 exact⟨fun h=>ByteArray.ext (Array.ext' h),fun h=>by rw[h]⟩

theorem eUs_len (s:ByteArray):(F.eUs s).length=s.size:=by
 unfold F.eUs
 rw[List.length_map]
 simp

theorem strCells_app (s x:ByteArray):Lib.strCells (s++x)=Lib.strCells s++Lib.strCells x:=by
 unfold Lib.strCells
 simp

def bldIn (o:Option ByteArray):Heap:=match o with
 | none=>[(900,⟨true,162,0,[[.v (.pointer none), .v (.slice none 0 0)]]⟩)]
 | some s=>[(901,⟨false,5,1,F.eUs s⟩),(900,⟨true,162,0,[[.ptr 900 0 0, .own 901]]⟩)]

def bldB (X Y:BI) (kY:Nat):Nat→Option BI:=fun k=>if k=900 then some X else if k=kY then some Y else none

theorem bldB_x (X Y:BI) (kY:Nat):bldB X Y kY 900=some X:=by unfold bldB;rw[if_pos rfl]

theorem bldB_y (X Y:BI) {kY:Nat} (h:kY≠900):bldB X Y kY kY=some Y:=by unfold bldB;rw[if_neg h,if_pos rfl]

theorem bldB_some {X Y:BI} {kY k:Nat} {x:BI} (h:bldB X Y kY k=some x):(k=900∧x=X)∨(k=kY∧k≠900∧x=Y):=by
 unfold bldB at h
 split at h
 ·cases h;exact .inl ⟨‹_›,rfl⟩
 ·split at h
  ·cases h;exact .inr ⟨‹_›, ‹_›,rfl⟩
  ·cases h

theorem arr2 {cs:Array Value} {a b:Value} (h:cs.size=2) (h0:cs[0]? = some a) (h1:cs[1]? = some b):cs = #[a,b]:=by
 refine Array.ext (by simpa using h) fun i hi hj=>?_
 have hi2:i=0∨i=1:=by omega
 rcases hi2 with rfl | rfl
 ·have:=(Array.getElem?_eq_some_iff.1 h0).2
  simpa using this
 ·have:=(Array.getElem?_eq_some_iff.1 h1).2
  simpa using this

theorem bld_inv {G:Nat→Option GR} {w w':World} {S:Nat→Prop} {β:Nat→Option BI} {hin hout:Heap} (inv:InvG G (ownFree w β) w S β hin) {X Y:BI} {kY:Nat} (hk:kY≠900) (hX:β 900=some X) (hXr:X.real=true)
  {P:Nat→Prop} (st:Stays w w' P) (hP : ∀b,b<w.heap.size→(∀k x,β k=some x→x.real=true→x.b≠b)→P b)
  (hY:Y.real=true→Y.b<w'.heap.size∧Y.b≠X.b∧((∃k y,β k=some y∧y.real=true∧y.b=Y.b)∨w.heap.size≤Y.b))
  {bX bY:Blk} (hbX:BlkOK w' S (bldB X Y kY) bX X) (hbY:Y.real=true→BlkOK w' S (bldB X Y kY) bY Y) (hbV:Y.real=false→bY.rows=[]∧bY.box=false)
  (h900:mget hout 900=some bX) (hkY:mget hout kY=some bY) (honly : ∀k bl,mget hout k=some bl→k=900∨k=kY) (hxV:X.real=false→bX.rows=[]∧bX.box=false) :
  Blw (ownFree w β) w w'∧InvG G (ownFree w β) w' S (bldB X Y kY) hout:=by
 obtain⟨x1,x2,x3⟩:=inv.new 900 X hX hXr
 have hSb : ∀b,S b→w'.heap[b]? = w.heap[b]?:=fun b hb=>st.block b (inv.lt b hb) (hP b (inv.lt b hb) fun k x hkx hxr e=>(inv.new k x hkx hxr).2.2 (e▸hb))
 have hBb : ∀b,ownFree w β b→w'.heap[b]? = w.heap[b]?:=fun b hb=>st.block b hb.1 (hP b hb.1 fun k x hkx hxr e=>hb.2 ⟨k,x,hkx,hxr,e⟩)
 have hYn:Y.real=true → ¬ownFree w β Y.b∧Y.b<w'.heap.size ∧ ¬S Y.b:=fun hr=>by
  obtain⟨y1,y2,y3⟩:=hY hr
  rcases y3 with ⟨k,y,k1,k2,k3⟩ | hge
  ·obtain⟨n1,n2,n3⟩:=inv.new k y k1 k2
   rw[←k3]
   exact⟨n1,by rw[k3];exact y1,n3⟩
  ·exact⟨fun h=>by have:=h.1;omega,y1,fun h=>by have:=inv.lt _ h;omega⟩
 refine⟨⟨st.os,st.tape,st.output,st.size,hBb⟩,fun b hb=>Nat.lt_of_lt_of_le (inv.base b hb) st.size,fun b hb=>Nat.lt_of_lt_of_le (inv.lt b hb) st.size,?_,?_,?_,?_,fun g r hg=>(inv.glob g r hg).mono hSb fun _ h=>h⟩
 ·intro k k' x x' h1 h2 r1 r2 e
  rcases bldB_some h1 with ⟨rfl,rfl⟩ | ⟨rfl,_,rfl⟩<;>rcases bldB_some h2 with ⟨rfl,rfl⟩ | ⟨rfl,_,rfl⟩
  ·rfl
  ·exact absurd e.symm (hY r2).2.1
  ·exact absurd e (hY r1).2.1
  ·rfl
 ·intro k x h1 r1
  rcases bldB_some h1 with ⟨rfl,rfl⟩ | ⟨rfl,_,rfl⟩
  ·exact⟨x1,Nat.lt_of_lt_of_le x2 st.size,x3⟩
  ·exact hYn r1
 ·intro k x h1
  rcases bldB_some h1 with ⟨rfl,rfl⟩ | ⟨rfl,_,rfl⟩
  ·exact⟨bX,h900,fun _=>hbX,hxV⟩
  ·exact⟨bY,hkY,hbY,hbV⟩
 ·intro k bl h1
  rcases honly k bl h1 with rfl | rfl
  ·exact⟨X,bldB_x _ _ _⟩
  ·exact⟨Y,bldB_y _ _ hk⟩

theorem buf_blk {w:World} {v:Value} {own:Option Nat} {s:ByteArray} (h:BufAt w v own (Lib.strCells s)) :
  ∃Y:BI,(Y.real=true→own=some Y.b∧v = .slice (some ⟨Y.b,0,none⟩) Y.len Y.cap∧Y.b<w.heap.size ∧ ∀S β,BlkOK w S β ⟨false,5,1,F.eUs s⟩ Y)∧(Y.real=false→F.eUs s=[]∧own=none ∧ ∃A,v = .slice A 0 0):=by
 have hl:=strCells_len s
 rcases h with ⟨A,rfl,h1,rfl⟩ | ⟨g,cap,cur,rfl,rfl,hg,hnc,hcm,hcs,ht⟩
 ·refine⟨⟨false,0,0,0,0⟩,fun h=>(by cases h),fun _=>⟨?_,rfl,A,rfl⟩⟩
  refine List.eq_nil_of_length_eq_zero ?_
  rw[eUs_len,←hl,h1];rfl
 ·refine⟨⟨true,g,s.size,cap,1⟩,fun _=>⟨rfl,by rw[hl],(Array.getElem?_eq_some_iff.1 hg).1,fun S β=>?_⟩,fun h=>(by cases h)⟩
  refine⟨cur,5,hg,by simp only[Nat.mul_one];exact hcs,eUs_len s,by simp only;omega,hcm,fun _=>⟨rfl,rfl⟩,(fun h=>by cases h),fun i row hi=>?_⟩
  simp only[F.eUs,List.getElem?_map,Option.map_eq_some_iff]at hi
  obtain⟨b,hb,rfl⟩:=hi
  refine⟨rfl,fun j a hj=>?_⟩
  have hj0:j=0:=by
   have:=(List.getElem?_eq_some_iff.1 hj).1
   simp only[F.eU,List.length_singleton]at this;omega
  subst hj0
  simp only[F.eU,List.getElem?_cons_zero,Option.some.injEq]at hj
  subst hj
  have hi2:(Lib.strCells s)[i]? = some (.int .u8 b.toNat):=by
   unfold Lib.strCells
   rw[List.getElem?_map,hb];rfl
  have hil:=(List.getElem?_eq_some_iff.1 hi2).1
  rw[←ht,List.getElem?_take,if_pos hil]at hi2
  refine⟨.int .u8 b.toNat,by simpa using hi2,?_⟩
  have hlt:=b.toNat_lt
  have hok:okAtom (.int .u8 b.toNat):=by
   show IntKind.u8.min≤_∧_≤IntKind.u8.max
   simp only[IntKind.min,IntKind.max,IntKind.signed,IntKind.bits]
   simp
   omega
  simpa using R0.v (w:=w) (S:=S) hok

theorem blk_buf {w:World} {S:Nat→Prop} {β:Nat→Option BI} {s:ByteArray} {Z:BI} (h:BlkOK w S β ⟨false,5,1,F.eUs s⟩ Z):BufAt w (.slice (some ⟨Z.b,0,none⟩) Z.len Z.cap) (some Z.b) (Lib.strCells s):=by
 obtain⟨cs,ty,c1,c2,c3,c4,c5,c6,c7,c8⟩:=h
 obtain⟨c61,c62⟩:=c6 rfl
 have hl:=strCells_len s
 simp only at c61 c62 c3
 rw[eUs_len]at c3
 rw[c61]at c1
 refine .inr ⟨Z.b,Z.cap,cs,rfl,by rw[hl,c3],c1,by omega,c5,by rw[c2,c62];simp,?_⟩
 refine List.ext_getElem? fun i=>?_
 rw[List.getElem?_take]
 split
 ·rename_i hi
  have hi2:i<s.data.toList.length:=by rw[hl]at hi;simpa using hi
  have hb:s.data.toList[i]? = some s.data.toList[i]:=List.getElem?_eq_getElem hi2
  generalize s.data.toList[i]=b at hb
  obtain⟨_,c9⟩:=c8 i (F.eU b) (by simp only[F.eUs,List.getElem?_map,hb];rfl)
  obtain⟨v,hv,hr⟩:=c9 0 (vU b.toNat) rfl
  rw[c62]at hv
  have hr:R0 w S (vU b.toNat) v:=by simpa using hr
  cases hr
  unfold Lib.strCells
  rw[List.getElem?_map,hb]
  simpa using hv
 ·rename_i hi
  rw[List.getElem?_eq_none (by omega)]

theorem box_blk {w:World} {S:Nat→Prop} {X Y:BI} {kY:Nat} (hk:kY≠900) {v:Value} (hXr:X.real=true) (h:w.heap[X.b]? = some (.cells #[.pointer (some ⟨X.b,0,none⟩),v] 162 (0,0))) (hXs:X.size=2) (hXl:X.len=1) (hXc:X.cap=1)
  (hv1:Y.real=true→v = .slice (some ⟨Y.b,0,none⟩) Y.len Y.cap) (hv2:Y.real=false → ∃A,v = .slice A 0 0):BlkOK w S (bldB X Y kY) ⟨true,162,0,[[.ptr 900 0 0, .own kY]]⟩ X:=by
 refine⟨_,_,h,by rw[hXs,hXc];rfl,hXl.symm,by omega,by omega,(fun h=>by cases h),fun _=>⟨fun _=>hXc,fun h=>absurd rfl h, .inr rfl⟩,fun i row hi=>?_⟩
 have hi0:i=0:=by
  have:=(List.getElem?_eq_some_iff.1 hi).1
  simp at this;exact this
 subst hi0
 cases hi
 refine⟨hXs.symm,fun j a hj=>?_⟩
 have hj2:j<2:=(List.getElem?_eq_some_iff.1 hj).1
 have hj3:j=0∨j=1:=by omega
 rcases hj3 with rfl | rfl
 ·cases hj
  exact⟨.pointer (some ⟨X.b,0,none⟩),by rw[Nat.zero_mul];rfl,X,bldB_x _ _ _,hXr,by simp⟩
 ·cases hj
  exact⟨v,by rw[Nat.zero_mul];rfl,Y,bldB_y _ _ hk,hv1,hv2⟩

theorem bld_open {G:Nat→Option GR} {w:World} {S:Nat→Prop} {β:Nat→Option BI} {o:Option ByteArray} {u:Value} (inv:InvG G (ownFree w β) w S β (bldIn o)) (h:RV w S β (.ptr 900 0 0) u) :
  ∃X p v own xs,β 900=some X∧X.real=true∧X.size=2∧X.len=1∧X.cap=1∧u = .pointer (some ⟨X.b,0,none⟩)∧(p = .pointer none∨p = .pointer (some ⟨X.b,0,none⟩))∧w.heap[X.b]? = some (.cells #[p,v] 162 (0,0)) ∧
   BufAt w v own xs∧own≠some X.b∧(match o with | none=>xs=[]∧own=none | some s=>xs=Lib.strCells s)∧(∀g,own=some g → ∃k y,β k=some y∧y.real=true∧y.b=g)∧X.b<w.heap.size:=by
 obtain⟨X,hX,hXr,rfl⟩ : ∃x,β 900=some x∧x.real=true∧u = .pointer (some ⟨x.b,0*x.size+0,none⟩):=h
 obtain⟨bl,hb,h3,_⟩:=inv.dom 900 X hX
 obtain⟨cs,ty,c1,c2,c3,c4,c5,c6,c7,c8⟩:=h3 hXr
 have hT:(162:Nat)≠0:=by decide
 cases o with
 | none=>
  have hb0:some (⟨true,162,0,[[.v (.pointer none), .v (.slice none 0 0)]]⟩:Blk)=some bl:=hb
  cases hb0
  obtain⟨d1,_,d2⟩:=c7 rfl
  have d1:=d1 rfl
  have d2:ty=162:=d2.resolve_left hT
  obtain⟨e1,e2⟩:=c8 0 _ rfl
  have e1:X.size=2:=e1.symm
  obtain⟨v0,f0,g0⟩:=e2 0 _ rfl
  obtain⟨v1,f1,g1⟩:=e2 1 _ rfl
  have g0:R0 w S (.v (.pointer none)) v0:=g0
  cases g0
  have g1:R0 w S (.v (.slice none 0 0)) v1:=g1
  cases g1
  rw[Nat.zero_mul]at f0 f1
  have hcs:=arr2 (by rw[c2,d1,e1]) f0 f1
  rw[hcs,d2]at c1
  exact⟨X,_,_,none,[],hX,hXr,e1,c3.symm,d1,by simp, .inl rfl,c1, .inl ⟨none,rfl,rfl,rfl⟩,(by simp),⟨rfl,rfl⟩,(fun g h=>by cases h),(inv.new 900 X hX hXr).2.1⟩
 | some s=>
  have hb0:some (⟨true,162,0,[[.ptr 900 0 0, .own 901]]⟩:Blk)=some bl:=hb
  cases hb0
  obtain⟨d1,_,d2⟩:=c7 rfl
  have d1:=d1 rfl
  have d2:ty=162:=d2.resolve_left hT
  obtain⟨e1,e2⟩:=c8 0 _ rfl
  have e1:X.size=2:=e1.symm
  obtain⟨v0,f0,g0⟩:=e2 0 _ rfl
  obtain⟨v1,f1,g1⟩:=e2 1 _ rfl
  obtain⟨X',hX',_,rfl⟩ : ∃x,β 900=some x∧x.real=true∧v0 = .pointer (some ⟨x.b,0*x.size+0,none⟩):=g0
  rw[hX]at hX'
  cases hX'
  obtain⟨Z,hZ,z1,z2⟩ : ∃x,β 901=some x∧(x.real=true→v1 = .slice (some ⟨x.b,0,none⟩) x.len x.cap)∧(x.real=false → ∃A,v1 = .slice A 0 0):=g1
  rw[Nat.zero_mul]at f0 f1
  have hcs:=arr2 (by rw[c2,d1,e1]) f0 f1
  rw[hcs,d2]at c1
  obtain⟨bl2,hb2,h4,h5⟩:=inv.dom 901 Z hZ
  have hb3:some (⟨false,5,1,F.eUs s⟩:Blk)=some bl2:=hb2
  cases hb3
  cases hr:Z.real
  ·obtain⟨A,rfl⟩:=z2 hr
   have h6:F.eUs s=[]:=(h5 hr).1
   have h7:Lib.strCells s=[]:=List.eq_nil_of_length_eq_zero (by rw[strCells_len,←eUs_len,h6];rfl)
   exact⟨X,_,_,none,_,hX,hXr,e1,c3.symm,d1,by simp, .inr (by simp),c1, .inl ⟨A,rfl,h7,rfl⟩,(by simp),rfl,(fun g h=>by cases h),(inv.new 900 X hX hXr).2.1⟩
  ·have hne:Z.b≠X.b:=fun e=>by
    have:=inv.inj 901 900 Z X hZ hX hr hXr e
    omega
   rw[z1 hr]at c1
   exact⟨X,_,_,some Z.b,_,hX,hXr,e1,c3.symm,d1,by simp, .inr (by simp),c1,blk_buf (h4 hr),(by simpa using hne),rfl,(fun g h=>⟨901,Z,hZ,hr,by cases h;rfl⟩),(inv.new 900 X hX hXr).2.1⟩

def encWst (a:Option ByteArray×ByteArray):List AV×Heap:=([.ptr 900 0 0,vS a.2],bldIn a.1)

theorem encWst_inj (a a':Option ByteArray×ByteArray) (h:encWst a=encWst a'):a=a':=by
 obtain⟨o,x⟩:=a
 obtain⟨o',x'⟩:=a'
 unfold encWst at h
 simp only[Prod.mk.injEq,List.cons.injEq,AV.v.injEq,Value.string.injEq,true_and,and_true]at h
 obtain⟨rfl,h⟩:=h
 cases o with
 | none=>cases o' with
  | none=>rfl
  | some s=>simp[bldIn]at h
 | some s=>cases o' with
  | none=>simp[bldIn]at h
  | some s'=>
   simp only[bldIn,List.cons.injEq,Prod.mk.injEq,Blk.mk.injEq,true_and,and_true]at h
   rw[eUs_inj.1 h]

theorem unWst (x:ByteArray):unenc encWst (([.ptr 900 0 0,(vS x)],[(900,Blk.mk true 162 0 [[AV.v (Value.pointer none),AV.v (Value.slice none (0:Nat) (0:Nat))]])]))=some (none,x):=unenc_of encWst_inj (none,x) rfl

theorem unWstU (s:ByteArray) (x:ByteArray):unenc encWst (([.ptr 900 0 0,(vS x)],[(901,Blk.mk false 5 1 (F.eUs s)),(900,Blk.mk true 162 0 [[.ptr 900 0 0, .own 901]])]))=some (some s,x):=unenc_of encWst_inj (some s,x) rfl

def preWst1 (o:Option ByteArray) (x:ByteArray):Bool:=F.wstB o x

def resWst (a:Option ByteArray×ByteArray):T (AV×Heap×List Nat):= .ifB a.1.isNone
 (.ret (.tup [vI a.2.size, .v .nilIface],[(900,⟨true,162,0,[[.ptr 900 0 0, .own 0]]⟩),(0,⟨false,5,1,F.eUs a.2⟩)],[]))
 (.ret (.tup [vI a.2.size, .v .nilIface],[(901,⟨false,5,1,F.eUs (F.bldS a.1++a.2)⟩),(900,⟨true,162,0,[[.ptr 900 0 0, .own 901]]⟩)],[901]))

noncomputable def oWst:OrcH:=orcT 99 encWst (fun a=>preWst1 a.1 a.2) resWst

theorem okWst:OrcHOK Tryz.prog noG oWst:=by
 refine orcT_ok ⟨Tryz.f99,by kernel_rfl,by kernel_rfl,by kernel_rfl⟩ (fun a r hp hk1 hk2 hr=>?_)
 obtain⟨o,x⟩:=a
 have hp:decide (F.bldLen o+x.size≤140737488355328)=true:=hp
 have hp:F.bldLen o+x.size≤140737488355328:=of_decide_eq_true hp
 have hx:x.size≤9223372036854775807:=okA_v (hk1 (vS x) (by simp[encWst]))
 intro w S β cargs inv hargs
 match cargs,hargs with
 | [u,vx],⟨h1,h2,_⟩=>
  have hvx:vx = .string x:=(rv_v h2).1
  subst hvx
  obtain⟨X,p,v,own,xs,hX,hXr,hXs,hXl,hXc,rfl,hp2,hbk,hbuf,hne,ho,hown,hlt⟩:=bld_open (o:=o) inv h1
  have hlen:xs.length+x.size≤140737488355328:=by
   cases o with
   | none=>rw[ho.1];simpa[F.bldLen]using hp
   | some s=>rw[show xs=Lib.strCells s from ho,strCells_len];exact hp
  refine(bld_write X.b p v own xs x hp2 w hbk hbuf hne hlen).mono ?_
  rintro e w' ⟨rfl,v',own',k1,k2,k3,k4,k5⟩
  have hP : ∀b,b<w.heap.size→(∀k x,β k=some x→x.real=true→x.b≠b)→b≠X.b∧own≠some b:=fun b _ hb=>⟨fun e=>hb 900 X hX hXr e.symm,fun e=>by
   obtain⟨k,y,y1,y2,y3⟩:=hown b e
   exact hb k y y1 y2 y3⟩
  have ret:RV w' S (fun _=>none) (.tup [vI x.size, .v .nilIface]) (.tuple #[.int .i64 x.size, .nilIface]):=by
   refine⟨[.int .i64 x.size, .nilIface],rfl,?_,?_,trivial⟩
   ·have hok:okAtom (.int .i64 (x.size:Int)):=by
     show IntKind.i64.min≤_∧_≤IntKind.i64.max
     simp only[IntKind.min,IntKind.max,IntKind.signed,IntKind.bits]
     simp
     omega
    exact R0.v (w:=w') (S:=S) hok
   ·exact R0.v (w:=w') (S:=S) (x:= .nilIface) trivial
  cases o with
  | none=>
   have hr:(.tup [vI x.size, .v .nilIface],[(900,⟨true,162,0,[[.ptr 900 0 0, .own 0]]⟩),(0,⟨false,5,1,F.eUs x⟩)],[])=r:=Option.some.inj hr
   subst hr
   rw[ho.1,List.nil_append]at k2
   obtain⟨Y,y1,y2⟩:=buf_blk k2
   obtain⟨f1,f2⟩:=bld_inv inv (kY:=0) (by omega) hX hXr k5 hP (Y:=Y) (fun hr=>by
     obtain⟨z1,z2,z3,z4⟩:=y1 hr
     refine⟨z3,fun e=>k3 (by rw[z1,e]),?_⟩
     rcases k4 _ z1 with h | h
     ·exact .inl (hown _ h)
     ·exact .inr h)
    (box_blk (by omega) hXr k1 hXs hXl hXc (fun hr=>(y1 hr).2.1) (fun hr=>(y2 hr).2.2)) (fun hr=>(y1 hr).2.2.2 _ _) (fun hr=>⟨(y2 hr).1,rfl⟩)
    (hout:=[(900,⟨true,162,0,[[.ptr 900 0 0, .own 0]]⟩),(0,⟨false,5,1,F.eUs x⟩)]) rfl rfl (fun k bl hk=>by
     simp only[mget]at hk
     split at hk
     ·rename_i h;exact .inl (beq_true.1 h)
     ·split at hk
      ·rename_i h;exact .inr (beq_true.1 h)
      ·cases hk) (fun h=>by rw[hXr]at h;cases h)
   refine⟨_,S,_,rfl,f1,fun _ h=>h,fun _ h=> .inl h,f2,fun k y hk _ hy=>?_,ret.mono (fun _ _=>rfl) (fun _ h=>h) fun k _ x hx=>(by cases hx)⟩
   rcases bldB_some hy with ⟨rfl,rfl⟩ | ⟨rfl,_,rfl⟩
   ·exact hX
   ·exact absurd hk (by simp[inK])
  | some s=>
   have hr:(.tup [vI x.size, .v .nilIface],[(901,⟨false,5,1,F.eUs (s++x)⟩),(900,⟨true,162,0,[[.ptr 900 0 0, .own 901]]⟩)],[901])=r:=Option.some.inj hr
   subst hr
   rw[show xs=Lib.strCells s from ho,←strCells_app]at k2
   obtain⟨Y,y1,y2⟩:=buf_blk k2
   obtain⟨f1,f2⟩:=bld_inv inv (kY:=901) (by omega) hX hXr k5 hP (Y:=Y) (fun hr=>by
     obtain⟨z1,z2,z3,z4⟩:=y1 hr
     refine⟨z3,fun e=>k3 (by rw[z1,e]),?_⟩
     rcases k4 _ z1 with h | h
     ·exact .inl (hown _ h)
     ·exact .inr h)
    (box_blk (by omega) hXr k1 hXs hXl hXc (fun hr=>(y1 hr).2.1) (fun hr=>(y2 hr).2.2)) (fun hr=>(y1 hr).2.2.2 _ _) (fun hr=>⟨(y2 hr).1,rfl⟩)
    (hout:=[(901,⟨false,5,1,F.eUs (s++x)⟩),(900,⟨true,162,0,[[.ptr 900 0 0, .own 901]]⟩)]) rfl rfl (fun k bl hk=>by
     simp only[mget]at hk
     split at hk
     ·rename_i h;exact .inr (beq_true.1 h)
     ·split at hk
      ·rename_i h;exact .inl (beq_true.1 h)
      ·cases hk) (fun h=>by rw[hXr]at h;cases h)
   refine⟨_,S,_,rfl,f1,fun _ h=>h,fun _ h=> .inl h,f2,fun k y hk hm hy=>?_,ret.mono (fun _ _=>rfl) (fun _ h=>h) fun k _ x hx=>(by cases hx)⟩
   rcases bldB_some hy with ⟨rfl,rfl⟩ | ⟨rfl,_,rfl⟩
   ·exact hX
   ·exact absurd (List.mem_singleton.2 rfl) hm

theorem okBstU (s:ByteArray) (hp:decide (0<s.size)=true):SpecH Tryz.prog noG 103 [.ptr 900 0 0] [(901,⟨false,5,1,F.eUs s⟩),(900,⟨true,162,0,[[.ptr 900 0 0, .own 901]]⟩)] (vS s) [(901,⟨false,5,1,[]⟩),(900,⟨true,162,0,[[.ptr 900 0 0, .unk]]⟩)] [901]:=by
 have hp:0<s.size:=of_decide_eq_true hp
 intro w S β cargs inv hargs
 match cargs,hargs with
 | [u],⟨h1,_⟩=>
  obtain⟨X,p,v,own,xs,hX,hXr,hXs,hXl,hXc,rfl,hp2,hbk,hbuf,hne,ho,hown,hlt⟩:=bld_open (o:=some s) inv h1
  have ho:xs=Lib.strCells s:=ho
  subst ho
  rcases hbuf with ⟨A,_,h,_⟩ | ⟨g,cap,cur,rfl,rfl,hg,hnc,hcm,hcs,ht⟩
  ·have:=strCells_len s
   rw[h]at this
   simp at this;omega
  have hl:(Lib.strCells s).length=s.data.toList.length:=by rw[strCells_len];simp
  rw[hl]at hbk hnc ht
  have hgX:g≠X.b:=fun e=>hne (by rw[e])
  refine(bld_string X.b g cap p cur s.data.toList w hbk hg hnc hcm hcs ht (fun e=>by
   have:s.data.toList.length=s.size:=by simp
   rw[e]at this;simp at this;omega)).mono ?_
  rintro e w' ⟨rfl,st⟩
  have hsz:s.size≤9223372036854775807:=by
   have:s.data.toList.length=s.size:=by simp
   omega
  have hb2:w'.heap[X.b]? = some (.cells #[p, .slice (some ⟨g,0,none⟩) s.data.toList.length cap] 162 (0,0)):=by
   rw[st.block X.b hlt (fun e=>hgX e.symm)];exact hbk
  have hpp:p = .pointer (some ⟨X.b,0,none⟩)∨p = .pointer none:=hp2.symm
  have hpX:p = .pointer (some ⟨X.b,0,none⟩):=by
   obtain⟨bl,hb,h3,_⟩:=inv.dom 900 X hX
   have hb0:some (⟨true,162,0,[[.ptr 900 0 0, .own 901]]⟩:Blk)=some bl:=hb
   cases hb0
   obtain⟨cs,ty,c1,c2,c3,c4,c5,c6,c7,c8⟩:=h3 hXr
   obtain⟨e1,e2⟩:=c8 0 _ rfl
   obtain⟨v0,f0,g0⟩:=e2 0 _ rfl
   obtain⟨X',hX',_,rfl⟩ : ∃x,β 900=some x∧x.real=true∧v0 = .pointer (some ⟨x.b,0*x.size+0,none⟩):=g0
   rw[hX]at hX'
   cases hX'
   rw[hbk]at c1
   cases c1
   rw[Nat.zero_mul]at f0
   exact(Option.some.inj f0)
  have hbX:BlkOK w' S (bldB X ⟨false,0,0,0,0⟩ 901) ⟨true,162,0,[[.ptr 900 0 0, .unk]]⟩ X:=by
   refine⟨_,_,hb2,by rw[hXs,hXc];rfl,hXl.symm,by omega,by omega,(fun h=>by cases h),fun _=>⟨fun _=>hXc,fun h=>absurd rfl h, .inr rfl⟩,fun i row hi=>?_⟩
   have hi0:i=0:=by
    have:=(List.getElem?_eq_some_iff.1 hi).1
    simp at this;exact this
   subst hi0
   cases hi
   refine⟨hXs.symm,fun j a hj=>?_⟩
   have hj2:j<2:=(List.getElem?_eq_some_iff.1 hj).1
   have hj3:j=0∨j=1:=by omega
   rcases hj3 with rfl | rfl
   ·cases hj
    exact⟨p,by rw[Nat.zero_mul];rfl,X,bldB_x _ _ _,hXr,by simp[hpX]⟩
   ·cases hj
    exact⟨.slice (some ⟨g,0,none⟩) s.data.toList.length cap,by rw[Nat.zero_mul];rfl,R0.unk (w:=w') (S:=S) rfl⟩
  obtain⟨f1,f2⟩:=bld_inv inv (kY:=901) (by omega) hX hXr st (fun b _ hb=>fun e=>by
    obtain⟨k,y,y1,y2,y3⟩:=hown g rfl
    exact hb k y y1 y2 (by rw[y3,e])) (Y:=⟨false,0,0,0,0⟩) (fun h=>by cases h) hbX (fun h=>by cases h) (bY:=⟨false,5,1,[]⟩) (fun _=>⟨rfl,rfl⟩)
    (hout:=[(901,⟨false,5,1,[]⟩),(900,⟨true,162,0,[[.ptr 900 0 0, .unk]]⟩)]) rfl rfl (fun k bl hk=>by
     simp only[mget]at hk
     split at hk
     ·rename_i h;exact .inr (beq_true.1 h)
     ·split at hk
      ·rename_i h;exact .inl (beq_true.1 h)
      ·cases hk) (fun h=>by rw[hXr]at h;cases h)
  refine⟨_,S,_,rfl,f1,fun _ h=>h,fun _ h=> .inl h,f2,fun k y hk hm hy=>?_,rv_mk (show okAtom (.string s) from hsz)⟩
  rcases bldB_some hy with ⟨rfl,rfl⟩ | ⟨rfl,_,rfl⟩
  ·exact hX
  ·exact absurd (List.mem_singleton.2 rfl) hm

def encBst (o:Option ByteArray):List AV×Heap:=([.ptr 900 0 0],bldIn o)

theorem encBst_inj (a a':Option ByteArray) (h:encBst a=encBst a'):a=a':=by
 have:=encWst_inj (a,⟨⟨[]⟩⟩) (a',⟨⟨[]⟩⟩) (by
  unfold encBst at h
  unfold encWst
  simp only[Prod.mk.injEq,true_and]at h ⊢
  exact h)
 exact(Prod.mk.inj this).1

theorem unBstU (s:ByteArray):unenc encBst (([.ptr 900 0 0],[(901,Blk.mk false 5 1 (F.eUs s)),(900,Blk.mk true 162 0 [[.ptr 900 0 0, .own 901]])]))=some (some s):=unenc_of encBst_inj (some s) rfl

def preBst1 (o:Option ByteArray):Bool:=F.bstB o

def resBst (o:Option ByteArray):T (AV×Heap×List Nat):= .ifB o.isNone
 (.ret (vS ⟨⟨[]⟩⟩,[(900,⟨true,162,0,[[.v (.pointer none), .v (.slice none 0 0)]]⟩)],[]))
 (.ret (vS (F.bldS o),[(901,⟨false,5,1,[]⟩),(900,⟨true,162,0,[[.ptr 900 0 0, .unk]]⟩)],[901]))

noncomputable def oBst:OrcH:=orcT 103 encBst preBst1 resBst

theorem okBst:OrcHOK Tryz.prog noG oBst:=by
 refine orcT_ok ⟨Tryz.f103,by kernel_rfl,by kernel_rfl,by kernel_rfl⟩ (fun o r hp _ _ hr=>?_)
 cases o with
 | none=>
  have hr:(vS ⟨⟨[]⟩⟩,[(900,⟨true,162,0,[[.v (.pointer none), .v (.slice none 0 0)]]⟩)],[])=r:=Option.some.inj hr
  subst hr
  intro w S β cargs inv hargs
  match cargs,hargs with
  | [u],⟨h1,_⟩=>
   obtain⟨X,hX,hXr,rfl⟩ : ∃x,β 900=some x∧x.real=true∧u = .pointer (some ⟨x.b,0*x.size+0,none⟩):=h1
   obtain⟨bl,hb,h3,_⟩:=inv.dom 900 X hX
   have hb0:some (⟨true,162,0,[[.v (.pointer none), .v (.slice none 0 0)]]⟩:Blk)=some bl:=hb
   cases hb0
   obtain⟨cs,ty,c1,c2,c3,c4,c5,c6,c7,c8⟩:=h3 hXr
   have hT:(162:Nat)≠0:=by decide
   obtain⟨d1,_,d2⟩:=c7 rfl
   have d1:=d1 rfl
   have d2:ty=162:=d2.resolve_left hT
   obtain⟨e1,e2⟩:=c8 0 _ rfl
   have e1:X.size=2:=e1.symm
   obtain⟨v0,f0,g0⟩:=e2 0 _ rfl
   obtain⟨v1,f1,g1⟩:=e2 1 _ rfl
   have g0:R0 w S (.v (.pointer none)) v0:=g0
   cases g0
   have g1:R0 w S (.v (.slice none 0 0)) v1:=g1
   cases g1
   rw[Nat.zero_mul]at f0 f1
   have hcs:=arr2 (by rw[c2,d1,e1]) f0 f1
   rw[hcs,d2]at c1
   rw[show(0*X.size+0)=0 by simp]
   refine(bld_string_nil X.b _ w c1).mono ?_
   rintro e w' ⟨rfl,st⟩
   have hO : ∀b,b<w.heap.size→w'.heap[b]? = w.heap[b]?:=fun b hb=>st.block b hb trivial
   refine⟨_,S,β,rfl,⟨st.os,st.tape,st.output,st.size,fun b hb=>hO b hb.1⟩,fun _ h=>h,fun _ h=> .inl h,?_,fun _ _ _ _ h=>h,R0.v (w:=w') (S:=S) (x:= .string ⟨#[]⟩) (by show(0:Nat)≤_;omega)⟩
   have g:Gr (ownFree w β) w S β w' S β:=⟨⟨st.os,st.tape,st.output,st.size,fun b hb=>hO b hb.1⟩,fun b hb=>hO b (inv.lt b hb),fun _ h=>h,fun _ h=> .inl h,fun _ _ h=>h,fun _ _ _ h=>h⟩
   exact⟨fun b hb=>Nat.lt_of_lt_of_le (inv.base b hb) st.size,fun b hb=>Nat.lt_of_lt_of_le (inv.lt b hb) st.size,inv.inj,fun k x hx hr=>by
     obtain⟨n1,n2,n3⟩:=inv.new k x hx hr
     exact⟨n1,Nat.lt_of_lt_of_le n2 st.size,n3⟩,fun k x hx=>by
     obtain⟨bl,a1,a2,a3⟩:=inv.dom k x hx
     exact⟨bl,a1,fun hr=>(a2 hr).go g (hO _ (inv.new k x hx hr).2.1),a3⟩,inv.cov,fun gl row hg=>(inv.glob gl row hg).mono g.keep g.sub⟩
 | some s=>
  have hr:(vS s,[(901,⟨false,5,1,[]⟩),(900,⟨true,162,0,[[.ptr 900 0 0, .unk]]⟩)],[901])=r:=Option.some.inj hr
  subst hr
  have hp:decide (0<s.size)=true:=hp
  exact okBstU s hp

end M

end Go.Proofs.YtbeobbjiogbdlaaGreatDoor

namespace Go.Proofs.YtbeobbjiogbdlaaGreatDoor
open Go Go.RowKit Go.Sort
set_option linter.unusedVariables false
set_option linter.unusedSimpArgs false

namespace F

theorem zrs_succ (k:Nat) (s:ByteArray):zrs (k+1)++s=zrs k++((⟨⟨[48]⟩⟩:ByteArray)++s):=by
 refine bsx ?_
 simp only[bs_cat,bs_zrs]
 rw[List.replicate_succ',List.append_assoc]
 rfl

theorem zrs_zero (s:ByteArray):zrs 0++s=s:=by
 refine bsx ?_
 rw[bs_cat]
 rfl

theorem zrs_size (k:Nat):(zrs k).size=k:=by
 rw[size_bs,bs_zrs,List.length_replicate]

theorem rep_zrs (k:Nat):(⟨(Lib.repeatL [48] k).toArray⟩:ByteArray)=zrs k:=by
 refine bsx ?_
 show(Lib.repeatL [48] k).toArray.toList=_
 rw[bs_zrs]
 simp only[]
 induction k with
 | zero=>rfl
 | succ k ih=>simp only[Lib.repeatL,List.replicate_succ,ih];rfl

end F

namespace M

theorem below_grow (w:World) (k:Nat) (os:Array Obj):Below w.heap.size w (grow (w.drewN k) os):=
 ⟨rfl,rfl,rfl,by first | (simp[grow];done) | (simp[grow];omega),fun i hi=>by
  show((w.drewN k).heap++os)[i]? = _
  rw[Array.getElem?_append_left (by show i<w.heap.size;omega)]
  rfl⟩

def encIta1 (n:Int):List AV:=[vI n]

def encIta (a:Int):List AV:=encIta1 a

theorem encIta_inj (a a':Int) (h:encIta a=encIta a'):a=a':=by
 simp only[encIta,encIta1]at h
 try simp[]at h
 grind

theorem unIta (n:Int):unenc encIta ([(vI n)])=some (n):=unenc_of encIta_inj (n) rfl

def resIta1 (n:Int):AV×Heap:=(vS (F.itoa n),[])

def preIta1 (n:Int):Bool:=decide (-9223372036854775808≤n)&&decide (n≤9223372036854775807)

noncomputable def oIta:Orc:=orc 29 true encIta (fun a=>preIta1 a) fun a=>resIta1 a

theorem okIta:OrcOK Tryz.prog noG oIta:=by
 refine orc_ok ⟨Tryz.f29,by kernel_rfl,by kernel_rfl,by kernel_rfl⟩ (fun n hp _=>?_) (fun _ _=>⟨rfl,rfl⟩)
 simp only[preIta1,Bool.and_eq_true,decide_eq_true_eq]at hp
 have hz:=F.itoa_size hp.1 hp.2
 refine SpecP.below1 (fun w S=>rv_mk (by show(F.itoa n).size≤9223372036854775807;omega)) fun _ w S hG=>?_
 have hg:=hG 2 ⟨[],fun cs=>cs=(Lib.pow10Tab.map fun z=>Value.int .u64 z).toArray⟩ rfl
 obtain⟨cs,ty,o,h1,h2⟩:=hg.cells
 have htab : Lib.TabIs Tryz.prog w "internal/strconv.uint64pow10" .u64 Lib.pow10Tab := by
  have hn : Tryz.prog.globalNamed "internal/strconv.uint64pow10" = some 2 := by kernel_rfl
  simp only[Lib.TabIs,World.var?,hn,Option.bind_some,h1]
  rw[h2]
 refine(Tryz.strconv_Itoa n hp.1 hp.2 w htab).mono ?_
 rintro e w' ⟨he,k,os,rfl⟩
 exact⟨he,below_grow w k os⟩

def stPad (many:Nat) (s:ByteArray):St:=⟨[(5,vS s),(1,vI many)],[]⟩

def stPad1 (a:Nat×ByteArray):St:=stPad a.1 a.2

theorem stPad_inj (a a':Nat×ByteArray) (h:stPad1 a=stPad1 a'):a=a':=by
 simp only[stPad1,stPad]at h
 try simp[]at h
 grind

theorem unstPad (many:Nat) (s:ByteArray):unenc stPad1 (St.mk [(5,(vS s)),(1,(vI (↑many:Int)))] [])=some (many,s):=unenc_of stPad_inj (many,s) rfl

def outPad (many:Nat) (s:ByteArray):T (Ex×St):= .ret (.exit 0,⟨[(5,vS (F.zrs (many - s.size)++s))],[]⟩)

noncomputable def prlPad (many:Nat) (s:ByteArray):Bool:=decide (many≤1000)

noncomputable def lpPad:Nat×(St→T (Ex×St)):=(2,lpo [5,1] [] stPad1 (fun a=>prlPad a.1 a.2) fun a=>outPad a.1 a.2)

noncomputable def enPad:Env:=envH ty noG lks [oIta] [] [] [lpPad]

theorem enPad_ok:EnvOK Tryz.prog enPad:=by
 refine envH_ok lks_ok ty_ok ?_ ?_
 ·simp only[List.forall_mem_cons]
  exact⟨okIta,by simp⟩
 ·simp

theorem evPadL (many:Nat) (s:ByteArray):((exec enPad (loopN Tryz.f200 0) (stPad many s)).bind (lessX ([5,1],[]) ([5],[]) ([],[]))).val =
 bif decide ((↑(ByteArray.size s):Int)<(↑many:Int)) then bif Nat.ble (ByteArray.size (ByteArray.mk (Array.mk [(48:UInt8)]))+ByteArray.size s) 9223372036854775807 then some (Ex.normal,St.mk [(5,(vS (ByteArray.mk (Array.mk [(48:UInt8)])++s))),(1,(vI (↑many:Int)))] []) else none else some (Ex.exit (0:Nat),St.mk
 [(5,(vS s))] []):=(execR_bind _ _ _).symm.trans (by kernel_rfl)

theorem lpPad_ok (many:Nat) (s:ByteArray) (hp:prlPad many s=true) : ∀ex s',(outPad many s).val=some (ex,s')→LoopOK enPad (loopN Tryz.f200 0) (stPad many s) ex s':=by
 simp only[prlPad,decide_eq_true_eq]at hp
 refine loop_gen (st:=fun s:ByteArray=>stPad many s) (out:=fun s=>outPad many s) (I:=fun _=>True) (n:=([5,1],[])) (e:=([5],[])) (r:=([],[])) (fun s=>many - s.size) ?_ s trivial
 intro s _
 by_cases h:s.size<many
 ·right
  have e1:((⟨⟨[48]⟩⟩:ByteArray)++s).size=s.size+1:=by rw[ByteArray.size_append];show 1+s.size=_;omega
  refine⟨⟨⟨[48]⟩⟩++s,?_,rfl,trivial,by omega,?_⟩
  ·rw[evPadL]
   simp only[cond_true,decide_eq_true (show(s.size:Int)<(many:Int) by omega)]
   rw[ble_t (show(ByteArray.mk (Array.mk [48])).size+s.size≤9223372036854775807 by show 1+s.size≤_;omega)]
   rfl
  ·have e2:many - s.size=(many - (s.size+1))+1:=by omega
   simp only[outPad,e1]
   rw[e2,F.zrs_succ]
 ·left
  refine⟨(.exit 0,⟨[(5,vS s)],[]⟩),?_,?_,by simp,rfl⟩
  ·rw[evPadL]
   simp only[cond_false,decide_eq_false (show ¬(s.size:Int)<(many:Int) by omega)]
  ·simp only[outPad]
   rw[show many - s.size=0 by omega,F.zrs_zero]
   rfl

theorem evPad (n:Int) (many:Nat):(runF enPad false Tryz.f200 [vI n,vI many]).val =
 Option.bind (unenc encIta [(vI n)]) fun z=>bif decide ((-9223372036854775808:Int)≤z)&&decide (z≤9223372036854775807) then Option.bind (unenc
 stPad1 (St.mk [(5,(vS (F.itoa z))),(1,(vI (↑many:Int)))] [])) fun z=>bif decide (z.1≤1000)&&true then some ((vS (F.zrs (z.1 -
 ByteArray.size z.2)++z.2)),[]) else none else none:=(runFR_val).symm.trans (by kernel_rfl)

def encPad1 (n:Int) (many:Nat):List AV:=[vI n,vI many]

def encPad (a:Int×Nat):List AV:=encPad1 a.1 a.2

theorem encPad_inj (a a':Int×Nat) (h:encPad a=encPad a'):a=a':=by
 simp only[encPad,encPad1]at h
 try simp[]at h
 grind

theorem unPad (n:Int) (many:Nat):unenc encPad ([(vI n),(vI (↑many:Int))])=some (n,many):=unenc_of encPad_inj (n,many) rfl

def resPad1 (n:Int) (many:Nat):AV×Heap:=(vS (F.pad n many),[])

def prePad1 (n:Int) (many:Nat):Bool:=decide (-9223372036854775808≤n)&&decide (n≤9223372036854775807)&&decide (many≤1000)

noncomputable def oPad:Orc:=orc 200 true encPad (fun a=>prePad1 a.1 a.2) fun a=>resPad1 a.1 a.2

theorem okPad:OrcOK Tryz.prog noG oPad:=by
 refine mk_ok Tryz.f200 (keep:=false) (by kernel_rfl) (by kernel_rfl) enPad_ok mixed (one_loop (x0:=loopN Tryz.f200 0) (by kernel_rfl) (lpo_ok ?_)) (by first | exact fun _ _=>⟨rfl,rfl⟩ | (intro h;cases h)) ?_
 ·rintro⟨many,s⟩ hp
  exact lpPad_ok many s hp
 rintro⟨n,many⟩ hpre hok
 show(runF enPad false _ (encPad1 _ _)).val=some (resPad1 _ _)
 unfold encPad1 resPad1
 rw[evPad]
 simp only[prePad1,Bool.and_eq_true]at hpre
 simp only[unIta,unstPad,Option.bind_some,cond_true,Bool.and_true,hpre.1.1,hpre.1.2,hpre.2,F.pad]
 try rfl

theorem unPad2 (n:Int):unenc encPad ([vI n,vI 2])=some (n,2):=unPad n 2

theorem unPad3 (n:Int):unenc encPad ([vI n,vI 3])=some (n,3):=unPad n 3

theorem pre64 {k:Nat} (h:k<1000):(decide (-9223372036854775808≤(k:Int))&&decide ((k:Int)≤9223372036854775807))=true:=by
 rw[decide_eq_true (show -9223372036854775808≤(k:Int) by omega),decide_eq_true (show(k:Int)≤9223372036854775807 by omega)];rfl

noncomputable def enTiT:Env:=envH ty noG lks [oPad] [] [] []

theorem enTiT_ok:EnvOK Tryz.prog enTiT:=by
 refine envH_ok lks_ok ty_ok ?_ ?_
 ·simp only[List.forall_mem_cons]
  exact⟨okPad,by simp⟩
 ·simp

theorem evTiT (t:Int) (p:ByteArray):(runF enTiT false Tryz.f158 [vI t,vS p]).val =
 (fun(q:ByteArray)=>(fun(q_1:List AV)=>Option.bind (unenc encPad ((vI (IntKind.i64.wrap (Int.tdiv t (3600000:Int))))::q_1)) fun z=>
 (fun(q_2:ByteArray)=>bif decide ((-9223372036854775808:Int)≤z.1)&&decide (z.1≤9223372036854775807)&&decide (z.2≤1000) then bif
 Nat.ble (ByteArray.size (F.pad z.1 z.2)+ByteArray.size q) 9223372036854775807 then Option.bind (unenc encPad ((vI (Int.tmod (IntKind.wrap IntKind.i64
 (Int.tdiv t (60000:Int))) (60:Int)))::q_1)) fun z=>bif decide ((-9223372036854775808:Int)≤z.1)&&decide (z.1≤9223372036854775807)
 && decide (z.2≤1000) then bif Nat.ble (ByteArray.size q_2+ByteArray.size (F.pad z.1 z.2)) 9223372036854775807 then bif Nat.ble (ByteArray.size
 (q_2++F.pad z.1 z.2)+ByteArray.size q) 9223372036854775807 then Option.bind (unenc encPad ((vI (Int.tmod (IntKind.i64.wrap (Int.tdiv t (1000 :
 Int))) (60:Int)))::q_1)) fun z_1=>(fun(q_3:ByteArray)=>bif decide ((-9223372036854775808:Int)≤z_1.1)&&decide (z_1.1 ≤
 (9223372036854775807:Int))&&decide (z_1.2≤1000) then bif Nat.ble (ByteArray.size (q_2++F.pad z.1 z.2++q)+ByteArray.size (F.pad z_1.1 z_1.2))
 (9223372036854775807:Nat) then bif Nat.ble (ByteArray.size q_3+ByteArray.size p) 9223372036854775807 then Option.bind (unenc encPad [(vI (Int.tmod t (1000 :
 Int))),(vI 3)]) fun z=>bif decide ((-9223372036854775808:Int)≤z.1)&&decide (z.1≤9223372036854775807)&&decide (z.2≤1000) then bif Nat.ble (ByteArray.size (q_3++p)+ByteArray.size (F.pad z.1 z.2)) 9223372036854775807 then some ((vS (q_3++p++F.pad z.1 z.2)),[])
 else none else none else none else none else none) (q_2++F.pad z.1 z.2++q++F.pad z_1.1 z_1.2) else none else none else none else none else none) (F.pad z.1
 z.2++q)) [(vI 2)]) (ByteArray.mk (Array.mk [(58:UInt8)])):=(runFR_val).symm.trans (by kernel_rfl)

def encTiT1 (t:Int) (p:ByteArray):List AV:=[vI t,vS p]

def encTiT (a:Int×ByteArray):List AV:=encTiT1 a.1 a.2

theorem encTiT_inj (a a':Int×ByteArray) (h:encTiT a=encTiT a'):a=a':=by
 simp only[encTiT,encTiT1]at h
 try simp[]at h
 grind

theorem unTiT (t:Int) (p:ByteArray):unenc encTiT ([(vI t),(vS p)])=some (t,p):=unenc_of encTiT_inj (t,p) rfl

def resTiT1 (t:Int) (p:ByteArray):AV×Heap:=(vS (F.clk t p),[])

def preTiT1 (t:Int) (p:ByteArray):Bool:=decide (0≤t)&&decide (t≤359999999)&&decide (p.size=1)

noncomputable def oTiT:Orc:=orc 158 true encTiT (fun a=>preTiT1 a.1 a.2) fun a=>resTiT1 a.1 a.2

theorem okTiT:OrcOK Tryz.prog noG oTiT:=by
 refine mk_ok Tryz.f158 (keep:=false) (by kernel_rfl) (by kernel_rfl) enTiT_ok mixed (no_loops (by kernel_rfl)) (by first | exact fun _ _=>⟨rfl,rfl⟩ | (intro h;cases h)) ?_
 rintro⟨t,p⟩ hpre hok
 show(runF enTiT false _ (encTiT1 _ _)).val=some (resTiT1 _ _)
 unfold encTiT1 resTiT1
 rw[evTiT]
 simp only[preTiT1,Bool.and_eq_true,decide_eq_true_eq]at hpre
 obtain⟨⟨h0,h1⟩,h2⟩:=hpre
 obtain⟨k,rfl⟩:=Int.eq_ofNat_of_zero_le h0
 have w1:IntKind.i64.wrap ((k:Int).tdiv 3600000)=((k / 3600000:Nat):Int):=by rw[tdiv_nn (by omega),wrap_id (by omega) (by omega)];omega
 have w2:(IntKind.i64.wrap ((k:Int).tdiv 60000)).tmod 60=((k / 60000 % 60:Nat):Int):=by rw[tdiv_nn (by omega),wrap_id (by omega) (by omega),Int.tmod_eq_emod_of_nonneg (by omega)];omega
 have w3:(IntKind.i64.wrap ((k:Int).tdiv 1000)).tmod 60=((k / 1000 % 60:Nat):Int):=by rw[tdiv_nn (by omega),wrap_id (by omega) (by omega),Int.tmod_eq_emod_of_nonneg (by omega)];omega
 have w4:(k:Int).tmod 1000=((k % 1000:Nat):Int):=by rw[Int.tmod_eq_emod_of_nonneg (by omega)];omega
 have s1:(F.pad ((k / 3600000:Nat):Int) 2).size=2:=by rw[F.size_bs,F.pad2 (show k / 3600000<100 by omega)];rfl
 have s2:(F.pad ((k / 60000 % 60:Nat):Int) 2).size=2:=by rw[F.size_bs,F.pad2 (show k / 60000 % 60<100 by omega)];rfl
 have s3:(F.pad ((k / 1000 % 60:Nat):Int) 2).size=2:=by rw[F.size_bs,F.pad2 (show k / 1000 % 60<100 by omega)];rfl
 have s4:(F.pad ((k % 1000:Nat):Int) 3).size=3:=by rw[F.size_bs,F.pad3 (show k % 1000<1000 by omega)];rfl
 have sc:(ByteArray.mk (Array.mk [58])).size=1:=rfl
 have e:F.clk (k:Int) p=F.pad ((k / 3600000:Nat):Int) 2++F.colon++F.pad ((k / 60000 % 60:Nat):Int) 2++F.colon++F.pad ((k / 1000 % 60:Nat):Int) 2++p++F.pad ((k % 1000:Nat):Int) 3:=rfl
 have d2:decide ((2:Nat)≤1000)=true:=rfl
 have d3:decide ((3:Nat)≤1000)=true:=rfl
 simp only[Option.bind_some,cond_true,Bool.and_true,w1,w2,w3,w4,unPad2,unPad3,pre64 (show k / 3600000<1000 by omega),pre64 (show k / 60000 % 60<1000 by omega),pre64 (show k / 1000 % 60<1000 by omega),pre64 (show k % 1000<1000 by omega),d2,d3,ByteArray.size_append,s1,s2,s3,s4,sc,h2]
 rw[e]
 rfl

noncomputable def enTms:Env:=envH ty noG lks [oTiT] [] [] []

theorem enTms_ok:EnvOK Tryz.prog enTms:=by
 refine envH_ok lks_ok ty_ok ?_ ?_
 ·simp only[List.forall_mem_cons]
  exact⟨okTiT,by simp⟩
 ·simp

theorem evTms (c:Cap) (p:ByteArray):(runF enTms false Tryz.f100 [.agg (eCap c),vS p]).val =
 Option.bind (unenc encTiT [(vI c.fr),(vS p)]) fun z=>bif decide ((0:Int)≤z.1)&&decide (z.1≤359999999)&&decide (ByteArray.size
 z.2=(1:Nat)) then bif Nat.ble (ByteArray.size (F.clk z.1 z.2)+ByteArray.size (ByteArray.mk (Array.mk [(32:UInt8),(45:UInt8),(45:UInt8),(62:UInt8),
 (32:UInt8)]))) 9223372036854775807 then Option.bind (unenc encTiT [(vI c.to),(vS p)]) fun z_1=>bif decide ((0:Int)≤z_1.1)&&decide
 (z_1.1≤359999999)&&decide (ByteArray.size z_1.2=(1:Nat)) then bif Nat.ble (ByteArray.size (F.clk z.1 z.2++ByteArray.mk (Array.mk [(32:UInt8),
 (45:UInt8),(45:UInt8),(62:UInt8),(32:UInt8)]))+ByteArray.size (F.clk z_1.1 z_1.2)) 9223372036854775807 then some ((vS (F.clk z.1 z.2 ++
 ByteArray.mk (Array.mk [(32:UInt8),(45:UInt8),(45:UInt8),(62:UInt8),(32:UInt8)])++F.clk z_1.1 z_1.2)),[]) else none else none else none else none:=(runFR_val).symm.trans (by kernel_rfl)

def encTms1 (c:Cap) (p:ByteArray):List AV:=[.agg (eCap c),vS p]

def encTms (a:Cap×ByteArray):List AV:=encTms1 a.1 a.2

theorem encTms_inj (a a':Cap×ByteArray) (h:encTms a=encTms a'):a=a':=by
 simp only[encTms,encTms1]at h
 try simp[eCap_iff]at h
 grind

theorem unTmsw (c_fr:Int) (c_to:Int) (c_lines:List ByteArray) (c_row:Int) (c_bef:Bool) (c_aft:Bool) (p:ByteArray):unenc encTms ([AV.agg [(vI c_fr),(vI c_to),AV.sl (List.map eStr c_lines),(vI c_row),(vB c_bef),(vB c_aft)],(vS p)])=some ((Cap.mk c_fr c_to c_lines c_row c_bef c_aft),p):=unenc_of encTms_inj ((Cap.mk c_fr c_to c_lines c_row c_bef c_aft),p) rfl

def resTms1 (c:Cap) (p:ByteArray):AV×Heap:=(vS (F.tms c p),[])

def preTms1 (c:Cap) (p:ByteArray):Bool:=decide (0≤c.fr)&&decide (c.fr≤359999999)&&decide (0≤c.to)&&decide (c.to≤359999999)&&decide (p.size=1)

noncomputable def oTms:Orc:=orc 100 true encTms (fun a=>preTms1 a.1 a.2) fun a=>resTms1 a.1 a.2

theorem okTms:OrcOK Tryz.prog noG oTms:=by
 refine mk_ok Tryz.f100 (keep:=false) (by kernel_rfl) (by kernel_rfl) enTms_ok mixed (no_loops (by kernel_rfl)) (by first | exact fun _ _=>⟨rfl,rfl⟩ | (intro h;cases h)) ?_
 rintro⟨c,p⟩ hpre hok
 show(runF enTms false _ (encTms1 _ _)).val=some (resTms1 _ _)
 unfold encTms1 resTms1
 rw[evTms]
 simp only[preTms1,Bool.and_eq_true,decide_eq_true_eq]at hpre
 obtain⟨⟨⟨⟨h0,h1⟩,h2⟩,h3⟩,h4⟩:=hpre
 have s1:(F.clk c.fr p).size=12:=by
  obtain⟨k,hk⟩:=Int.eq_ofNat_of_zero_le h0
  rw[hk,F.clk_size (by omega),h4]
 have s2:(F.clk c.to p).size=12:=by
  obtain⟨k,hk⟩:=Int.eq_ofNat_of_zero_le h2
  rw[hk,F.clk_size (by omega),h4]
 have sa:(ByteArray.mk (Array.mk [32,45,45,62,32])).size=5:=rfl
 simp only[unTiT,Option.bind_some,cond_true,Bool.and_true,decide_eq_true h0,decide_eq_true h1,decide_eq_true h2,decide_eq_true h3,decide_eq_true h4,ByteArray.size_append,s1,s2,sa]
 rfl

end M
end Go.Proofs.YtbeobbjiogbdlaaGreatDoor

namespace Go.Proofs.YtbeobbjiogbdlaaGreatDoor
open Go Go.RowKit
set_option linter.unusedVariables false
set_option linter.unusedSimpArgs false
set_option maxHeartbeats 1000000

namespace F

def lgW:List ByteArray→ByteArray→ByteArray
 | [],acc=>acc
 | x::r,acc=>lgW r (acc++(esc x++nl))

def lgH (c:Cap) (acc:ByteArray):ByteArray:=
 (bif c.aft then (bif c.bef then (bif c.row != 0 then acc++tms c dot++(lineB++itoa c.row) else acc++tms c dot)++befB else (bif c.row != 0 then acc++tms c dot++(lineB++itoa c.row) else acc++tms c dot))++aftB
  else (bif c.bef then (bif c.row != 0 then acc++tms c dot++(lineB++itoa c.row) else acc++tms c dot)++befB else (bif c.row != 0 then acc++tms c dot++(lineB++itoa c.row) else acc++tms c dot)))++nl

def lgC (c:Cap) (acc:ByteArray):ByteArray:=lgW c.lines (lgH c acc)++nl

def lgA1:List Cap→ByteArray→ByteArray
 | [],acc=>acc
 | c::r,acc=>lgA1 r (lgC c acc)

def web2:ByteArray:=⟨⟨[87,69,66,86,84,84,10,10]⟩⟩

def longT (l:List Cap):ByteArray:=lgA1 l web2

def longS (l:List Cap):ByteArray:=bif chkC l != 0 then ⟨⟨[]⟩⟩ else bndS (longT l)

def longF (l:List Cap):Int:=bif chkC l != 0 then chkC l else bnfL (longT l)

theorem rpl1_size {y:ByteArray} (h:y.size≤200):(rpl y ampB amp5).size≤1000:=by
 have key : ∀l:List UInt8,(l.flatMap fun b=>bif b==38 then [38,97,109,112,59] else [b]).length≤5*l.length:=fun l=>by
  induction l with
  | nil=>exact Nat.le_refl _
  | cons b l ih=>
   rw[List.flatMap_cons,List.length_append,List.length_cons]
   cases b==38
   ·simp only[cond_false,List.length_singleton];omega
   ·simp only[cond_true,List.length_cons,List.length_nil];omega
 have:=key (bs y)
 rw[size_bs,show bs (rpl y ampB amp5)=_ from bs_rpl y 38 [38,97,109,112,59] (by decide)]
 rw[←size_bs]at this
 omega

theorem lgW_size : ∀(m:List ByteArray) (s:ByteArray),(∀x∈m,x.size≤200)→(lgW m s).size≤s.size+1001*m.length∧s.size≤(lgW m s).size
 | [],s,_=>⟨Nat.le_refl _,Nat.le_refl _⟩
 | x::r,s,h=>by
  have h1:=lgW_size r (s++(esc x++nl)) fun y hy=>h y (List.mem_cons_of_mem _ hy)
  have h2:=(esc_size x).2
  have h3:=h x (List.mem_cons_self ..)
  have h4:nl.size=1:=rfl
  rw[ByteArray.size_append,ByteArray.size_append,h4]at h1
  rw[lgW,List.length_cons]
  omega

theorem lgH_size {c:Cap} (acc:ByteArray) (h:capW c=true):(lgH c acc).size≤acc.size+80∧acc.size≤(lgH c acc).size:=by
 obtain⟨h1,h2,h3,h4,h5,h6,h7,h8,h9⟩:=capW_spec h
 have a1:=itoa_size (n:=c.row) (by omega) (by omega)
 have a2:=tms_size h (show dot.size=1 from rfl)
 unfold lgH
 cases c.aft<;>cases c.bef<;>cases(c.row != 0)<;>simp only[cond_true,cond_false,ByteArray.size_append,a2,show nl.size=1 from rfl,show lineB.size=6 from rfl,show befB.size=7 from rfl,show aftB.size=6 from rfl]<;>omega

theorem lgC_size {c:Cap} (acc:ByteArray) (h:capW c=true):(lgC c acc).size≤acc.size+16000∧acc.size≤(lgC c acc).size:=by
 obtain⟨h1,h2,h3,h4,h5,h6,h7,h8,h9⟩:=capW_spec h
 have a1:=lgH_size acc h
 have a2:=lgW_size c.lines (lgH c acc) fun x hx=>line_size (h9 x hx)
 unfold lgC
 rw[ByteArray.size_append,show nl.size=1 from rfl]
 omega

end F

namespace M

theorem SpecP.below3 {P:Program} {G:Nat→Option GR} {f:FuncId} {x y z:Value} {r:AV} {rv:Value} (hr : ∀w S,RV w S noKeys r rv)
  (h:okAtom x→okAtom y→okAtom z → ∀w (S:Nat→Prop),(∀g r,G g=some r→GlobAt w S g r)→Calls P f #[x,y,z] w fun e w'=>e = .returned rv∧Below w.heap.size w w'):SpecP P G f [.v x, .v y, .v z] r []:=by
 intro w S cargs hlt hg hargs
 match cargs,hargs with
 | [u,v,t],⟨h1,h2,h3,_⟩=>
  obtain⟨rfl,k1⟩:=rv_v h1
  obtain⟨rfl,k2⟩:=rv_v h2
  obtain⟨rfl,k3⟩:=rv_v h3
  refine(h k1 k2 k3 w S hg).mono ?_
  rintro e w' ⟨rfl,hb⟩
  exact⟨rv,S,noKeys,rfl,hb,fun _ h=>h,fun _ h=> .inl h,fun b h=>Nat.lt_of_lt_of_le (hlt b h) hb.size,(fun _ _ _ _ h=>by cases h),(fun _ _ h=>by cases h),(fun _ _ h=>by cases h),(fun _ _ h=>by cases h),hr _ _⟩

theorem evBndL (s:ByteArray):(runF en0 false Tryz.f102 [vS s]).val =
 bif decide ((200000:Int)<(↑(ByteArray.size s):Int)) then some (AV.tup [(vS ⟨⟨[]⟩⟩),(vI 2)],[]) else some (AV.tup [(vS s),(vI 0)],[]):=(runFR_val).symm.trans (by kernel_rfl)

def encBndL1 (s:ByteArray):List AV:=[vS s]

def encBndL (a:ByteArray):List AV:=encBndL1 a

theorem encBndL_inj (a a':ByteArray) (h:encBndL a=encBndL a'):a=a':=by
 simp only[encBndL,encBndL1]at h
 try simp[]at h
 grind

theorem unBndL (s:ByteArray):unenc encBndL ([(vS s)])=some (s):=unenc_of encBndL_inj (s) rfl

def resBndL1 (s:ByteArray):AV×Heap:=(.tup [vS (F.bndS s),vI (F.bnfL s)],[])

def preBndL1 (s:ByteArray):Bool:=true

noncomputable def oBndL:Orc:=orc 102 true encBndL (fun a=>preBndL1 a) fun a=>resBndL1 a

theorem okBndL:OrcOK Tryz.prog noG oBndL:=by
 refine mk_ok Tryz.f102 (keep:=false) (by kernel_rfl) (by kernel_rfl) en0_ok mixed (no_loops (by kernel_rfl)) (by first | exact fun _ _=>⟨rfl,rfl⟩ | (intro h;cases h)) ?_
 rintro s hpre hok
 show(runF en0 false _ (encBndL1 _)).val=some (resBndL1 _)
 unfold encBndL1 resBndL1
 rw[evBndL]
 simp only[F.bndS,F.bnfL]
 by_cases h:200000<s.size
 ·rw[decide_eq_true h,decide_eq_true (show(200000:Int)<s.size by omega)];rfl
 ·rw[decide_eq_false h,decide_eq_false (show ¬(200000:Int)<s.size by omega)];rfl

def encRAll1 (s:ByteArray) (old:ByteArray) (new:ByteArray):List AV:=[vS s,vS old,vS new]

def encRAll (a:ByteArray×ByteArray×ByteArray):List AV:=encRAll1 a.1 a.2.1 a.2.2

theorem encRAll_inj (a a':ByteArray×ByteArray×ByteArray) (h:encRAll a=encRAll a'):a=a':=by
 simp only[encRAll,encRAll1]at h
 try simp[]at h
 grind

theorem unRAll (s:ByteArray) (old:ByteArray) (new:ByteArray):unenc encRAll ([(vS s),(vS old),(vS new)])=some (s,old,new):=unenc_of encRAll_inj (s,old,new) rfl

def resRAll1 (s:ByteArray) (old:ByteArray) (new:ByteArray):AV×Heap:=(vS (F.rpl s old new),[])

def preRAll1 (s:ByteArray) (old:ByteArray) (new:ByteArray):Bool:=decide (s.size≤100000)&&decide (old.size=1)&&decide (new.size≤5)&&decide ((F.rpl s old new).size≤1000000)

noncomputable def oRAll:Orc:=orc 101 true encRAll (fun a=>preRAll1 a.1 a.2.1 a.2.2) fun a=>resRAll1 a.1 a.2.1 a.2.2

theorem okRAll:OrcOK Tryz.prog noG oRAll:=by
 refine orc_ok ⟨Tryz.f101,by kernel_rfl,by kernel_rfl,by kernel_rfl⟩ (fun x hp _=>?_) (fun _ _=>⟨rfl,rfl⟩)
 obtain⟨s,old,new⟩:=x
 simp only[preRAll1,Bool.and_eq_true,decide_eq_true_eq]at hp
 obtain⟨⟨⟨h1,h2⟩,h3⟩,h4⟩:=hp
 have hc:=Lib.countB_mul_le old (by omega) s.size s (Nat.le_refl _)
 rw[h2,Nat.mul_one]at hc
 have hm:Lib.countB s old*new.size≤100000*5:=Nat.mul_le_mul (by omega) h3
 refine SpecP.below3 (fun w S=>rv_mk (by show(F.rpl s old new).size≤9223372036854775807;omega)) fun _ _ _ w S hG=>?_
 obtain⟨m,hm2⟩:=maxLen_of hG
 refine(Tryz.strings_ReplaceAll s old new m w (by omega) hm2 (by omega) (by omega)).mono ?_
 rintro e w' ⟨he,hb⟩
 exact⟨he,hb⟩

def stLgi (l:List Cap) (ls:List ByteArray) (k:Nat) (s:ByteArray) (j:Nat):St:=⟨[(43,vI j),(42,vI ls.length),(41, .sl (ls.map eStr)),(18,vI k),(17,vI l.length),(16, .sl (l.map eCap)),(5, .ptr 5 0 0)],[(16000,⟨false,5,1,F.eUs s⟩),(5,⟨true,162,0,[[.ptr 5 0 0, .own 16000]]⟩)]⟩

def stLgi1 (a:(List Cap)×(List ByteArray)×Nat×ByteArray×Nat):St:=stLgi a.1 a.2.1 a.2.2.1 a.2.2.2.1 a.2.2.2.2

theorem stLgi_inj (a a':(List Cap)×(List ByteArray)×Nat×ByteArray×Nat) (h:stLgi1 a=stLgi1 a'):a=a':=by
 simp only[stLgi1,stLgi]at h
 try simp[strs_inj,eCaps_inj,eUs_inj]at h
 grind

theorem unstLgi0 (l:List Cap) (ls:List ByteArray) (k:Nat) (s:ByteArray)  : unenc stLgi1 (St.mk [(43,(vI (0:Int))),(42,(vI (↑(List.length ls):Int))),(41,AV.sl (List.map eStr ls)),(18,(vI (↑k:Int))),(17,(vI (↑(List.length l):Int))),(16,AV.sl
 (List.map eCap l)),(5, .ptr 5 0 0)] [(16000,Blk.mk false 5 1 (F.eUs s)),(5,Blk.mk true 162 0 [[.ptr 5 0 0, .own 16000]])])=some (l,ls,k,s,0):=unenc_of stLgi_inj (l,ls,k,s,0) rfl

def outLgi (l:List Cap) (ls:List ByteArray) (k:Nat) (s:ByteArray) (j:Nat):T (Ex×St):= .ret (.exit 2,⟨[(18,vI k),(17,vI l.length),(16, .sl (l.map eCap)),(5, .ptr 5 0 0)],[(16000,⟨false,5,1,F.eUs (F.lgW (ls.drop j) s)⟩),(5,⟨true,162,0,[[.ptr 5 0 0, .own 16000]]⟩)]⟩)

noncomputable def prlLgi (l:List Cap) (ls:List ByteArray) (k:Nat) (s:ByteArray) (j:Nat):Bool:=F.allL ls&&decide (ls.length≤15)&&decide (j≤ls.length)&&decide (s.size≤100000000)

noncomputable def lpLgi:Nat×(St→T (Ex×St)):=(18,lpo [43,42,41,18,17,16,5] [16000,5] stLgi1 (fun a=>prlLgi a.1 a.2.1 a.2.2.1 a.2.2.2.1 a.2.2.2.2) fun a=>outLgi a.1 a.2.1 a.2.2.1 a.2.2.2.1 a.2.2.2.2)

def stLgp (l:List Cap) (s:ByteArray) (k:Nat):St:=⟨[(18,vI k),(17,vI l.length),(16, .sl (l.map eCap)),(5, .ptr 5 0 0)],[(16000,⟨false,5,1,F.eUs s⟩),(5,⟨true,162,0,[[.ptr 5 0 0, .own 16000]]⟩)]⟩

def stLgp1 (a:(List Cap)×ByteArray×Nat):St:=stLgp a.1 a.2.1 a.2.2

theorem stLgp_inj (a a':(List Cap)×ByteArray×Nat) (h:stLgp1 a=stLgp1 a'):a=a':=by
 simp only[stLgp1,stLgp]at h
 try simp[eCaps_inj,eUs_inj]at h
 grind

theorem unstLgp (l:List Cap) (s:ByteArray) (k:Nat):unenc stLgp1 (St.mk [(18,(vI (↑k:Int))),(17,(vI (↑(List.length l):Int))),(16,AV.sl (List.map eCap l)),(5, .ptr 5 0 0)] [(16000,Blk.mk false 5 1 (F.eUs s)),(5,Blk.mk true
 162 0 [[.ptr 5 0 0, .own 16000]])])=some (l,s,k):=unenc_of stLgp_inj (l,s,k) rfl

theorem unstLgp0 (l:List Cap)  : unenc stLgp1 (St.mk [(18,(vI (0:Int))),(17,(vI (↑(List.length l):Int))),(16,AV.sl (List.map eCap l)),(5, .ptr 5 0 0)] [(16000,Blk.mk false 5 1 (F.eUs (ByteArray.mk (Array.mk
 [(87:UInt8),(69:UInt8),(66:UInt8),(86:UInt8),(84:UInt8),(84:UInt8),(10:UInt8),(10:UInt8)])))),(5,Blk.mk true 162 0 [[.ptr 5 0 0, .own 16000]])])=some (l,⟨⟨[87,69,66,86,84,84,10,10]⟩⟩,0):=unenc_of stLgp_inj (l,⟨⟨[87,69,66,86,84,84,10,10]⟩⟩,0) rfl

def outLgp (l:List Cap) (s:ByteArray) (k:Nat):T (Ex×St):= .ret (.exit 0,⟨[(5, .ptr 5 0 0)],[(16000,⟨false,5,1,F.eUs (F.lgA1 (l.drop k) s)⟩),(5,⟨true,162,0,[[.ptr 5 0 0, .own 16000]]⟩)]⟩)

noncomputable def prlLgp (l:List Cap) (s:ByteArray) (k:Nat):Bool:=l.all F.capW&&decide (l.length≤500)&&decide (k≤l.length)&&decide (s.size≤100+16000*k)

noncomputable def lpLgp:Nat×(St→T (Ex×St)):=(7,lpo [18,17,16,5] [16000,5] stLgp1 (fun a=>prlLgp a.1 a.2.1 a.2.2) fun a=>outLgp a.1 a.2.1 a.2.2)

noncomputable def enLgp:Env:=envH ty noG lks [oChC,oIta,oTms,oRAll,oBndL] [oWst,oBst] [] [lpLgp,lpLgi]

theorem enLgp_ok:EnvOK Tryz.prog enLgp:=by
 refine envH_ok lks_ok ty_ok ?_ ?_
 ·simp only[List.forall_mem_cons]
  exact⟨okChC,okIta,okTms,okRAll,okBndL,by simp⟩
 ·simp only[List.forall_mem_cons]
  exact⟨okWst,okBst,by simp⟩

theorem evLgiL (l:List Cap) (ls:List ByteArray) (k:Nat) (s:ByteArray) (j:Nat):((exec enLgp (loopN Tryz.f45 1) (stLgi l ls k s j)).bind (lessX ([43,42,41,18,17,16,5],[16000,5]) ([18,17,16,5],[16000,5]) ([],[]))).val =
 (fun(q:List (Nat×Blk))=>(fun(q_1:List (Nat×AV))=>bif decide ((↑j:Int)<(↑(List.length ls):Int)) then Option.bind (unenc (List.map eStr) (List.map eStr ls)) fun z=>bif decide (j<List.length z) then Option.bind (unenc encRAll [(vS (List.getD z j (ByteArray.mk (Array.mk [])))),(vS ⟨⟨[38]⟩⟩),(vS ⟨⟨[38,97,109,112,59]⟩⟩)]) fun z=>bif decide (ByteArray.size z.1≤100000)&&decide (ByteArray.size z.2.1=(1:Nat))&&decide (ByteArray.size z.2.2≤5)&&decide (ByteArray.size (F.rpl z.1 z.2.1 z.2.2)≤1000000) then Option.bind (unenc encRAll [(vS (F.rpl z.1 z.2.1 z.2.2)),(vS ⟨⟨[60]⟩⟩),(vS ⟨⟨[38,108,116,59]⟩⟩)]) fun z=>(fun(q_2:Nat)=>bif decide (ByteArray.size z.1≤100000)&&decide (ByteArray.size z.2.1=(1:Nat))&&decide (ByteArray.size z.2.2≤5)&&decide (q_2≤1000000) then bif Nat.ble (q_2+ByteArray.size (ByteArray.mk (Array.mk [(10:UInt8)]))) 9223372036854775807 then Option.bind (unenc encWst ([.ptr 900 0 0,(vS (F.rpl z.1 z.2.1 z.2.2++ByteArray.mk (Array.mk [(10:UInt8)])))],[(901,Blk.mk false 5 1 (F.eUs s)),(900,Blk.mk true 162 0 [[.ptr 900 0 0, .own 901]])])) fun z=>bif F.wstB z.1 z.2 then bif match z.1 with | some val=>false | none=>true then none else some (Ex.normal,St.mk ((43,(vI (IntKind.i64.wrap ((↑j:Int)+1))))::(42,(vI (↑(List.length ls):Int)))::(41,AV.sl (List.map eStr ls))::q_1) ((16000,Blk.mk false 5 1 (F.eUs (F.bldS z.1++z.2)))::q)) else none else none else none) (ByteArray.size (F.rpl z.1 z.2.1 z.2.2)) else none else none else some (Ex.exit (2:Nat),St.mk q_1 ((16000,Blk.mk false 5 1 (F.eUs s))::q))) [(18,(vI (↑k:Int))),(17,(vI (↑(List.length l):Int))),(16,AV.sl (List.map eCap l)),(5, .ptr 5 0 0)]) [(5,Blk.mk true 162 0 [[.ptr 5 0 0, .own 16000]])]:=(execR_bind _ _ _).symm.trans (by kernel_rfl)

theorem lpLgi_ok (l:List Cap) (ls:List ByteArray) (k:Nat) (s:ByteArray) (j:Nat) (hp:prlLgi l ls k s j=true) : ∀ex s',(outLgi l ls k s j).val=some (ex,s')→LoopOK enLgp (loopN Tryz.f45 1) (stLgi l ls k s j) ex s':=by
 simp only[prlLgi,Bool.and_eq_true,decide_eq_true_eq]at hp
 obtain⟨⟨⟨h1,h2⟩,h3⟩,h4⟩:=hp
 have hw:=List.all_eq_true.1 (h1:ls.all F.line=true)
 have hx:ls.length≤9223372036854775807:=by omega
 refine loop_gen (st:=fun b:ByteArray×Nat=>stLgi l ls k b.1 b.2) (out:=fun b=>outLgi l ls k b.1 b.2) (I:=fun b=>b.2≤ls.length∧b.1.size≤100000000+1001*b.2) (n:=([43,42,41,18,17,16,5],[16000,5])) (e:=([18,17,16,5],[16000,5])) (r:=([],[])) (fun b=>ls.length - b.2) ?_ (s,j) ⟨h3,by simp only;omega⟩
 rintro⟨s,j⟩ ⟨i1,i2⟩
 simp only at i1 i2
 by_cases hlt:j<ls.length
 ·have hy:ls[j]? = some ls[j]:=List.getElem?_eq_getElem hlt
  generalize ls[j]=y at hy
  have hd:=drop_q hy
  have hl:=hw y (List.mem_of_getElem? hy)
  have hs:=F.line_size hl
  have e1:=(F.esc_size y).2
  have ee:F.rpl (F.rpl y (ByteArray.mk (Array.mk [38])) (ByteArray.mk (Array.mk [38,97,109,112,59]))) (ByteArray.mk (Array.mk [60])) (ByteArray.mk (Array.mk [38,108,116,59]))=F.esc y:=rfl
  have er:(F.rpl y (ByteArray.mk (Array.mk [38])) (ByteArray.mk (Array.mk [38,97,109,112,59]))).size≤1000:=F.rpl1_size hs
  right
  refine⟨(s++(F.esc y++F.nl),j+1),?_,rfl,⟨by simp only;omega,by simp only[ByteArray.size_append,show F.nl.size=1 from rfl];omega⟩,by simp only;omega,?_⟩
  ·rw[evLgiL]
   simp only[unRAll,Option.bind_some,unStrs,cond_true,cond_false,unWstU,F.bldS_some,F.wstB_eq,cast_lt hlt,decide_eq_true hlt,getD_at hy,next_at hlt hx,ee]
   simp only[ByteArray.size_append,show(ByteArray.mk (Array.mk [10])).size=1 from rfl,show(ByteArray.mk (Array.mk [38])).size=1 from rfl,show(ByteArray.mk (Array.mk [60])).size=1 from rfl,show(ByteArray.mk (Array.mk [38,97,109,112,59])).size=5 from rfl,show(ByteArray.mk (Array.mk [38,108,116,59])).size=4 from rfl]
   simp (disch:=omega) only [decide_eq_true,decide_true,ble_t,cond_true,Bool.and_self]
   try rfl
  ·simp only[outLgi,hd,F.lgW]
 ·have hd:ls.drop j=[]:=List.drop_eq_nil_of_le (by omega)
  left
  refine⟨(.exit 2,⟨[(18,vI k),(17,vI l.length),(16, .sl (l.map eCap)),(5, .ptr 5 0 0)],[(16000,⟨false,5,1,F.eUs s⟩),(5,⟨true,162,0,[[.ptr 5 0 0, .own 16000]]⟩)]⟩),?_,?_,by simp,rfl⟩
  ·rw[evLgiL]
   simp only[unRAll,Option.bind_some,unStrs,cond_false,unWstU,F.bldS_some,F.wstB_eq,decide_eq_false (show ¬(j:Int)<(ls.length:Int) by omega)]
   try rfl
  ·simp only[outLgi,hd,F.lgW]
   rfl

theorem evLgpL (l:List Cap) (s:ByteArray) (k:Nat):((exec enLgp (loopN Tryz.f45 0) (stLgp l s k)).bind (lessX ([18,17,16,5],[16000,5]) ([5],[16000,5]) ([],[]))).val =
 (fun(q:Nat×AV)=>(fun(q_1:Cap)=>(fun(q_2:List (Nat×AV))=>(fun(q_3:List AV)=>(fun(q_4:ByteArray)=>(fun(q_5:List (Nat×Blk))=>(fun(q_6:List (Nat×Blk))=>(fun(q_7:List AV)=>(fun(q_8:List AV)=>(fun(q_9:List (Nat×AV))=>bif decide ((↑k:Int)<(↑(List.length l):Int)) then Option.bind (unenc (List.map eCap) (List.map eCap l)) fun z=>(fun(q_10:Bool)=>(fun(q:List (Nat×AV))=>bif decide (k<List.length z) then Option.bind (unenc encTms [AV.agg [(vI (List.getD z k q_1).fr),(vI (List.getD z k q_1).to),AV.sl (List.map eStr (List.getD z k q_1).lines),(vI (List.getD z k q_1).row),(vB (List.getD z k q_1).bef),(vB q_10)],(vS ⟨⟨[46]⟩⟩)]) fun z_1=>bif decide ((0:Int)≤z_1.1.fr)&&decide (z_1.1.fr≤359999999)&&decide ((0:Int)≤z_1.1.to)&&decide (z_1.1.to≤359999999)&&decide (ByteArray.size z_1.2=(1:Nat)) then Option.bind (unenc encWst ([.ptr 900 0 0,(vS (F.tms z_1.1 z_1.2))],(901,Blk.mk false 5 1 (F.eUs s))::q_5)) fun z_2=>(fun(q_11:List (Nat×Blk))=>bif F.wstB z_2.1 z_2.2 then bif match z_2.1 with | some val=>false | none=>true then none else bif (List.getD z k q_1).row != 0 then Option.bind (unenc encIta [(vI (List.getD z k q_1).row)]) fun z_3=>bif decide ((-9223372036854775808:Int)≤z_3)&&decide (z_3≤9223372036854775807) then bif Nat.ble (ByteArray.size q_4+ByteArray.size (F.itoa z_3)) 9223372036854775807 then Option.bind (unenc encWst ([.ptr 900 0 0,(vS (q_4++F.itoa z_3))],q_11)) fun z_4=>(fun(q_12:List (Nat×Blk))=>bif F.wstB z_4.1 z_4.2 then bif match z_4.1 with | some val=>false | none=>true then none else bif (List.getD z k q_1).bef then Option.bind (unenc encWst (q_8,q_12)) fun z=>(fun(q_13:List (Nat×Blk))=>bif F.wstB z.1 z.2 then bif match z.1 with | some val=>false | none=>true then none else bif q_10 then Option.bind (unenc encWst (q_7,q_13)) fun z=>bif F.wstB z.1 z.2 then bif match z.1 with | some val=>false | none=>true then none else Option.bind (unenc encWst (q_3,(901,Blk.mk false 5 1 (F.eUs (F.bldS z.1++z.2)))::q_5)) fun z=>bif F.wstB z.1 z.2 then bif match z.1 with | some val=>false | none=>true then none else Option.bind (unenc stLgi1 (St.mk q ((16000,Blk.mk false 5 1 (F.eUs (F.bldS z.1++z.2)))::q_6))) fun z=>bif F.allL z.2.1&&decide (List.length z.2.1≤15)&&decide (z.2.2.2.2≤List.length z.2.1)&&decide (ByteArray.size z.2.2.2.1≤100000000)&&true then Option.bind (unenc encWst (q_3,(901,Blk.mk false 5 1 (F.eUs (F.lgW (List.drop z.2.2.2.2 z.2.1) z.2.2.2.1)))::q_5)) fun z_5=>bif F.wstB z_5.1 z_5.2 then bif match z_5.1 with | some val=>false | none=>true then none else some (Ex.normal,St.mk ((18,(vI (IntKind.i64.wrap ((↑z.2.2.1:Int)+1))))::(17,(vI (↑(List.length z.1):Int)))::(16,AV.sl (List.map eCap z.1))::q_2) ((16000,Blk.mk false 5 1 (F.eUs (F.bldS z_5.1++z_5.2)))::q_6)) else none else none else none else none else Option.bind (unenc encWst (q_3,q_13)) fun z=>bif F.wstB z.1 z.2 then bif match z.1 with | some val=>false | none=>true then none else Option.bind (unenc stLgi1 (St.mk q ((16000,Blk.mk false 5 1 (F.eUs (F.bldS z.1++z.2)))::q_6))) fun z=>bif F.allL z.2.1&&decide (List.length z.2.1≤15)&&decide (z.2.2.2.2≤List.length z.2.1)&&decide (ByteArray.size z.2.2.2.1≤100000000)&&true then Option.bind (unenc encWst (q_3,(901,Blk.mk false 5 1 (F.eUs (F.lgW (List.drop z.2.2.2.2 z.2.1) z.2.2.2.1)))::q_5)) fun z_5=>bif F.wstB z_5.1 z_5.2 then bif match z_5.1 with | some val=>false | none=>true then none else some (Ex.normal,St.mk ((18,(vI (IntKind.i64.wrap ((↑z.2.2.1:Int)+1))))::(17,(vI (↑(List.length z.1):Int)))::(16,AV.sl (List.map eCap z.1))::q_2) ((16000,Blk.mk false 5 1 (F.eUs (F.bldS z_5.1++z_5.2)))::q_6)) else none else none else none else none) ((901,Blk.mk false 5 1 (F.eUs (F.bldS z.1++z.2)))::q_5) else bif q_10 then Option.bind (unenc encWst (q_7,q_12)) fun z=>bif F.wstB z.1 z.2 then bif match z.1 with | some val=>false | none=>true then none else Option.bind (unenc encWst (q_3,(901,Blk.mk false 5 1 (F.eUs (F.bldS z.1++z.2)))::q_5)) fun z=>bif F.wstB z.1 z.2 then bif match z.1 with | some val=>false | none=>true then none else Option.bind (unenc stLgi1 (St.mk q ((16000,Blk.mk false 5 1 (F.eUs (F.bldS z.1++z.2)))::q_6))) fun z=>bif F.allL z.2.1&&decide (List.length z.2.1≤15)&&decide (z.2.2.2.2≤List.length z.2.1)&&decide (ByteArray.size z.2.2.2.1≤100000000)&&true then Option.bind (unenc encWst (q_3,(901,Blk.mk false 5 1 (F.eUs (F.lgW (List.drop z.2.2.2.2 z.2.1) z.2.2.2.1)))::q_5)) fun z_5=>bif F.wstB z_5.1 z_5.2 then bif match z_5.1 with | some val=>false | none=>true then none else some (Ex.normal,St.mk ((18,(vI (IntKind.i64.wrap ((↑z.2.2.1:Int)+1))))::(17,(vI (↑(List.length z.1):Int)))::(16,AV.sl (List.map eCap z.1))::q_2) ((16000,Blk.mk false 5 1 (F.eUs (F.bldS z_5.1++z_5.2)))::q_6)) else none else none else none else none else Option.bind (unenc encWst (q_3,q_12)) fun z=>bif F.wstB z.1 z.2 then bif match z.1 with | some val=>false | none=>true then none else Option.bind (unenc stLgi1 (St.mk q ((16000,Blk.mk false 5 1 (F.eUs (F.bldS z.1++z.2)))::q_6))) fun z=>bif F.allL z.2.1&&decide (List.length z.2.1≤15)&&decide (z.2.2.2.2≤List.length z.2.1)&&decide (ByteArray.size z.2.2.2.1≤100000000)&&true then Option.bind (unenc encWst (q_3,(901,Blk.mk false 5 1 (F.eUs (F.lgW (List.drop z.2.2.2.2 z.2.1) z.2.2.2.1)))::q_5)) fun z_5=>bif F.wstB z_5.1 z_5.2 then bif match z_5.1 with | some val=>false | none=>true then none else some (Ex.normal,St.mk ((18,(vI (IntKind.i64.wrap ((↑z.2.2.1:Int)+1))))::(17,(vI (↑(List.length z.1):Int)))::(16,AV.sl (List.map eCap z.1))::q_2) ((16000,Blk.mk false 5 1 (F.eUs (F.bldS z_5.1++z_5.2)))::q_6)) else none else none else none else none) ((901,Blk.mk false 5 1 (F.eUs (F.bldS z_4.1++z_4.2)))::q_5) else none else none else bif (List.getD z k q_1).bef then Option.bind (unenc encWst (q_8,q_11)) fun z=>(fun(q_12:List (Nat×Blk))=>bif F.wstB z.1 z.2 then bif match z.1 with | some val=>false | none=>true then none else bif q_10 then Option.bind (unenc encWst (q_7,q_12)) fun z=>bif F.wstB z.1 z.2 then bif match z.1 with | some val=>false | none=>true then none else Option.bind (unenc encWst (q_3,(901,Blk.mk false 5 1 (F.eUs (F.bldS z.1++z.2)))::q_5)) fun z=>bif F.wstB z.1 z.2 then bif match z.1 with | some val=>false | none=>true then none else Option.bind (unenc stLgi1 (St.mk q ((16000,Blk.mk false 5 1 (F.eUs (F.bldS z.1++z.2)))::q_6))) fun z=>bif F.allL z.2.1&&decide (List.length z.2.1≤15)&&decide (z.2.2.2.2≤List.length z.2.1)&&decide (ByteArray.size z.2.2.2.1≤100000000)&&true then Option.bind (unenc encWst (q_3,(901,Blk.mk false 5 1 (F.eUs (F.lgW (List.drop z.2.2.2.2 z.2.1) z.2.2.2.1)))::q_5)) fun z_3=>bif F.wstB z_3.1 z_3.2 then bif match z_3.1 with | some val=>false | none=>true then none else some (Ex.normal,St.mk ((18,(vI (IntKind.i64.wrap ((↑z.2.2.1:Int)+1))))::(17,(vI (↑(List.length z.1):Int)))::(16,AV.sl (List.map eCap z.1))::q_2) ((16000,Blk.mk false 5 1 (F.eUs (F.bldS z_3.1++z_3.2)))::q_6)) else none else none else none else none else Option.bind (unenc encWst (q_3,q_12)) fun z=>bif F.wstB z.1 z.2 then bif match z.1 with | some val=>false | none=>true then none else Option.bind (unenc stLgi1 (St.mk q ((16000,Blk.mk false 5 1 (F.eUs (F.bldS z.1++z.2)))::q_6))) fun z=>bif F.allL z.2.1&&decide (List.length z.2.1≤15)&&decide (z.2.2.2.2≤List.length z.2.1)&&decide (ByteArray.size z.2.2.2.1≤100000000)&&true then Option.bind (unenc encWst (q_3,(901,Blk.mk false 5 1 (F.eUs (F.lgW (List.drop z.2.2.2.2 z.2.1) z.2.2.2.1)))::q_5)) fun z_3=>bif F.wstB z_3.1 z_3.2 then bif match z_3.1 with | some val=>false | none=>true then none else some (Ex.normal,St.mk ((18,(vI (IntKind.i64.wrap ((↑z.2.2.1:Int)+1))))::(17,(vI (↑(List.length z.1):Int)))::(16,AV.sl (List.map eCap z.1))::q_2) ((16000,Blk.mk false 5 1 (F.eUs (F.bldS z_3.1++z_3.2)))::q_6)) else none else none else none else none) ((901,Blk.mk false 5 1 (F.eUs (F.bldS z.1++z.2)))::q_5) else bif q_10 then Option.bind (unenc encWst (q_7,q_11)) fun z=>bif F.wstB z.1 z.2 then bif match z.1 with | some val=>false | none=>true then none else Option.bind (unenc encWst (q_3,(901,Blk.mk false 5 1 (F.eUs (F.bldS z.1++z.2)))::q_5)) fun z=>bif F.wstB z.1 z.2 then bif match z.1 with | some val=>false | none=>true then none else Option.bind (unenc stLgi1 (St.mk q ((16000,Blk.mk false 5 1 (F.eUs (F.bldS z.1++z.2)))::q_6))) fun z=>bif F.allL z.2.1&&decide (List.length z.2.1≤15)&&decide (z.2.2.2.2≤List.length z.2.1)&&decide (ByteArray.size z.2.2.2.1≤100000000)&&true then Option.bind (unenc encWst (q_3,(901,Blk.mk false 5 1 (F.eUs (F.lgW (List.drop z.2.2.2.2 z.2.1) z.2.2.2.1)))::q_5)) fun z_3=>bif F.wstB z_3.1 z_3.2 then bif match z_3.1 with | some val=>false | none=>true then none else some (Ex.normal,St.mk ((18,(vI (IntKind.i64.wrap ((↑z.2.2.1:Int)+1))))::(17,(vI (↑(List.length z.1):Int)))::(16,AV.sl (List.map eCap z.1))::q_2) ((16000,Blk.mk false 5 1 (F.eUs (F.bldS z_3.1++z_3.2)))::q_6)) else none else none else none else none else Option.bind (unenc encWst (q_3,q_11)) fun z=>bif F.wstB z.1 z.2 then bif match z.1 with | some val=>false | none=>true then none else Option.bind (unenc stLgi1 (St.mk q ((16000,Blk.mk false 5 1 (F.eUs (F.bldS z.1++z.2)))::q_6))) fun z=>bif F.allL z.2.1&&decide (List.length z.2.1≤15)&&decide (z.2.2.2.2≤List.length z.2.1)&&decide (ByteArray.size z.2.2.2.1≤100000000)&&true then Option.bind (unenc encWst (q_3,(901,Blk.mk false 5 1 (F.eUs (F.lgW (List.drop z.2.2.2.2 z.2.1) z.2.2.2.1)))::q_5)) fun z_3=>bif F.wstB z_3.1 z_3.2 then bif match z_3.1 with | some val=>false | none=>true then none else some (Ex.normal,St.mk ((18,(vI (IntKind.i64.wrap ((↑z.2.2.1:Int)+1))))::(17,(vI (↑(List.length z.1):Int)))::(16,AV.sl (List.map eCap z.1))::q_2) ((16000,Blk.mk false 5 1 (F.eUs (F.bldS z_3.1++z_3.2)))::q_6)) else none else none else none else none) ((901,Blk.mk false 5 1 (F.eUs (F.bldS z_2.1++z_2.2)))::q_5) else none else none) (q::(42,(vI (↑(List.length (List.map eStr (List.getD z k q_1).lines)):Int)))::(41,AV.sl (List.map eStr (List.getD z k q_1).lines))::q_9)) (List.getD z k q_1).aft else some (Ex.exit (0:Nat),St.mk q_2 ((16000,Blk.mk false 5 1 (F.eUs s))::q_6))) ((18,(vI (↑k:Int)))::(17,(vI (↑(List.length l):Int)))::(16,AV.sl (List.map eCap l))::q_2)) [.ptr 900 0 0,(vS ⟨⟨[32,98,101,102,111,114,101]⟩⟩)]) [.ptr 900 0 0,(vS ⟨⟨[32,97,102,116,101,114]⟩⟩)]) [(5,Blk.mk true 162 0 [[.ptr 5 0 0, .own 16000]])]) [(900,Blk.mk true 162 0 [[.ptr 900 0 0, .own 901]])]) (ByteArray.mk (Array.mk [(32:UInt8),(108:UInt8),(105:UInt8),(110:UInt8),(101:UInt8),(58:UInt8)]))) [.ptr 900 0 0,(vS ⟨⟨[10]⟩⟩)]) [(5, .ptr 5 0 0)]) (Cap.mk (0:Int) (0:Int) [] (0:Int) false false)) (43,(vI 0)):=(execR_bind _ _ _).symm.trans (by kernel_rfl)

theorem lpLgp_ok (l:List Cap) (s:ByteArray) (k:Nat) (hp:prlLgp l s k=true) : ∀ex s',(outLgp l s k).val=some (ex,s')→LoopOK enLgp (loopN Tryz.f45 0) (stLgp l s k) ex s':=by
 simp only[prlLgp,Bool.and_eq_true,decide_eq_true_eq]at hp
 obtain⟨⟨⟨h1,h2⟩,h3⟩,h4⟩:=hp
 have hw:=List.all_eq_true.1 (h1:l.all F.capW=true)
 have hx:l.length≤9223372036854775807:=by omega
 refine loop_gen (st:=fun b:ByteArray×Nat=>stLgp l b.1 b.2) (out:=fun b=>outLgp l b.1 b.2) (I:=fun b=>b.2≤l.length∧b.1.size≤100+16000*b.2) (n:=([18,17,16,5],[16000,5])) (e:=([5],[16000,5])) (r:=([],[])) (fun b=>l.length - b.2) ?_ (s,k) ⟨h3,h4⟩
 rintro⟨s,k⟩ ⟨i1,i2⟩
 simp only at i1 i2
 by_cases hlt:k<l.length
 ·have hy:l[k]? = some l[k]:=List.getElem?_eq_getElem hlt
  generalize l[k]=y at hy
  have hd:=drop_q hy
  have hc:=hw y (List.mem_of_getElem? hy)
  obtain⟨c1,c2,c3,c4,c5,c6,c7,c8,c9⟩:=F.capW_spec hc
  have hall:F.allL y.lines=true:=List.all_eq_true.2 c9
  have z1:=F.itoa_size (n:=y.row) (by omega) (by omega)
  have z2:=F.tms_size hc (show(ByteArray.mk (Array.mk [46])).size=1 from rfl)
  have z3:(ByteArray.mk (Array.mk [46])).size=1:=rfl
  have z4:(ByteArray.mk (Array.mk [10])).size=1:=rfl
  have z5:(ByteArray.mk (Array.mk [32,108,105,110,101,58])).size=6:=rfl
  have z6:(ByteArray.mk (Array.mk [32,98,101,102,111,114,101])).size=7:=rfl
  have z7:(ByteArray.mk (Array.mk [32,97,102,116,101,114])).size=6:=rfl
  have y1:=F.lgC_size s hc
  have y2:=F.lgH_size s hc
  have y3:=F.lgW_size y.lines (F.lgH y s) fun x hx=>F.line_size (c9 x hx)
  have hC:F.lgW y.lines (F.lgH y s)++ByteArray.mk (Array.mk [10])=F.lgC y s:=rfl
  right
  refine⟨(F.lgC y s,k+1),?_,rfl,⟨by simp only;omega,by simp only;omega⟩,by simp only;omega,?_⟩
  ·rw[evLgpL]
   cases ha:y.aft<;>cases hb:y.bef<;>cases hr:(y.row != 0)
   all_goals
    have hH:F.lgH y s=F.lgH y s:=rfl
    conv at hH=>lhs;unfold F.lgH
    simp only[ha,hb,hr,cond_true,cond_false,F.dot,F.nl,F.lineB,F.befB,F.aftB]at hH
    simp only[unIta,unTmsw,unstLgi0,etaCap,Option.bind_some,List.length_map,unCaps,cond_true,cond_false,Bool.and_true,Bool.true_and,unWstU,F.bldS_some,F.wstB_eq,cast_lt hlt,decide_eq_true hlt,getD_at hy,next_at hlt hx,ha,hb,hr,decide_eq_true c1,decide_eq_true c2,decide_eq_true c3,decide_eq_true c4,z3,decide_true,hall,List.drop_zero]
    simp only[hH]
    simp only[ByteArray.size_append,z2,z4,z5,z6,z7]
    simp (disch:=omega) only [decide_eq_true,ble_t,cond_true,Bool.and_self]
    rfl
  ·simp only[outLgp,hd,F.lgA1]
 ·have hd:l.drop k=[]:=List.drop_eq_nil_of_le (by omega)
  left
  refine⟨(.exit 0,⟨[(5, .ptr 5 0 0)],[(16000,⟨false,5,1,F.eUs s⟩),(5,⟨true,162,0,[[.ptr 5 0 0, .own 16000]]⟩)]⟩),?_,?_,by simp,rfl⟩
  ·rw[evLgpL]
   simp only[unIta,unTmsw,unstLgi0,etaCap,Option.bind_some,List.length_map,unCaps,cond_false,Bool.and_true,unWstU,F.bldS_some,F.wstB_eq,decide_eq_false (show ¬(k:Int)<(l.length:Int) by omega)]
   try rfl
  ·simp only[outLgp,hd,F.lgA1]
   rfl

end M

def F.sp:ByteArray:=⟨⟨[32]⟩⟩

namespace M

theorem idx_nat (n:Nat):idx (n:Int)=some n:=rfl

end M

namespace M

end M

end Go.Proofs.YtbeobbjiogbdlaaGreatDoor
