/- What is proved here: the stream of a rendition that is cut, on plain data (no statement of the seat). -/
import Derived.Test.YtpaeopnlblhpoaaGreatDoorT31X4

namespace Go.Proofs.YtpaeopnlblhpoaaGreatDoor
open Go Go.RowKit
set_option linter.unusedVariables false
set_option linter.unusedSimpArgs false
set_option maxHeartbeats 1000000

def F.sclE (way n d:Int) (q r:Nat):Int:=
 bif decide (n<0) then IntKind.i64.wrap (0 - IntKind.i64.wrap (bif decide (1152921504606846976<(bif F.rnd way (decide (n<0)) r d then IntKind.u64.wrap ((q:Int)+1) else (q:Int))) then 1152921504606846976 else (bif F.rnd way (decide (n<0)) r d then IntKind.u64.wrap ((q:Int)+1) else (q:Int))))
 else IntKind.i64.wrap (bif decide (1152921504606846976<(bif F.rnd way (decide (n<0)) r d then IntKind.u64.wrap ((q:Int)+1) else (q:Int))) then 1152921504606846976 else (bif F.rnd way (decide (n<0)) r d then IntKind.u64.wrap ((q:Int)+1) else (q:Int)))

def F.sclW (n m d way:Int):Int:=
 bif decide (F.mhi n.natAbs m.natAbs<d.natAbs) then F.sclE way n d (F.dvQ (F.mhi n.natAbs m.natAbs) (F.mlo n.natAbs m.natAbs) d.natAbs) (F.dvR (F.mhi n.natAbs m.natAbs) (F.mlo n.natAbs m.natAbs) d.natAbs)
 else bif decide (n<0) then IntKind.i64.wrap (0 - IntKind.i64.wrap 1152921504606846976) else IntKind.i64.wrap 1152921504606846976

noncomputable def F.sealI (n:Int):Int:=Classical.choose (⟨n,rfl⟩ : ∃m,m=n)

theorem F.sealI_eq (n:Int):F.sealI n=n:=Classical.choose_spec (⟨n,rfl⟩ : ∃m,m=n)

theorem F.dvR_lt {hi lo y:Nat} (h:0<y):F.dvR hi lo y<y:=by
 unfold F.dvR
 exact Nat.mod_lt _ h

theorem F.mlo_lt (x y:Nat):F.mlo x y<18446744073709551616:=by
 unfold F.mlo
 generalize x*y=p
 omega

namespace M

noncomputable def enScG:Env:=envH ty noG lks [oSiz,oMul,oDvf,oRnd] [] [] []

theorem enScG_ok:EnvOK Tryz.prog enScG:=by
 refine envH_ok lks_ok ty_ok ?_ ?_
 ·simp only[List.forall_mem_cons]
  exact⟨okSiz,okMul,okDvf,okRnd,by simp⟩
 ·simp

theorem evScG (n:Int) (m:Int) (d:Int) (way:Int):(runF enScG false Tryz.f106 [vI n,vI m,vI d,vI way]).val =
 (fun(q:List AV)=>(fun(q_1:Option (AV×Heap))=>Option.bind (unenc encSiz [(vI n)]) fun z=>bif F.i64B z then Option.bind (unenc encMul [AV.v (Value.int
 IntKind.u64 (↑(Int.natAbs z):Int)),AV.v (Value.int IntKind.u64 (IntKind.wrap IntKind.u64 m))]) fun z=>bif decide (z.1<18446744073709551616)
 && decide (z.2<18446744073709551616) then bif decide ((↑(F.mhi z.1 z.2):Int)<IntKind.wrap IntKind.u64 d) then Option.bind (unenc encDvf (AV.v
 (Value.int IntKind.u64 (↑(F.mhi z.1 z.2):Int))::AV.v (Value.int IntKind.u64 (↑(F.mlo z.1 z.2):Int))::q)) fun z=>(fun(q_2:Int)=>
 (fun(q_3:Int)=>(fun(q_4:Int)=>(fun(q_5:Int)=>bif decide (z.1<z.2.2)&&decide (z.2.1<18446744073709551616)&&decide (z.2.2 <
 (18446744073709551616:Nat)) then Option.bind (unenc encRnd ((vI way)::(vB (decide (n<0)))::AV.v (Value.int IntKind.u64 (↑(F.sealN (F.dvR z.1 z.2.1
 z.2.2)):Int))::q)) fun z=>bif decide ((0:Int)≤z.2.2.1)&&decide (z.2.2.1≤z.2.2.2)&&decide (z.2.2.2 ≤
 (18446744073709551615:Int)) then bif F.rnd z.1 z.2.1 z.2.2.1 z.2.2.2 then bif decide ((1152921504606846976:Int)<q_4) then q_1 else bif decide (n <
 (0:Int)) then some ((vI (IntKind.i64.wrap ((0:Int) - q_5))),[]) else some ((vI q_5),[]) else bif decide ((1152921504606846976:Int)<q_2) then q_1 else bif
 decide (n<0) then some ((vI (IntKind.i64.wrap ((0:Int) - q_3))),[]) else some ((vI q_3),[]) else none else none) (IntKind.i64.wrap q_4))
 (IntKind.wrap IntKind.u64 (q_2+1))) (IntKind.i64.wrap q_2)) (↑(F.sealN (F.dvQ z.1 z.2.1 z.2.2)):Int) else Option.bind (unenc encRnd ((vI way)
 :: (vB (decide (n<0)))::AV.v (Value.int IntKind.u64 (0:Int))::q)) fun z=>bif decide ((0:Int)≤z.2.2.1)&&decide
 (z.2.2.1≤z.2.2.2)&&decide (z.2.2.2≤18446744073709551615) then bif F.rnd z.1 z.2.1 z.2.2.1 z.2.2.2 then q_1 else q_1 else
 none else none else none) (bif decide (n<0) then some ((vI (IntKind.i64.wrap ((0:Int) - IntKind.i64.wrap (1152921504606846976:Int)))),[])
 else some ((vI (IntKind.i64.wrap (1152921504606846976:Int))),[]))) [AV.v (Value.int IntKind.u64 (IntKind.wrap IntKind.u64 d))]:=(runFR_val).symm.trans (by kernel_rfl)

def encScG1 (n:Int) (m:Int) (d:Int) (way:Int):List AV:=[vI n,vI m,vI d,vI way]

def encScG (a:Int×Int×Int×Int):List AV:=encScG1 a.1 a.2.1 a.2.2.1 a.2.2.2

theorem encScG_inj (a a':Int×Int×Int×Int) (h:encScG a=encScG a'):a=a':=by
 simp only[encScG,encScG1]at h
 try simp[]at h
 grind

theorem unScG (n:Int) (m:Int) (d:Int) (way:Int):unenc encScG ([(vI n),(vI m),(vI d),(vI way)])=some (n,m,d,way):=unenc_of encScG_inj (n,m,d,way) rfl

noncomputable def resScG1 (n:Int) (m:Int) (d:Int) (way:Int):AV×Heap:=(vI (F.sealI (F.sclW n m d way)),[])

def preScG1 (n:Int) (m:Int) (d:Int) (way:Int):Bool:=F.i64B n&&(decide (0≤m)&&(F.i64B m&&(decide (1≤d)&&F.i64B d)))

noncomputable def oScG:Orc:=orc 106 true encScG (fun a=>preScG1 a.1 a.2.1 a.2.2.1 a.2.2.2) fun a=>resScG1 a.1 a.2.1 a.2.2.1 a.2.2.2

theorem okScG:OrcOK Tryz.prog noG oScG:=by
 refine mk_ok Tryz.f106 (keep:=false) (by kernel_rfl) (by kernel_rfl) enScG_ok mixed (no_loops (by kernel_rfl)) (by first | exact fun _ _=>⟨rfl,rfl⟩ | (intro h;cases h)) ?_
 rintro⟨n,m,d,way⟩ hpre hok
 show(runF enScG false _ (encScG1 _ _ _ _)).val=some (resScG1 _ _ _ _)
 unfold encScG1 resScG1
 rw[evScG]
 simp only[preScG1,Bool.and_eq_true,decide_eq_true_eq]at hpre
 obtain⟨h1,h2,h3,h4,h5⟩:=hpre
 have hn:=h1
 simp only[F.i64B,Bool.and_eq_true,decide_eq_true_eq]at hn h3 h5
 have w1:IntKind.u64.wrap m=((m.natAbs:Nat):Int):=by rw[IntKind.wrap_u64];omega
 have w2:IntKind.u64.wrap d=((d.natAbs:Nat):Int):=by rw[IntKind.wrap_u64];omega
 have d1:decide (n.natAbs<18446744073709551616)=true:=decide_eq_true (by omega)
 have d2:decide (m.natAbs<18446744073709551616)=true:=decide_eq_true (by omega)
 have d3:decide (d.natAbs<18446744073709551616)=true:=decide_eq_true (by omega)
 have d4:=decide_eq_true (F.mlo_lt n.natAbs m.natAbs)
 have c1:decide (((F.mhi n.natAbs m.natAbs:Nat):Int)<((d.natAbs:Nat):Int))=decide (F.mhi n.natAbs m.natAbs<d.natAbs):=by
  by_cases h:F.mhi n.natAbs m.natAbs<d.natAbs
  ·rw[decide_eq_true h,decide_eq_true (Int.ofNat_lt.2 h)]
  ·rw[decide_eq_false h,decide_eq_false (fun e=>h (Int.ofNat_lt.1 e))]
 have hd:((d.natAbs:Nat):Int)=d:=by omega
 have r0 : ∀r:Nat,r≤d.natAbs→(decide ((0:Int)≤(r:Int))&&decide ((r:Int)≤((d.natAbs:Nat):Int))&&decide (((d.natAbs:Nat):Int)≤18446744073709551615))=true:=fun r hr=>by
  rw[decide_eq_true (show(0:Int)≤(r:Int) by omega),decide_eq_true (show(r:Int)≤((d.natAbs:Nat):Int) by omega),decide_eq_true (show((d.natAbs:Nat):Int)≤18446744073709551615 by omega)]
  rfl
 obtain⟨q,hq⟩ : ∃q,F.sealN (F.dvQ (F.mhi n.natAbs m.natAbs) (F.mlo n.natAbs m.natAbs) d.natAbs)=q:=⟨_,rfl⟩
 obtain⟨r,hr⟩ : ∃r,F.sealN (F.dvR (F.mhi n.natAbs m.natAbs) (F.mlo n.natAbs m.natAbs) d.natAbs)=r:=⟨_,rfl⟩
 have hq2:F.dvQ (F.mhi n.natAbs m.natAbs) (F.mlo n.natAbs m.natAbs) d.natAbs=q:=by rw[←hq,F.sealN_eq]
 have hr2:F.dvR (F.mhi n.natAbs m.natAbs) (F.mlo n.natAbs m.natAbs) d.natAbs=r:=by rw[←hr,F.sealN_eq]
 have hrl:r≤d.natAbs:=by rw[←hr2];exact Nat.le_of_lt (F.dvR_lt (by omega))
 have r1:=r0 r hrl
 have r2:=r0 0 (Nat.zero_le _)
 rw[show((0:Nat):Int)=0 from rfl]at r2
 simp only[unSiz,unMul,unDvf,unRnd,Option.bind_some,cond_true,Bool.and_true,h1,w1,w2,d1,d2,c1]
 rw[F.sealI_eq]
 unfold F.sclW
 rw[hq2,hr2]
 unfold F.sclE
 clear hq2 hr2
 cases hh:decide (F.mhi n.natAbs m.natAbs<d.natAbs)
 ·simp only[cond_false,r2,cond_true]
  rw[hd]
  cases F.rnd way (decide (n<0)) 0 d<;>cases decide (n<0)<;>rfl
 ·simp only[cond_true,d3,d4,Bool.and_self,F.sealN_eq,r1]
  rw[hd]
  generalize (q:Int)=q
  generalize F.rnd way (decide (n<0)) (r:Int) d=rr
  cases rr
  ·simp only[cond_false]
   cases decide ((1152921504606846976:Int)<q)<;>cases decide (n<0)<;>rfl
  ·simp only[cond_true]
   cases decide ((1152921504606846976:Int)<IntKind.u64.wrap (q+1))<;>cases decide (n<0)<;>rfl

end M

def F.prsC (l:List Smp):List Int×Int:=bif F.chkS l != 0 then ([],F.chkS l) else (F.prs l,0)

def F.lastG (ps:List Int) (v sc:Int):Nat→Nat
 | 0=>0
 | i+1=>bif decide (ps.getD (i+1) 0*sc≤v) then i+1 else F.lastG ps v sc i

theorem F.lastG_le (ps:List Int) (v sc:Int) : ∀i,F.lastG ps v sc i≤i
 | 0=>Nat.le_refl _
 | i+1=>by
  have:=F.lastG_le ps v sc i
  unfold F.lastG
  cases decide (ps.getD (i+1) 0*sc≤v)
  ·simp only[cond_false];omega
  ·exact Nat.le_refl _

def F.i64L (l:List Int):Bool:=l.all F.i64B

def F.bytes (l:List Smp):Int:=l.foldl (fun n s=>IntKind.i64.wrap (n+s.size)) 0

noncomputable def F.cutN (r:Std) (sc b:Int):Int:=F.sealI (F.sclW b r.scale sc 1)

def F.atN (r:Std) (sc b:Int):Int:=bif r.sound then ((F.lastG (F.prs r.samples) (b*r.scale) sc (r.samples.length - 1):Nat):Int) else (F.fnd (F.plcs r.samples) r.scale b sc).1.sample

noncomputable def F.fiF (r:Std) (sc:Int) (l:List Int) (p:Int×Nat):Int:=
 bif F.noTm (F.cutN r sc p.1) then 1 else bif r.sound then (bif decide (0<p.2)&&decide (F.atN r sc p.1≤F.atN r sc (l.getD (p.2 - 1) 0)) then 13 else 0) else bif !(F.fnd (F.plcs r.samples) r.scale p.1 sc).2 then 9 else 0

noncomputable def F.fisF (r:Std) (sc:Int) (l:List Int):Int:=M.ffI (F.fiF r sc l) l.zipIdx

noncomputable def F.firs (r:Std) (sc:Int) (l:List Int):List Int×List Int×Int:=
 bif F.fisF r sc l != 0 then ([],[],F.fisF r sc l) else (l.map (F.atN r sc),l.map (F.cutN r sc),0)

namespace M

noncomputable def enPrC:Env:=envH ty noG lks [oChS,oPrs] [] [] []

theorem enPrC_ok:EnvOK Tryz.prog enPrC:=by
 refine envH_ok lks_ok ty_ok ?_ ?_
 ·simp only[List.forall_mem_cons]
  exact⟨okChS,okPrs,by simp⟩
 ·simp

theorem evPrC (l:List Smp):(runF enPrC false Tryz.f103 [.sl (l.map eSmp)]).val =
 Option.bind (unenc encChS [AV.sl (List.map eSmp l)]) fun z=>bif F.chkS z != 0 then some (AV.tup [AV.sl [],(vI (F.chkS z))],[]) else Option.bind
 (unenc encPrs [AV.sl (List.map eSmp l)]) fun z=>bif decide (List.length z≤5000) then some (AV.tup [AV.sl (List.map eI (F.prs z)),(vI 0)],
 []) else none:=(runFR_val).symm.trans (by kernel_rfl)

def encPrC1 (l:List Smp):List AV:=[.sl (l.map eSmp)]

def encPrC (a:(List Smp)):List AV:=encPrC1 a

theorem encPrC_inj (a a':(List Smp)) (h:encPrC a=encPrC a'):a=a':=by
 simp only[encPrC,encPrC1]at h
 try simp[eSmps_inj]at h
 grind

theorem unPrC (l:List Smp):unenc encPrC ([AV.sl (List.map eSmp l)])=some (l):=unenc_of encPrC_inj (l) rfl

noncomputable def resPrC1 (l:List Smp):AV×Heap:=(.tup [.sl ((F.prsC l).1.map eI),vI (F.prsC l).2],[])

def prePrC1 (l:List Smp):Bool:=true

noncomputable def oPrC:Orc:=orc 103 false encPrC (fun a=>prePrC1 a) fun a=>resPrC1 a

theorem okPrC:OrcOK Tryz.prog noG oPrC:=by
 refine mk_ok Tryz.f103 (keep:=false) (by kernel_rfl) (by kernel_rfl) enPrC_ok mixed (no_loops (by kernel_rfl)) (by first | exact fun _ _=>⟨rfl,rfl⟩ | (intro h;cases h)) ?_
 rintro l hpre hok
 show(runF enPrC false _ (encPrC1 _)).val=some (resPrC1 _)
 unfold encPrC1 resPrC1
 rw[evPrC]
 unfold F.prsC
 simp only[unChS,unPrs,Option.bind_some]
 by_cases h:F.chkS l=0
 ·rw[bne0 h]
  simp only[cond_false,decide_eq_true (F.chkS_len h),cond_true]
 ·rw[bne1 h];rfl

noncomputable def enEnC:Env:=envH ty noG lks [oChS,oEns] [] [] []

theorem enEnC_ok:EnvOK Tryz.prog enEnC:=by
 refine envH_ok lks_ok ty_ok ?_ ?_
 ·simp only[List.forall_mem_cons]
  exact⟨okChS,okEns,by simp⟩
 ·simp

def endsC (l:List Smp):List Int×Int:=bif F.chkS l != 0 then ([],F.chkS l) else (F.endsL l,0)

theorem evEnC (l:List Smp):(runF enEnC false Tryz.f51 [.sl (l.map eSmp)]).val =
 Option.bind (unenc encChS [AV.sl (List.map eSmp l)]) fun z=>bif F.chkS z != 0 then some (AV.tup [AV.sl [],(vI (F.chkS z))],[]) else Option.bind
 (unenc encEns [AV.sl (List.map eSmp l)]) fun z=>bif decide (List.length z≤5000) then some (AV.tup [AV.sl (List.map eI (F.endsL z)),(vI 0)],[]) else none:=(runFR_val).symm.trans (by kernel_rfl)

def encEnC1 (l:List Smp):List AV:=[.sl (l.map eSmp)]

def encEnC (a:(List Smp)):List AV:=encEnC1 a

theorem encEnC_inj (a a':(List Smp)) (h:encEnC a=encEnC a'):a=a':=by
 simp only[encEnC,encEnC1]at h
 try simp[eSmps_inj]at h
 grind

theorem unEnC (l:List Smp):unenc encEnC ([AV.sl (List.map eSmp l)])=some (l):=unenc_of encEnC_inj (l) rfl

noncomputable def resEnC1 (l:List Smp):AV×Heap:=(.tup [.sl ((endsC l).1.map eI),vI (endsC l).2],[])

def preEnC1 (l:List Smp):Bool:=true

noncomputable def oEnC:Orc:=orc 51 false encEnC (fun a=>preEnC1 a) fun a=>resEnC1 a

theorem okEnC:OrcOK Tryz.prog noG oEnC:=by
 refine mk_ok Tryz.f51 (keep:=false) (by kernel_rfl) (by kernel_rfl) enEnC_ok mixed (no_loops (by kernel_rfl)) (by first | exact fun _ _=>⟨rfl,rfl⟩ | (intro h;cases h)) ?_
 rintro l hpre hok
 show(runF enEnC false _ (encEnC1 _)).val=some (resEnC1 _)
 unfold encEnC1 resEnC1
 rw[evEnC]
 unfold endsC
 simp only[unChS,unEns,Option.bind_some]
 by_cases h:F.chkS l=0
 ·rw[bne0 h]
  simp only[cond_false,decide_eq_true (F.chkS_len h),cond_true]
 ·rw[bne1 h];rfl

noncomputable def stLsb (ps:List Int) (own t sc:Int) (i:Nat):St:=⟨[(9,vI i),(3,vI sc),(2,vI t),(1,vI own),(0, .sl (ps.map eI))],[]⟩

noncomputable def stLsb1 (a:(List Int)×Int×Int×Int×Nat):St:=stLsb a.1 a.2.1 a.2.2.1 a.2.2.2.1 a.2.2.2.2

theorem stLsb_inj (a a':(List Int)×Int×Int×Int×Nat) (h:stLsb1 a=stLsb1 a'):a=a':=by
 simp only[stLsb1,stLsb]at h
 try simp[ints_inj]at h
 grind

theorem unstLsb (ps:List Int) (own t sc:Int) (i:Nat):unenc stLsb1 (St.mk [(9,(vI (↑i:Int))),(3,(vI sc)),(2,(vI t)),(1,(vI own)),(0,AV.sl (List.map eI ps))] [])=some (ps,own,t,sc,i):=unenc_of stLsb_inj (ps,own,t,sc,i) rfl

noncomputable def outLsb (ps:List Int) (own t sc:Int) (i:Nat):T (Ex×St):= .ifB (decide (F.lastG ps (t*own) sc i=0)) (.ret (.exit 0,⟨[],[]⟩)) (.ret (.ret,⟨[(8,vI (F.lastG ps (t*own) sc i:Nat))],[]⟩))

noncomputable def prlLsb (ps:List Int) (own t sc:Int) (i:Nat):Bool:=F.i64L ps&&(F.i64B own&&(F.i64B t&&(F.i64B sc&&(decide (i<ps.length)&&decide (ps.length≤5000)))))

noncomputable def lpLsb:Nat×(St→T (Ex×St)):=(2,lpo [9,3,2,1,0] [] stLsb1 (fun a=>prlLsb a.1 a.2.1 a.2.2.1 a.2.2.2.1 a.2.2.2.2) fun a=>outLsb a.1 a.2.1 a.2.2.1 a.2.2.2.1 a.2.2.2.2)

noncomputable def enLsb:Env:=envH ty noG lks [oCmw] [] [] [lpLsb]

theorem enLsb_ok:EnvOK Tryz.prog enLsb:=by
 refine envH_ok lks_ok ty_ok ?_ ?_
 ·simp only[List.forall_mem_cons]
  exact⟨okCmw,by simp⟩
 ·simp

theorem cmp_le0 (x y:Int):decide (F.cmp x y≤(0:Int))=decide (x≤y):=F.cmp_le x y

theorem i64L_at {l:List Int} (h:F.i64L l=true) {y:Int} (hy:y∈l):F.i64B y=true:=List.all_eq_true.1 h y hy

theorem evLsbL (ps:List Int) (own t sc:Int) (i:Nat):((exec enLsb (loopN Tryz.f147 0) (stLsb ps own t sc i)).bind (lessX ([9,3,2,1,0],[]) ([],[]) ([8],[]))).val =
 bif decide ((0:Int)<(↑i:Int)) then Option.bind (unenc (List.map eI) (List.map eI ps)) fun z=>bif decide (i<List.length z) then Option.bind (unenc
 encCmw [(vI (List.getD z i 0)),(vI own),(vI t),(vI sc)]) fun z=>bif F.i64B z.1&&(F.i64B z.2.1&&(F.i64B z.2.2.1 &&
 F.i64B z.2.2.2)) then bif decide (F.cmp (z.1*z.2.2.2) (z.2.2.1*z.2.1)≤0) then some (Ex.ret,St.mk [(8,(vI (↑i:Int)))] []) else
 some (Ex.normal,St.mk [(9,(vI (IntKind.i64.wrap ((↑i:Int) - (1:Int))))),(3,(vI sc)),(2,(vI t)),(1,(vI own)),(0,AV.sl (List.map eI ps))] []) else none
 else none else some (Ex.exit (0:Nat),St.mk [] []):=(execR_bind _ _ _).symm.trans (by kernel_rfl)

theorem lpLsb_ok (ps:List Int) (own t sc:Int) (i:Nat) (hp:prlLsb ps own t sc i=true) : ∀ex s',(outLsb ps own t sc i).val=some (ex,s')→LoopOK enLsb (loopN Tryz.f147 0) (stLsb ps own t sc i) ex s':=by
 simp only[prlLsb,Bool.and_eq_true,decide_eq_true_eq]at hp
 obtain⟨h1,h2,h3,h4,h5,h6⟩:=hp
 refine loop_gen (st:=fun i:Nat=>stLsb ps own t sc i) (out:=fun i=>outLsb ps own t sc i) (I:=fun i=>i<ps.length) (n:=([9,3,2,1,0],[])) (e:=([],[])) (r:=([8],[])) (fun i=>i) ?_ i h5
 clear h5 i
 intro i h5
 cases i with
 | zero=>
  left
  refine⟨_,?_,rfl,by simp,rfl⟩
  rw[evLsbL]
  rw[decide_eq_false (show ¬((0:Int)<((0:Nat):Int)) by omega)]
  rfl
 | succ m=>
  have hy:ps[m+1]? = some ps[m+1]:=List.getElem?_eq_getElem h5
  have hb:=i64L_at h1 (List.mem_of_getElem? hy)
  generalize ps[m+1]=y at hy hb
  have d0:decide ((0:Int)<((m+1:Nat):Int))=true:=decide_eq_true (by omega)
  have e:IntKind.i64.wrap (((m+1:Nat):Int) - 1)=(m:Int):=by rw[wrap_id (by omega) (by omega)];omega
  by_cases hc:y*sc≤t*own
  ·left
   have eg:F.lastG ps (t*own) sc (m+1)=m+1:=by
    unfold F.lastG
    rw[getD_at hy,decide_eq_true hc]
    rfl
   refine⟨(.ret,⟨[(8,vI ((m+1:Nat):Int))],[]⟩),?_,?_,by simp,rfl⟩
   ·rw[evLsbL]
    simp only[unCmw,Option.bind_some,unInts,cond_true,Bool.and_true,d0,decide_eq_true h5,getD_at hy,hb,h2,h3,h4,Bool.and_self,cmp_le0,decide_eq_true hc]
    try rfl
   ·simp only[outLsb,eg]
    rw[decide_eq_false (show ¬(m+1=0) by omega)]
    rfl
  ·right
   have eg:F.lastG ps (t*own) sc (m+1)=F.lastG ps (t*own) sc m:=by
    conv=>lhs;unfold F.lastG
    rw[getD_at hy,decide_eq_false hc]
    rfl
   refine⟨m,?_,rfl,by omega,by omega,?_⟩
   ·rw[evLsbL]
    simp only[unCmw,Option.bind_some,unInts,cond_true,cond_false,Bool.and_true,d0,decide_eq_true h5,getD_at hy,hb,h2,h3,h4,Bool.and_self,cmp_le0,decide_eq_false hc,e]
    try rfl
   ·simp only[outLsb,eg]

theorem evLsb (ps:List Int) (own:Int) (t:Int) (sc:Int):(runF enLsb false Tryz.f147 [.sl (ps.map eI),vI own,vI t,vI sc]).val =
 Option.bind (unenc stLsb1 (St.mk [(9,(vI (IntKind.i64.wrap ((↑(List.length (List.map eI ps)):Int) - (1:Int))))),(3,(vI sc)),(2,(vI t)),(1,(vI own)),(0,
 AV.sl (List.map eI ps))] [])) fun z=>bif F.i64L z.1&&(F.i64B z.2.1&&(F.i64B z.2.2.1&&(F.i64B z.2.2.2.1 &&
 (decide (z.2.2.2.2<List.length z.1)&&decide (List.length z.1≤5000)))))&&true then bif decide (F.lastG z.1 (z.2.2.1*z.2.1)
 z.2.2.2.1 z.2.2.2.2=(0:Nat)) then some ((vI 0),[]) else some ((vI (↑(F.lastG z.1 (z.2.2.1*z.2.1) z.2.2.2.1
 z.2.2.2.2):Int)),[]) else none:=(runFR_val).symm.trans (by kernel_rfl)

def encLsb1 (ps:List Int) (own:Int) (t:Int) (sc:Int):List AV:=[.sl (ps.map eI),vI own,vI t,vI sc]

def encLsb (a:(List Int)×Int×Int×Int):List AV:=encLsb1 a.1 a.2.1 a.2.2.1 a.2.2.2

theorem encLsb_inj (a a':(List Int)×Int×Int×Int) (h:encLsb a=encLsb a'):a=a':=by
 simp only[encLsb,encLsb1]at h
 try simp[ints_inj]at h
 grind

theorem unLsb (ps:List Int) (own:Int) (t:Int) (sc:Int):unenc encLsb ([AV.sl (List.map eI ps),(vI own),(vI t),(vI sc)])=some (ps,own,t,sc):=unenc_of encLsb_inj (ps,own,t,sc) rfl

noncomputable def resLsb1 (ps:List Int) (own:Int) (t:Int) (sc:Int):AV×Heap:=(vI (F.lastG ps (t*own) sc (ps.length - 1):Nat),[])

def preLsb1 (ps:List Int) (own:Int) (t:Int) (sc:Int):Bool:=F.i64L ps&&(F.i64B own&&(F.i64B t&&(F.i64B sc&&(decide (1≤ps.length)&&decide (ps.length≤5000)))))

noncomputable def oLsb:Orc:=orc 147 true encLsb (fun a=>preLsb1 a.1 a.2.1 a.2.2.1 a.2.2.2) fun a=>resLsb1 a.1 a.2.1 a.2.2.1 a.2.2.2

theorem okLsb:OrcOK Tryz.prog noG oLsb:=by
 refine mk_ok Tryz.f147 (keep:=false) (by kernel_rfl) (by kernel_rfl) enLsb_ok mixed (one_loop (x0:=loopN Tryz.f147 0) (by kernel_rfl) (lpo_ok ?_)) (by first | exact fun _ _=>⟨rfl,rfl⟩ | (intro h;cases h)) ?_
 ·rintro⟨ps,own,t,sc,i⟩ hp
  exact lpLsb_ok ps own t sc i hp
 rintro⟨ps,own,t,sc⟩ hpre hok
 show(runF enLsb false _ (encLsb1 _ _ _ _)).val=some (resLsb1 _ _ _ _)
 unfold encLsb1 resLsb1
 rw[evLsb]
 simp only[preLsb1,Bool.and_eq_true,decide_eq_true_eq]at hpre
 obtain⟨h1,h2,h3,h4,h5,h6⟩:=hpre
 have e:IntKind.i64.wrap ((ps.length:Int) - 1)=((ps.length - 1:Nat):Int):=by rw[wrap_id (by omega) (by omega)];omega
 have z:unenc stLsb1 (St.mk [(9,(vI ((ps.length - 1:Nat):Int))),(3,(vI sc)),(2,(vI t)),(1,(vI own)),(0,AV.sl (List.map eI ps))] [])=some (ps,own,t,sc,ps.length - 1):=unstLsb ps own t sc _
 simp only[unstLsb,Option.bind_some,List.length_map,Bool.and_true,List.length_map,e]
 try rw[z]
 simp only[h1,h2,h3,h4,decide_eq_true h6,decide_eq_true (show ps.length - 1<ps.length by omega),Bool.and_self,cond_true]
 by_cases h0:F.lastG ps (t*own) sc (ps.length - 1)=0
 ·rw[h0];rfl
 ·rw[decide_eq_false h0];rfl

noncomputable def stByt (l:List Smp) (n:Int) (k:Nat):St:=⟨[(8,vI k),(7,vI l.length),(6, .sl (l.map eSmp)),(3,vI n)],[]⟩

noncomputable def stByt1 (a:(List Smp)×Int×Nat):St:=stByt a.1 a.2.1 a.2.2

theorem stByt_inj (a a':(List Smp)×Int×Nat) (h:stByt1 a=stByt1 a'):a=a':=by
 simp only[stByt1,stByt]at h
 try simp[eSmps_inj]at h
 grind

theorem unstByt0 (l:List Smp)  : unenc stByt1 (St.mk [(8,(vI (0:Int))),(7,(vI (↑(List.length l):Int))),(6,AV.sl (List.map eSmp l)),(3,(vI (0:Int)))] [])=some (l,0,0):=unenc_of stByt_inj (l,0,0) rfl

noncomputable def outByt (l:List Smp) (n:Int) (k:Nat):T (Ex×St):= .ret (.exit 0,⟨[(3,vI ((l.drop k).foldl (fun n s=>IntKind.i64.wrap (n+s.size)) n))],[]⟩)

noncomputable def prlByt (l:List Smp) (n:Int) (k:Nat):Bool:=decide (l.length≤9223372036854775807)&&decide (k≤l.length)

noncomputable def lpByt:Nat×(St→T (Ex×St)):=(3,lpo [8,7,6,3] [] stByt1 (fun a=>prlByt a.1 a.2.1 a.2.2) fun a=>outByt a.1 a.2.1 a.2.2)

noncomputable def enByt:Env:=envH ty noG lks [] [] [] [lpByt]

theorem enByt_ok:EnvOK Tryz.prog enByt:=by
 refine envH_ok lks_ok ty_ok ?_ ?_
 ·simp
 ·simp

theorem evBytL (l:List Smp) (n:Int) (k:Nat):((exec enByt (loopN Tryz.f66 0) (stByt l n k)).bind (lessX ([8,7,6,3],[]) ([3],[]) ([],[]))).val =
 bif decide ((↑k:Int)<(↑(List.length l):Int)) then Option.bind (unenc (List.map eSmp) (List.map eSmp l)) fun z=>bif decide (k<List.length z) then
 some (Ex.normal,St.mk [(8,(vI (IntKind.i64.wrap ((↑k:Int)+1)))),(7,(vI (↑(List.length l):Int))),(6,AV.sl (List.map eSmp l)),(3,(vI
 (IntKind.i64.wrap (n+(List.getD z k (Smp.mk (0:Int) (0:Int) (0:Int) (0:Int) false)).size))))] []) else none else some (Ex.exit (0:Nat),St.mk [(3,(vI
 n))] []):=(execR_bind _ _ _).symm.trans (by kernel_rfl)

theorem lpByt_ok (l:List Smp) (n:Int) (k:Nat) (hp:prlByt l n k=true) : ∀ex s',(outByt l n k).val=some (ex,s')→LoopOK enByt (loopN Tryz.f66 0) (stByt l n k) ex s':=by
 simp only[prlByt,Bool.and_eq_true,decide_eq_true_eq]at hp
 refine loop_fold (xs:=l) (st:=stByt l) (f:=fun n s=>IntKind.i64.wrap (n+s.size)) (fin:=fun n=>(.exit 0,⟨[(3,vI n)],[]⟩)) (I:=fun _ _=>True) (n:=([8,7,6,3],[])) (e:=([3],[])) (r:=([],[])) ?_ (fun _=>⟨by simp,rfl⟩) (fun _ _=>rfl) ?_ n k hp.2 trivial
 ·intro a _
  rw[evBytL];simp
 ·intro a k y hy _
  have hlt:=lt_at hy
  have h1:=hp.1
  rw[evBytL]
  simp only[Option.bind_some,unSmps,cond_true,cast_lt hlt,decide_eq_true hlt,next_at hlt h1,getD_at hy,stByt]
  simp

theorem evByt (l:List Smp):(runF enByt false Tryz.f66 [.sl (l.map eSmp)]).val =
 Option.bind (unenc stByt1 (St.mk [(8,(vI 0)),(7,(vI (↑(List.length (List.map eSmp l)):Int))),(6,AV.sl (List.map eSmp l)),(3,(vI 0))] [])) fun(z :
 List Smp×Int×Nat)=>bif decide (List.length z.1≤9223372036854775807)&&decide (z.2.2≤List.length z.1)&&true then some ((vI (List.foldl (fun(n
 : Int) (s:Smp)=>IntKind.i64.wrap (n+s.size)) z.2.1 (List.drop z.2.2 z.1))),[]) else none:=(runFR_val).symm.trans (by kernel_rfl)

def encByt1 (l:List Smp):List AV:=[.sl (l.map eSmp)]

def encByt (a:(List Smp)):List AV:=encByt1 a

theorem encByt_inj (a a':(List Smp)) (h:encByt a=encByt a'):a=a':=by
 simp only[encByt,encByt1]at h
 try simp[eSmps_inj]at h
 grind

theorem unByt (l:List Smp):unenc encByt ([AV.sl (List.map eSmp l)])=some (l):=unenc_of encByt_inj (l) rfl

noncomputable def resByt1 (l:List Smp):AV×Heap:=(vI (F.bytes l),[])

def preByt1 (l:List Smp):Bool:=true

noncomputable def oByt:Orc:=orc 66 true encByt (fun a=>preByt1 a) fun a=>resByt1 a

theorem okByt:OrcOK Tryz.prog noG oByt:=by
 refine mk_ok Tryz.f66 (keep:=false) (by kernel_rfl) (by kernel_rfl) enByt_ok mixed (one_loop (x0:=loopN Tryz.f66 0) (by kernel_rfl) (lpo_ok ?_)) (by first | exact fun _ _=>⟨rfl,rfl⟩ | (intro h;cases h)) ?_
 ·rintro⟨l,n,k⟩ hp
  exact lpByt_ok l n k hp
 rintro l hpre hok
 show(runF enByt false _ (encByt1 _)).val=some (resByt1 _)
 unfold encByt1 resByt1
 rw[evByt]
 have hx:l.length≤9223372036854775807:=by simpa using(okA_sl (hok _ (List.mem_cons_self ..))).1
 simp only[unstByt0,Option.bind_some,List.length_map,cond_true,Bool.and_true,hx,Nat.zero_le,decide_true,Bool.and_self,List.drop_zero]
 rfl

noncomputable def stFir (r:Std) (sc:Int) (l:List Int) (k:Nat):St:=⟨[(30,vI k),(29,vI l.length),(28, .sl (l.map eI)),(13, .own 13),(12, .own 12),(10, .sl ((F.prs r.samples).map eI)),(9, .sl ((F.plcs r.samples).map ePlc)),(3, .ptr 3 0 0),(1,vI sc)],[(13,⟨false,3,1,((l.take k).map (F.cutN r sc)).map eI⟩),(12,⟨false,3,1,((l.take k).map (F.atN r sc)).map eI⟩),(3,⟨true,0,0,[eStd r]⟩)]⟩

noncomputable def stFir1 (a:Std×Int×(List Int)×Nat):St:=stFir a.1 a.2.1 a.2.2.1 a.2.2.2

theorem stFir_inj (a a':Std×Int×(List Int)×Nat) (h:stFir1 a=stFir1 a'):a=a':=by
 simp only[stFir1,stFir]at h
 try simp[ints_inj,eStd_iff,ePlcs_inj]at h
 grind

theorem unstFir0 (r:Std) (sc:Int) (l:List Int)  : unenc stFir1 (St.mk [(30,(vI (0:Int))),(29,(vI (↑(List.length l):Int))),(28,AV.sl (List.map eI l)),(13, .own 13),(12, .own 12),(10,AV.sl (List.map eI (F.prs r.samples))),
 (9,AV.sl (List.map ePlc (F.plcs r.samples))),(3, .ptr 3 0 0),(1,(vI sc))] [(13,Blk.mk false 3 1 []),(12,Blk.mk false 3 1 []),(3,Blk.mk true 0 0 [[(vS r.name),(vI
 r.scale),(vB r.sound),AV.sl (List.map eSmp r.samples)]])])=some (r,sc,l,0):=unenc_of stFir_inj (r,sc,l,0) rfl

noncomputable def outFir (r : Std) (sc : Int) (l : List Int) (k : Nat) : T (Ex × St) := .ifB (decide (M.ffI (F.fiF r sc l) (l.zipIdx.drop k) = 0)) (.ret (.exit 0, ⟨[(13, .own 13), (12, .own 12)], [(13, ⟨false, 3, 1, (l.map (F.cutN r sc)).map eI⟩), (12, ⟨false, 3, 1, (l.map (F.atN r sc)).map eI⟩)]⟩))
      (.ret (.ret, ⟨[(8, vI (M.ffI (F.fiF r sc l) (l.zipIdx.drop k))), (7, .own 7), (6, .own 6)], [(7, ⟨false, 3, 1, []⟩), (6, ⟨false, 3, 1, []⟩)]⟩))

noncomputable def prlFir (r:Std) (sc:Int) (l:List Int) (k:Nat):Bool:=decide (F.chkS r.samples=0)&&(decide (1≤r.samples.length)&&(!F.noScale r.scale&&(!F.noScale sc&&(F.i64L l&&(decide (l.length≤1000)&&decide (k≤l.length))))))

noncomputable def lpFir:Nat×(St→T (Ex×St)):=(5,lpo [30,29,28,13,12,10,9,3,1] [13,12,3] stFir1 (fun a=>prlFir a.1 a.2.1 a.2.2.1 a.2.2.2) fun a=>outFir a.1 a.2.1 a.2.2.1 a.2.2.2)

noncomputable def enFir:Env:=envH ty noG lks [oPlf,oPrC,oScG,oNoTm,oLsb,oFnd] [] [] [lpFir]

theorem enFir_ok:EnvOK Tryz.prog enFir:=by
 refine envH_ok lks_ok ty_ok ?_ ?_
 ·simp only[List.forall_mem_cons]
  exact⟨okPlf,okPrC,okScG,okNoTm,okLsb,okFnd,by simp⟩
 ·simp

theorem prs_i64 {l:List Smp} (h:F.chkS l=0):F.i64L (F.prs l)=true:=by
 refine List.all_eq_true.2 fun y hy=>?_
 obtain⟨s,hs,rfl⟩:=List.mem_map.1 hy
 obtain⟨q1,q2,q3,q4,q5⟩:=F.smpB_ok (F.chkS_at h hs)
 rw[q5]
 unfold F.i64B
 rw[decide_eq_true (by omega),decide_eq_true (by omega)]
 rfl

theorem take_next {l:List Int} {k:Nat} {b:Int} (h:l[k]? = some b) (f:Int→Int):(l.take k).map f++[f b]=(l.take (k+1)).map f:=by
 rw[List.take_add_one,h,List.map_append]
 rfl

theorem take_prev {l:List Int} {k:Nat} (h0:0<k) (h:k≤l.length) (f:Int→Int):((l.take k).map f).getD (k - 1) 0=f (l.getD (k - 1) 0):=by
 have hy:l[k - 1]? = some l[k - 1]:=List.getElem?_eq_getElem (by omega)
 have hy2:((l.take k).map f)[k - 1]? = some (f l[k - 1]):=by
  rw[List.getElem?_map,List.getElem?_take,if_pos (by omega),hy]
  rfl
 rw[getD_at hy,getD_at hy2]

theorem evFirL (r:Std) (sc:Int) (l:List Int) (k:Nat):((exec enFir (loopN Tryz.f102 0) (stFir r sc l k)).bind (lessX ([30,29,28,13,12,10,9,3,1],[13,12,3]) ([13,12],[13,12]) ([8,7,6],[7,6]))).val =
 (fun(q:AV)=>(fun(q_1:List Row)=>(fun(q_2:List Row)=>(fun(q_3:List (Nat×AV))=>(fun(q_4:Blk)=>(fun(q_5:List (Nat×Blk))=>(fun(q_6:Bool)
 =>(fun(q_7:Bool)=>(fun(q_8:List (Nat×Blk))=>(fun(q_9:List (Nat×AV))=>bif decide ((↑k:Int)<(↑(List.length l):Int)) then Option.bind (unenc
 (List.map eI) (List.map eI l)) fun z=>(fun(q_10:List AV)=>bif decide (k<List.length z) then Option.bind (unenc encScG [(vI (List.getD z k 0)),q,(vI sc),(vI 1)]) fun z=>(fun(q:List AV)=>(fun(q_11:Nat×Blk)=>bif F.i64B z.1&&(decide ((0:Int) ≤
 z.2.1)&&(F.i64B z.2.1&&(decide ((1:Int)≤z.2.2.1)&&F.i64B z.2.2.1))) then Option.bind (unenc encNoTm q) fun z=>bif F.noTm z then
 some (Ex.ret,St.mk ((8,(vI 1))::q_3) q_5) else bif r.sound then Option.bind (unenc encLsb (AV.sl (List.map eI (F.prs r.samples))::q_10)) fun z=>(fun(q:Int)=>(fun(q_12:Option (Ex×St))=>bif F.i64L z.1&&(F.i64B z.2.1&&(F.i64B z.2.2.1&&(F.i64B z.2.2.2&&(decide
 ((1:Nat)≤List.length z.1)&&decide (List.length z.1≤5000))))) then bif decide ((0:Int)<(↑k:Int)) then Option.bind (idx (IntKind.wrap IntKind.i64
 ((↑k:Int) - (1:Int)))) fun z=>bif decide (z<List.length q_4.rows) then Option.bind (unenc (List.map eI) q_2) fun z_1=>bif decide (z <
 List.length z_1) then bif decide (q≤List.getD z_1 z 0) then some (Ex.ret,St.mk ((8,(vI 13))::q_3) q_5) else q_12 else none else none else q_12 else
 none) (bif q_6 then bif q_7 then some (Ex.normal,St.mk q_9 (q_11::(12,Blk.mk false 3 1 (q_2++[[(vI q)]]))::q_8)) else none else none)) (↑(F.lastG z.1
 (z.2.2.1*z.2.1) z.2.2.2 (List.length z.1 - (1:Nat))):Int) else Option.bind (unenc encFnd (AV.sl (List.map ePlc (F.plcs r.samples))::q_10)) fun(z
 : List Plc×Int×Int×Int)=>bif F.plB z.1&&(F.i64B z.2.1&&(F.i64B z.2.2.1&&(decide ((1:Int)≤z.2.2.2)&&F.i64B z.2.2.2))) then bif
 !(F.fnd z.1 z.2.1 z.2.2.1 z.2.2.2).snd then some (Ex.ret,St.mk ((8,(vI 9))::q_3) q_5) else bif q_6 then bif q_7 then some (Ex.normal,St.mk
 q_9 (q_11::(12,Blk.mk false 3 1 (q_2++[[(vI (F.fnd z.1 z.2.1 z.2.2.1 z.2.2.2).fst.sample)]]))::q_8)) else none else none else none else none) (13,
 Blk.mk false 3 1 (q_1++[q]))) [(vI (F.sealI (F.sclW z.1 z.2.1 z.2.2.1 z.2.2.2)))] else none) [q,(vI (List.getD z k 0)),(vI sc)] else some
 (Ex.exit (0:Nat),St.mk [(13, .own 13),(12, .own 12)] [(13,Blk.mk false 3 1 q_1),(12,q_4)])) [(30,(vI (IntKind.i64.wrap ((↑k:Int)+1)))),(29,
 (vI (↑(List.length l):Int))),(28,AV.sl (List.map eI l)),(13, .own 13),(12, .own 12),(10,AV.sl (List.map eI (F.prs r.samples))),(9,AV.sl (List.map ePlc (F.plcs
 r.samples))),(3, .ptr 3 0 0),(1,(vI sc))]) [(3,Blk.mk true 0 0 [[(vS r.name),q,(vB r.sound),AV.sl (List.map eSmp r.samples)]])]) (Nat.ble ((List.length q_1+1)*8) 140737488355328&&true)) (Nat.ble ((List.length q_2+1)*8) 140737488355328&&true)) [(7,Blk.mk false 3 1 []),(6,
 Blk.mk false 3 1 [])]) (Blk.mk false 3 1 q_2)) [(7, .own 7),(6, .own 6)]) (List.map eI (List.map (F.atN r sc) (List.take k l)))) (List.map eI (List.map (F.cutN r sc)
 (List.take k l)))) ((vI r.scale)):=(execR_bind _ _ _).symm.trans (by kernel_rfl)

theorem lpFir_ok (r:Std) (sc:Int) (l:List Int) (k:Nat) (hp:prlFir r sc l k=true) : ∀ex s',(outFir r sc l k).val=some (ex,s')→LoopOK enFir (loopN Tryz.f102 0) (stFir r sc l k) ex s':=by
 simp only[prlFir,Bool.and_eq_true,decide_eq_true_eq]at hp
 obtain⟨h1,h2,h3,h4,h5,h6,h7⟩:=hp
 obtain⟨a1,a2,a3⟩:=F.noScale_ok (show F.noScale r.scale=false by simpa using h3)
 obtain⟨b1,b2,b3⟩:=F.noScale_ok (show F.noScale sc=false by simpa using h4)
 have hpl:=F.plcs_ok h1
 have hpr:=prs_i64 h1
 have hsl:=F.chkS_len h1
 have hprl:=F.prs_len r.samples
 refine loop_code (xs:=l.zipIdx) (st:=stFir r sc l) (g:=F.fiF r sc l) (o:=fun c=>(.ret,⟨[(8,vI c),(7, .own 7),(6, .own 6)],[(7,⟨false,3,1,[]⟩),(6,⟨false,3,1,[]⟩)]⟩)) (fin:=(.exit 0,⟨[(13, .own 13),(12, .own 12)],[(13,⟨false,3,1,(l.map (F.cutN r sc)).map eI⟩),(12,⟨false,3,1,(l.map (F.atN r sc)).map eI⟩)]⟩)) (n:=([30,29,28,13,12,10,9,3,1],[13,12,3])) (e:=([13,12],[13,12])) (r:=([8,7,6],[7,6])) ?_ ⟨by simp,rfl⟩ (fun _=>⟨by simp,rfl⟩) (fun _=>rfl) ?_ k (by simp;exact h7)
 ·rw[List.length_zipIdx]
  rw[evFirL]
  simp only[cast_ge,cond_false,List.take_length]
 ·clear h7 k
  intro k y hy
  obtain⟨ha,hk⟩:=F.zipIdx_at hy
  obtain⟨b,kk⟩:=y
  simp only at ha hk
  subst hk
  have hlt:=lt_at ha
  have hN:=next_at hlt (by omega:l.length≤9223372036854775807)
  have hbb:=i64L_at h5 (List.mem_of_getElem? ha)
  have hcut:F.sealI (F.sclW b r.scale sc 1)=F.cutN r sc b:=rfl
  have hl1:((l.take kk).map (F.atN r sc)).length=kk:=by rw[List.length_map,List.length_take];omega
  have hl2:((l.take kk).map (F.cutN r sc)).length=kk:=by rw[List.length_map,List.length_take];omega
  have hbl:Nat.ble ((kk+1)*8) 140737488355328=true:=ble_t (by omega)
  have ht1:=take_next ha (F.atN r sc)
  have ht2:=take_next ha (F.cutN r sc)
  have g1:(if F.fiF r sc l (b,kk)=0 then (some (Ex.normal,stFir r sc l (kk+1))) else some (.ret,⟨[(8,vI (F.fiF r sc l (b,kk))),(7, .own 7),(6, .own 6)],[(7,⟨false,3,1,[]⟩),(6,⟨false,3,1,[]⟩)]⟩)) =
    (bif F.fiF r sc l (b,kk)==0 then (some (Ex.normal,stFir r sc l (kk+1))) else some (.ret,⟨[(8,vI (F.fiF r sc l (b,kk))),(7, .own 7),(6, .own 6)],[(7,⟨false,3,1,[]⟩),(6,⟨false,3,1,[]⟩)]⟩)):=by
   by_cases h:F.fiF r sc l (b,kk)=0
   ·rw[if_pos h,h];rfl
   ·rw[if_neg h,show(F.fiF r sc l (b,kk)==0)=false by simpa using h];rfl
  rw[g1]
  rw[evFirL]
  simp only[unScG,unNoTm,unLsb,unFnd,Option.bind_some,List.length_map,unInts,cond_true,Bool.and_true,Bool.true_and,cast_lt hlt,decide_eq_true hlt,hN,getD_at ha,hbb,decide_eq_true (show(0:Int)≤r.scale by omega),a3,decide_eq_true b1,b3,Bool.and_self,hcut,hpr,hprl,decide_eq_true h2,decide_eq_true hsl,hpl,hl1,hl2,hbl,appI1]
  have hfi:F.fiF r sc l (b,kk)=bif F.noTm (F.cutN r sc b) then 1 else bif r.sound then (bif decide (0<kk)&&decide (F.atN r sc b≤F.atN r sc (l.getD (kk - 1) 0)) then 13 else 0) else bif !(F.fnd (F.plcs r.samples) r.scale b sc).2 then 9 else 0:=rfl
  rw[hfi]
  cases hn:F.noTm (F.cutN r sc b)
  ·simp only[cond_false]
   cases hs:r.sound
   ·have hat:(F.fnd (F.plcs r.samples) r.scale b sc).1.sample=F.atN r sc b:=by unfold F.atN;rw[hs];rfl
    simp only[cond_false,hat]
    cases hf:(F.fnd (F.plcs r.samples) r.scale b sc).2
    ·rfl
    ·simp only[Bool.not_true,cond_false,ht1,ht2]
     unfold stFir
     unfold eStd
     rw[hs]
     rfl
   ·have hat:((F.lastG (F.prs r.samples) (b*r.scale) sc (r.samples.length - 1):Nat):Int)=F.atN r sc b:=by unfold F.atN;rw[hs];rfl
    simp only[cond_true,hat]
    by_cases h0:0<kk
    ·have hi:=idx_pred h0 (by omega:kk≤9223372036854775807)
     have hd:decide (kk - 1<kk)=true:=decide_eq_true (by omega)
     have htp:=take_prev h0 (by omega:kk≤l.length) (F.atN r sc)
     simp only[decide_eq_true h0,decide_eq_true (show(0:Int)<(kk:Int) by omega),cond_true,hi,Option.bind_some,hd,htp,Bool.true_and]
     cases decide (F.atN r sc b≤F.atN r sc (l.getD (kk - 1) 0))
     ·simp only[cond_false,ht1,ht2]
      unfold stFir
      unfold eStd
      rw[hs]
      rfl
     ·rfl
    ·simp only[decide_eq_false h0,decide_eq_false (show ¬(0:Int)<(kk:Int) by omega),cond_false,Bool.false_and,ht1,ht2]
     unfold stFir
     unfold eStd
     rw[hs]
     rfl
  ·rfl

theorem evFir (r:Std) (sc:Int) (l:List Int):(runF enFir false Tryz.f102 [.agg (eStd r),vI sc, .sl (l.map eI)]).val =
 Option.bind (unenc encPlf [AV.agg [(vS r.name),(vI r.scale),(vB r.sound),AV.sl (List.map eSmp r.samples)]]) fun z=>bif decide (F.chkS z.samples=(0:Int))
 then Option.bind (unenc encPrC [AV.sl (List.map eSmp r.samples)]) fun z_1=>Option.bind (unenc stFir1 (St.mk [(30,(vI 0)),(29,(vI (↑(List.length
 (List.map eI l)):Int))),(28,AV.sl (List.map eI l)),(13, .own 13),(12, .own 12),(10,AV.sl (List.map eI (F.prsC z_1).fst)),(9,AV.sl (List.map ePlc (F.plcs
 z.samples))),(3, .ptr 3 0 0),(1,(vI sc))] [(13,Blk.mk false 3 1 []),(12,Blk.mk false 3 1 []),(3,Blk.mk true 0 0 [[(vS r.name),(vI r.scale),(vB r.sound),AV.sl
 (List.map eSmp r.samples)]])])) fun z=>bif decide (F.chkS z.1.samples=(0:Int))&&(decide ((1:Nat)≤List.length z.1.samples) &&
 (!F.noScale z.1.scale&&(!F.noScale z.2.1&&(F.i64L z.2.2.1&&(decide (List.length z.2.2.1≤1000)&&decide (z.2.2.2≤List.length
 z.2.2.1))))))&&true then bif decide (ffI (F.fiF z.1 z.2.1 z.2.2.1) (List.drop z.2.2.2 (List.zipIdx z.2.2.1))=(0:Int)) then some (AV.tup
 [AV.sl (List.map eI (List.map (F.atN z.1 z.2.1) z.2.2.1)),AV.sl (List.map eI (List.map (F.cutN z.1 z.2.1) z.2.2.1)),(vI 0)],[]) else
 some (AV.tup [AV.sl [],AV.sl [],(vI (ffI (F.fiF z.1 z.2.1 z.2.2.1) (List.drop z.2.2.2 (List.zipIdx z.2.2.1))))],[]) else none else none:=(runFR_val).symm.trans (by kernel_rfl)

def encFir1 (r:Std) (sc:Int) (l:List Int):List AV:=[.agg (eStd r),vI sc, .sl (l.map eI)]

def encFir (a:Std×Int×(List Int)):List AV:=encFir1 a.1 a.2.1 a.2.2

theorem encFir_inj (a a':Std×Int×(List Int)) (h:encFir a=encFir a'):a=a':=by
 simp only[encFir,encFir1]at h
 try simp[ints_inj,eStd_iff]at h
 grind

theorem unFir (r:Std) (sc:Int) (l:List Int):unenc encFir ([AV.agg [(vS r.name),(vI r.scale),(vB r.sound),AV.sl (List.map eSmp r.samples)],(vI sc),AV.sl (List.map eI l)])=some (r,sc,l):=unenc_of encFir_inj (r,sc,l) rfl

theorem unFirw (r_name:ByteArray) (r_scale:Int) (r_sound:Bool) (r_samples:List Smp) (sc:Int) (l:List Int):unenc encFir ([AV.agg [(vS r_name),(vI r_scale),(vB r_sound),AV.sl (List.map eSmp r_samples)],(vI sc),AV.sl (List.map eI l)])=some ((Std.mk r_name r_scale r_sound r_samples),sc,l):=unenc_of encFir_inj ((Std.mk r_name r_scale r_sound r_samples),sc,l) rfl

noncomputable def resFir1 (r:Std) (sc:Int) (l:List Int):AV×Heap:=(.tup [.sl ((F.firs r sc l).1.map eI), .sl ((F.firs r sc l).2.1.map eI),vI (F.firs r sc l).2.2],[])

def preFir1 (r:Std) (sc:Int) (l:List Int):Bool:=decide (F.chkS r.samples=0)&&(decide (1≤r.samples.length)&&(!F.noScale r.scale&&(!F.noScale sc&&(F.i64L l&&decide (l.length≤1000)))))

noncomputable def oFir:Orc:=orc 102 false encFir (fun a=>preFir1 a.1 a.2.1 a.2.2) fun a=>resFir1 a.1 a.2.1 a.2.2

theorem okFir:OrcOK Tryz.prog noG oFir:=by
 refine mk_ok Tryz.f102 (keep:=false) (by kernel_rfl) (by kernel_rfl) enFir_ok mixed (one_loop (x0:=loopN Tryz.f102 0) (by kernel_rfl) (lpo_ok ?_)) (by first | exact fun _ _=>⟨rfl,rfl⟩ | (intro h;cases h)) ?_
 ·rintro⟨r,sc,l,k⟩ hp
  exact lpFir_ok r sc l k hp
 rintro⟨r,sc,l⟩ hpre hok
 show(runF enFir false _ (encFir1 _ _ _)).val=some (resFir1 _ _ _)
 unfold encFir1 resFir1
 rw[evFir]
 simp only[preFir1,Bool.and_eq_true,decide_eq_true_eq]at hpre
 obtain⟨h1,h2,h3,h4,h5,h6⟩:=hpre
 have e:F.prsC r.samples=(F.prs r.samples,0):=by unfold F.prsC;rw[bne0 h1];rfl
 have z:unenc stFir1 (St.mk [(30,(vI 0)),(29,(vI (l.length:Int))),(28,AV.sl (List.map eI l)),(13, .own 13),(12, .own 12),(10,AV.sl (List.map eI (F.prs r.samples))),(9,AV.sl (List.map ePlc (F.plcs r.samples))),(3, .ptr 3 0 0),(1,(vI sc))] [(13,Blk.mk false 3 1 []),(12,Blk.mk false 3 1 []),(3,Blk.mk true 0 0 [[(vS r.name),(vI r.scale),(vB r.sound),AV.sl (List.map eSmp r.samples)]])])=some (r,sc,l,0):=unstFir0 r sc l
 have u:unenc encPlf [AV.agg [(vS r.name),(vI r.scale),(vB r.sound),AV.sl (List.map eSmp r.samples)]]=some r:=unPlf r
 simp only[unPrC,unPlfw,etaStd,Option.bind_some,List.length_map,Bool.and_true,List.length_map]
 try rw[u]
 simp only[decide_eq_true h1,cond_true,e]
 try rw[z]
 simp only[Option.bind_some,decide_eq_true h1,decide_eq_true h2,h3,h4,h5,decide_eq_true h6,Nat.zero_le,decide_true,Bool.and_self,cond_true,List.drop_zero]
 unfold F.firs F.fisF
 by_cases hf:M.ffI (F.fiF r sc l) l.zipIdx=0
 ·rw[hf];rfl
 ·rw[decide_eq_false hf,bne1 hf];rfl

end M

theorem F.step_pw {l:List Int} (h : ∀k,0<k→k<l.length→l.getD (k - 1) 0<l.getD k 0):l.Pairwise (· < ·):=by
 rw[List.pairwise_iff_getElem]
 intro i j hi hj hij
 induction j with
 | zero=>omega
 | succ j ih=>
  have h1:=h (j+1) (by omega) hj
  have e1:l.getD (j+1) 0=l[j+1]:=M.getD_at (List.getElem?_eq_getElem hj)
  have hj2:j<l.length:=by omega
  have e2:l.getD (j+1 - 1) 0=l[j]:=M.getD_at (List.getElem?_eq_getElem hj2)
  rw[e1,e2]at h1
  by_cases hij2:i=j
  ·subst hij2;exact h1
  ·exact Int.lt_trans (ih hj2 (by omega)) h1

def F.fsB (n:Nat) (fs:List Int):Bool:=decide (fs.Pairwise (· < ·))&&fs.all fun x=>decide (0≤x)&&decide (x<n)

theorem F.fsB_ok {n:Nat} {fs:List Int} (h:F.fsB n fs=true):fs.Pairwise (· < ·) ∧ ∀x∈fs,0≤x∧x<n:=by
 unfold F.fsB at h
 simp only[Bool.and_eq_true,decide_eq_true_eq,List.all_eq_true]at h
 exact h

theorem F.risE_at {l:List Int} (h:F.risE l=0):F.i64L l=true∧l.Pairwise (· < ·) ∧ ∀b∈l,F.noTm b=false:=by
 obtain⟨h1,h2⟩:=F.risE_ok h
 have h3:M.ffI (F.risF l) l.zipIdx=0:=by
  unfold F.risE F.lt at h
  rw[decide_eq_false (show ¬l.length=0 by omega),decide_eq_false (show ¬(1000:Int)<l.length by omega)]at h
  exact h
 have hat : ∀k (hk:k<l.length),F.risF l (l[k],k)=0:=fun k hk=>F.ffI_all h3 _ (List.mem_zipIdx_iff_getElem?.2 (List.getElem?_eq_getElem hk))
 have hno : ∀b∈l,F.noTm b=false:=fun b hb=>by
  obtain⟨k,hk,rfl⟩:=List.mem_iff_getElem.1 hb
  have:=hat k hk
  unfold F.risF at this
  cases hn:F.noTm l[k]with
  | true=>simp only at this;rw[hn]at this;simp at this
  | false=>rfl
 refine⟨List.all_eq_true.2 fun b hb=>?_,F.step_pw fun k h0 hk=>?_,hno⟩
 ·have:=hno b hb
  unfold F.noTm F.out at this
  simp only[Bool.or_eq_false_iff,decide_eq_false_iff_not]at this
  unfold F.i64B
  rw[decide_eq_true (by omega),decide_eq_true (by omega)]
  rfl
 ·have h4:=hat k hk
  have h5:=hno l[k] (List.getElem_mem hk)
  unfold F.risF at h4
  simp only at h4
  rw[h5,decide_eq_true h0]at h4
  have e1:l.getD k 0=l[k]:=M.getD_at (List.getElem?_eq_getElem hk)
  rw[e1]
  by_cases hc:l[k]≤l.getD (k - 1) 0
  ·rw[decide_eq_true hc]at h4;simp at h4
  ·omega

theorem F.atN_ok {r:Std} {sc:Int} {l:List Int} (h1:F.chkS r.samples=0) (h2:1≤r.samples.length) (h3:F.noScale r.scale=false) (h4:F.noScale sc=false) (hr:F.risE l=0) (hf:F.fisF r sc l=0):F.fsB r.samples.length (l.map (F.atN r sc))=true:=by
 obtain⟨r1,r2,r3⟩:=F.risE_at hr
 obtain⟨s1,s2,s3⟩:=F.noScale_ok h3
 obtain⟨t1,t2,t3⟩:=F.noScale_ok h4
 have hat : ∀k (hk:k<l.length),F.fiF r sc l (l[k],k)=0:=fun k hk=>F.ffI_all hf _ (List.mem_zipIdx_iff_getElem?.2 (List.getElem?_eq_getElem hk))
 have hcut : ∀k (hk:k<l.length),F.noTm (F.cutN r sc l[k])=false:=fun k hk=>by
  have:=hat k hk
  unfold F.fiF at this
  cases hn:F.noTm (F.cutN r sc l[k])with
  | true=>simp only at this;rw[hn]at this;simp at this
  | false=>rfl
 have hgd : ∀k (hk:k<l.length),(l.map (F.atN r sc)).getD k 0=F.atN r sc l[k]:=fun k hk=>M.getD_at (by rw[List.getElem?_map,List.getElem?_eq_getElem hk];rfl)
 unfold F.fsB
 simp only[Bool.and_eq_true,decide_eq_true_eq,List.all_eq_true]
 cases hs:r.sound
 ·-- pictures
  have hfd : ∀k (hk:k<l.length),(F.fnd (F.plcs r.samples) r.scale l[k] sc).2=true:=fun k hk=>by
   have:=hat k hk
   unfold F.fiF at this
   simp only at this
   rw[hcut k hk,hs]at this
   cases hn:(F.fnd (F.plcs r.samples) r.scale l[k] sc).2 with
   | false=>rw[hn]at this;simp at this
   | true=>rfl
  have hA : ∀b,F.atN r sc b=(F.fnd (F.plcs r.samples) r.scale b sc).1.sample:=fun b=>by unfold F.atN;rw[hs];rfl
  obtain⟨g1,g2,g3⟩:=M.plB_ok (F.plcs_ok h1)
  refine⟨F.step_pw fun k h0 hk=>?_,fun x hx=>?_⟩
  ·rw[List.length_map]at hk
   rw[hgd k hk,hgd (k - 1) (by omega),hA,hA]
   obtain⟨m1,e1⟩:=F.fnd_mem (hfd k hk)
   obtain⟨m2,e2⟩:=F.fnd_mem (hfd (k - 1) (by omega))
   have hlt:l[k - 1]<l[k]:=List.pairwise_iff_getElem.1 r2 (k - 1) k (by omega) hk (by omega)
   generalize (F.fnd (F.plcs r.samples) r.scale l[k] sc).1=p at *
   generalize (F.fnd (F.plcs r.samples) r.scale l[k - 1] sc).1=q at *
   have hlt2:l[k - 1]*r.scale<l[k]*r.scale:=Int.mul_lt_mul_of_pos_right hlt (by omega)
   have htime:q.time<p.time:=by
    by_cases hc:q.time<p.time
    ·exact hc
    ·have:p.time*sc≤q.time*sc:=Int.mul_le_mul_of_nonneg_right (by omega) (by omega)
     omega
   obtain⟨i,hi,rfl⟩:=List.mem_iff_getElem.1 m1
   obtain⟨j,hj,rfl⟩:=List.mem_iff_getElem.1 m2
   rcases Nat.lt_trichotomy i j with h | h | h
   ·have:=(List.pairwise_iff_getElem.1 g1 i j hi hj h).1
    omega
   ·subst h;omega
   ·exact(List.pairwise_iff_getElem.1 g1 j i hj hi h).2
  ·obtain⟨b,hb,rfl⟩:=List.mem_map.1 hx
   obtain⟨k,hk,rfl⟩:=List.mem_iff_getElem.1 hb
   rw[hA]
   exact(F.plcs_at h1 (F.fnd_mem (hfd k hk)).1).1
 ·have hA : ∀b,F.atN r sc b=((F.lastG (F.prs r.samples) (b*r.scale) sc (r.samples.length - 1):Nat):Int):=fun b=>by unfold F.atN;rw[hs];rfl
  refine⟨F.step_pw fun k h0 hk=>?_,fun x hx=>?_⟩
  ·rw[List.length_map]at hk
   rw[hgd k hk,hgd (k - 1) (by omega)]
   have:=hat k hk
   unfold F.fiF at this
   simp only at this
   rw[hcut k hk,hs,decide_eq_true h0]at this
   have e1:l.getD (k - 1) 0=l[k - 1]:=M.getD_at (List.getElem?_eq_getElem (by omega))
   rw[e1]at this
   by_cases hc:F.atN r sc l[k]≤F.atN r sc l[k - 1]
   ·rw[decide_eq_true hc]at this;simp at this
   ·omega
  ·obtain⟨b,hb,rfl⟩:=List.mem_map.1 hx
   rw[hA]
   have:=F.lastG_le (F.prs r.samples) (b*r.scale) sc (r.samples.length - 1)
   omega

def F.slS (l:List Smp) (a b:Nat):List Smp:=(l.take b).drop a

def F.sgT (r:Std) (fs:List Int) (k:Nat):Int:=bif decide (k+1<fs.length) then fs.getD (k+1) 0 else r.samples.length

def F.seg (r:Std) (first:Int) (fs cs:List Int) (k:Nat):Seg:=
 ⟨IntKind.i64.wrap (first+k),fs.getD k 0,F.sgT r fs k,(F.prs r.samples).getD (fs.getD k 0).toNat 0,
  bif decide (k+1<fs.length) then IntKind.i64.wrap (cs.getD (k+1) 0 - cs.getD k 0) else IntKind.i64.wrap (F.maxL ((F.endsL r.samples).drop (fs.getD k 0).toNat) - cs.getD k 0),
  F.bytes (F.slS r.samples (fs.getD k 0).toNat (F.sgT r fs k).toNat),bif r.sound then max 0 (IntKind.i64.wrap (cs.getD k 0 - (F.prs r.samples).getD (fs.getD k 0).toNat 0)) else 0⟩

def F.sgL (r:Std) (first:Int) (fs cs:List Int):List Seg:=(List.range fs.length).map (F.seg r first fs cs)

noncomputable def F.segs (r:Std) (sc:Int) (l:List Int) (first:Int):List Seg×Int:=
 bif F.noScale sc then ([],1) else bif F.risE l != 0 then ([],F.risE l) else bif F.out first 0 999999999999000 then ([],1) else
 bif (F.firs r sc l).2.2 != 0 then ([],(F.firs r sc l).2.2) else bif (F.firs r sc l).1.getD 0 0 != 0 then ([],3) else
 bif decide ((F.seg r first (F.firs r sc l).1 (F.firs r sc l).2.1 ((F.firs r sc l).1.length - 1)).length<0) then ([],1) else (F.sgL r first (F.firs r sc l).1 (F.firs r sc l).2.1,0)

namespace M

noncomputable def stSgs (r:Std) (first:Int) (fs cs:List Int) (k:Nat):St:=⟨[(60,vI k),(59,vI fs.length),(58, .sl (fs.map eI)),(18, .own 18),(16, .sl ((F.endsL r.samples).map eI)),(14, .sl ((F.prs r.samples).map eI)),(12, .sl (cs.map eI)),(11, .sl (fs.map eI)),(4, .ptr 4 0 0),(3,vI first)],[(18,⟨false,46,7,((List.range k).map (F.seg r first fs cs)).map eSeg⟩),(4,⟨true,0,0,[eStd r]⟩)]⟩

noncomputable def stSgs1 (a:Std×Int×(List Int)×(List Int)×Nat):St:=stSgs a.1 a.2.1 a.2.2.1 a.2.2.2.1 a.2.2.2.2

theorem stSgs_inj (a a':Std×Int×(List Int)×(List Int)×Nat) (h:stSgs1 a=stSgs1 a'):a=a':=by
 simp only[stSgs1,stSgs]at h
 try simp[ints_inj,eStd_iff]at h
 grind

theorem unstSgs0 (r:Std) (first:Int) (fs:List Int) (cs:List Int)  : unenc stSgs1 (St.mk [(60,(vI (0:Int))),(59,(vI (↑(List.length fs):Int))),(58,AV.sl (List.map eI fs)),(18, .own 18),(16,AV.sl (List.map eI (F.endsL r.samples))),(14,AV.sl
 (List.map eI (F.prs r.samples))),(12,AV.sl (List.map eI cs)),(11,AV.sl (List.map eI fs)),(4, .ptr 4 0 0),(3,(vI first))] [(18,Blk.mk false 46 7 []),(4,Blk.mk
 true 0 0 [[(vS r.name),(vI r.scale),(vB r.sound),AV.sl (List.map eSmp r.samples)]])])=some (r,first,fs,cs,0):=unenc_of stSgs_inj (r,first,fs,cs,0) rfl

noncomputable def outSgs (r:Std) (first:Int) (fs cs:List Int) (k:Nat):T (Ex×St):= .ret (.exit 0,⟨[(18, .own 18)],[(18,⟨false,46,7,(F.sgL r first fs cs).map eSeg⟩)]⟩)

noncomputable def prlSgs (r:Std) (first:Int) (fs cs:List Int) (k:Nat):Bool:=decide (r.samples.length≤5000)&&(F.fsB r.samples.length fs&&(decide (cs.length=fs.length)&&(decide (fs.length≤1000)&&decide (k≤fs.length))))

noncomputable def lpSgs:Nat×(St→T (Ex×St)):=(17,lpo [60,59,58,18,16,14,12,11,4,3] [18,4] stSgs1 (fun a=>prlSgs a.1 a.2.1 a.2.2.1 a.2.2.2.1 a.2.2.2.2) fun a=>outSgs a.1 a.2.1 a.2.2.1 a.2.2.2.1 a.2.2.2.2)

noncomputable def enSgs:Env:=envH ty noG lks [oNoS,oRsf,oOut,oFir,oPrC,oEnC,oMx,oByt] [] [] [lpSgs]

theorem enSgs_ok:EnvOK Tryz.prog enSgs:=by
 refine envH_ok lks_ok ty_ok ?_ ?_
 ·simp only[List.forall_mem_cons]
  exact⟨okNoS,okRsf,okOut,okFir,okPrC,okEnC,okMx,okByt,by simp⟩
 ·simp

theorem range_next {α:Type} (f:Nat→α) (k:Nat):(List.range k).map f++[f k]=(List.range (k+1)).map f:=by rw[List.range_succ,List.map_append];rfl

theorem range_loop (k:Nat):List.range.loop k []=List.range k:=rfl

theorem evSgsL (r:Std) (first:Int) (fs cs:List Int) (k:Nat):((exec enSgs (loopN Tryz.f54 0) (stSgs r first fs cs k)).bind (lessX ([60,59,58,18,16,14,12,11,4,3],[18,4]) ([18],[18]) ([],[]))).val =
 (fun(q:List (List AV))=>(fun(q_1:Nat)=>(fun(q_2:Nat)=>(fun(q_3:Int)=>(fun(q_4:Option (List Int))=>(fun(q_5:AV)=>(fun(q_6:AV)=>(fun(q_7
 : Bool)=>(fun(q_8:Bool)=>(fun(q_9:List Row)=>(fun(q_10:Bool)=>(fun(q_11:List (Nat×Blk))=>(fun(q_12:List (Nat×AV))=>bif decide ((↑k:Int) <
 (↑(List.length fs):Int)) then Option.bind (unenc (List.map eI) (List.map eI fs)) fun z=>(fun(q_13:Option Nat)=>(fun(q_14:AV)=>bif decide (k <
 List.length z) then Option.bind q_13 fun z=>Option.bind (unenc (List.map eI) (List.map eI (F.prs r.samples))) fun z_1=>(fun(q_15:AV)=>bif
 decide (z<List.length z_1) then bif decide (q_3<(↑(List.length (List.map eI fs)):Int)) then Option.bind (idx q_3) fun z_2=>Option.bind (unenc (List.map eI)
 (List.map eI fs)) fun z_3=>bif decide (z_2<List.length z_3) then Option.bind (idx q_3) fun z_4=>Option.bind q_4 fun z_5=>bif
 decide (z_4<List.length z_5) then Option.bind q_4 fun z_6=>(fun(q:AV)=>bif decide (k<List.length z_6) then bif r.sound then Option.bind q_4 fun
 (z_7:List Int)=>bif decide (k<List.length z_7) then Option.bind q_13 fun z_8=>Option.bind (idx (List.getD z_3 z_2 0)) fun z_9=>bif
 Nat.ble z_8 z_9&&Nat.ble z_9 (List.length (List.map eSmp r.samples))&&q_7 then Option.bind (unenc encByt [AV.sl (List.drop z_8 (List.take z_9 (List.map eSmp
 r.samples)))]) fun z_10=>bif q_10 then some (Ex.normal,St.mk q_12 ((18,Blk.mk false 46 7 (q_9++[[q_5,q_14,(vI (List.getD z_3 z_2 0)),q_15,q,
 (vI (F.bytes z_10)),(vI (max (0:Int) (IntKind.i64.wrap (List.getD z_7 k 0 - List.getD z_1 z 0))))]]))::q_11)) else none else none else none
 else Option.bind q_13 fun z=>Option.bind (idx (List.getD z_3 z_2 0)) fun z_7=>bif Nat.ble z z_7&&Nat.ble z_7 (List.length (List.map eSmp
 r.samples))&&q_7 then Option.bind (unenc encByt [AV.sl (List.drop z (List.take z_7 (List.map eSmp r.samples)))]) fun z=>bif q_10 then some (Ex.normal,
 St.mk q_12 ((18,Blk.mk false 46 7 (q_9++[[q_5,q_14,(vI (List.getD z_3 z_2 0)),q_15,q,(vI (F.bytes z)),(vI 0)]]))::q_11)) else none else none
 else none) ((vI (IntKind.i64.wrap (List.getD z_5 z_4 0 - List.getD z_6 k 0)))) else none else none else Option.bind q_13 fun z_2=>bif
 Nat.ble z_2 q_2&&Nat.ble q_2 q_2&&List.all q fun(r:Row)=>Nat.beq (List.length r) (1:Nat) then Option.bind (unenc encMx [AV.sl (List.drop z_2 q)]) fun(z_3 :
 List Int)=>bif decide (List.length z_3≤5000)&&decide ((1:Nat)≤List.length z_3) then Option.bind q_4 fun z_4=>(fun(q:AV)=>bif decide
 (k<List.length z_4) then bif r.sound then Option.bind q_4 fun z_5=>bif decide (k<List.length z_5) then Option.bind q_13 fun z_6=>bif Nat.ble
 z_6 q_1&&q_8&&q_7 then Option.bind (unenc encByt [AV.sl (List.drop z_6 (List.take q_1 (List.map eSmp r.samples)))]) fun z_7=>bif q_10 then some
 (Ex.normal,St.mk q_12 ((18,Blk.mk false 46 7 (q_9++[[q_5,q_14,q_6,q_15,q,(vI (F.bytes z_7)),(vI (max (0:Int) (IntKind.i64.wrap (List.getD z_5 k 0 - List.getD z_1 z 0))))]]))::q_11)) else none else none else none else Option.bind q_13 fun z=>bif Nat.ble z q_1&&q_8&&q_7 then Option.bind
 (unenc encByt [AV.sl (List.drop z (List.take q_1 (List.map eSmp r.samples)))]) fun z=>bif q_10 then some (Ex.normal,St.mk q_12 ((18,Blk.mk false 46 7 (q_9
 ++ [[q_5,q_14,q_6,q_15,q,(vI (F.bytes z)),(vI 0)]]))::q_11)) else none else none else none) ((vI (IntKind.i64.wrap (F.maxL z_3 - List.getD z_4 k 0)))) else none else none else none) ((vI (List.getD z_1 z 0))) else none) ((vI (List.getD z k 0)))) (idx (List.getD z k 0)) else some
 (Ex.exit (0:Nat),St.mk [(18, .own 18)] [(18,Blk.mk false 46 7 q_9)])) [(60,(vI q_3)),(59,(vI (↑(List.length fs):Int))),(58,AV.sl (List.map eI fs)),(18, .own
 18),(16,AV.sl q),(14,AV.sl (List.map eI (F.prs r.samples))),(12,AV.sl (List.map eI cs)),(11,AV.sl (List.map eI fs)),(4, .ptr 4 0 0),(3,(vI first))]) [(4,Blk.mk
 true 0 0 [[(vS r.name),(vI r.scale),(vB r.sound),AV.sl (List.map eSmp r.samples)]])]) (Nat.ble ((List.length q_9+1)*56) 140737488355328 &&
 true)) (List.map eSeg (List.map (F.seg r first fs cs) (List.range.loop k [])))) (Nat.ble q_1 (List.length (List.map eSmp r.samples)))) (List.all (List.map eSmp r.samples)
 fun(r:Row)=>Nat.beq (List.length r) (5:Nat))) ((vI (↑q_1:Int)))) ((vI (IntKind.i64.wrap (first+(↑k:Int)))))) (unenc (List.map eI) (List.map eI cs)))
 (IntKind.i64.wrap ((↑k:Int)+1))) (List.length q)) (List.length (List.map eSmp r.samples))) (List.map eI (F.endsL r.samples)):=(execR_bind _ _ _).symm.trans (by kernel_rfl)

theorem lpSgs_ok (r:Std) (first:Int) (fs cs:List Int) (k:Nat) (hp:prlSgs r first fs cs k=true) : ∀ex s',(outSgs r first fs cs k).val=some (ex,s')→LoopOK enSgs (loopN Tryz.f54 0) (stSgs r first fs cs k) ex s':=by
 simp only[prlSgs,Bool.and_eq_true,decide_eq_true_eq]at hp
 obtain⟨h1,h2,h3,h4,h5⟩:=hp
 obtain⟨g1,g2⟩:=F.fsB_ok h2
 have hpl:=F.prs_len r.samples
 have hel:=F.endsL_len r.samples
 refine loop_gen (st:=fun k:Nat=>stSgs r first fs cs k) (out:=fun k=>outSgs r first fs cs k) (I:=fun k=>k≤fs.length) (n:=([60,59,58,18,16,14,12,11,4,3],[18,4])) (e:=([18],[18])) (r:=([],[])) (fun k=>fs.length - k) ?_ k h5
 clear h5 k
 intro k h5
 by_cases hlt:k<fs.length
 ·right
  have hy:fs[k]? = some fs[k]:=List.getElem?_eq_getElem hlt
  have hN:=next_at hlt (by omega:fs.length≤9223372036854775807)
  obtain⟨x0,x1⟩:=g2 _ (List.getElem_mem hlt)
  obtain⟨a,ha⟩:=Int.eq_ofNat_of_zero_le x0
  rw[ha]at hy x1
  have hga:fs.getD k 0=(a:Int):=getD_at hy
  have hia:idx (a:Int)=some a:=rfl
  have hta:((a:Int)).toNat=a:=Int.toNat_natCast a
  have hnx:=range_next (F.seg r first fs cs) k
  have hbl:Nat.ble ((k+1)*56) 140737488355328=true:=ble_t (by omega)
  have ea:((List.range k).map (F.seg r first fs cs)).length=k:=by rw[List.length_map,List.length_range]
  have dp:decide (a<(F.prs r.samples).length)=true:=decide_eq_true (by omega)
  have dc:decide (k<cs.length)=true:=decide_eq_true (by omega)
  have en:Nat.ble r.samples.length r.samples.length=true:=ble_t (Nat.le_refl _)
  have ean:Nat.ble a r.samples.length=true:=ble_t (by omega)
  have eae:Nat.ble a (F.endsL r.samples).length=true:=ble_t (by omega)
  have ee:Nat.ble (F.endsL r.samples).length (F.endsL r.samples).length=true:=ble_t (Nat.le_refl _)
  have l1:((F.endsL r.samples).drop a).length=r.samples.length - a:=by rw[List.length_drop,hel]
  have d1:decide (r.samples.length - a≤5000)=true:=decide_eq_true (by omega)
  have d2:decide (1≤r.samples.length - a)=true:=decide_eq_true (by omega)
  refine⟨k+1,?_,rfl,hlt,by omega,rfl⟩
  have fin : ∀row,row=eSeg (F.seg r first fs cs k)→(some (Ex.normal,St.mk [(60,vI ((k+1:Nat):Int)),(59,vI fs.length),(58, .sl (fs.map eI)),(18, .own 18),(16, .sl ((F.endsL r.samples).map eI)),(14, .sl ((F.prs r.samples).map eI)),(12, .sl (cs.map eI)),(11, .sl (fs.map eI)),(4, .ptr 4 0 0),(3,vI first)] [(18,Blk.mk false 46 7 (((List.range k).map (F.seg r first fs cs)).map eSeg++[row])),(4,Blk.mk true 0 0 [[(vS r.name),(vI r.scale),(vB r.sound),AV.sl (List.map eSmp r.samples)]])]))=some (Ex.normal,stSgs r first fs cs (k+1)):=fun row hrow=>by
   rw[hrow]
   unfold stSgs
   rw[←hnx,List.map_append]
   rfl
  by_cases hk1:k+1<fs.length
  ·have hy1:fs[k+1]? = some fs[k+1]:=List.getElem?_eq_getElem hk1
   have hlt1:fs[k]<fs[k+1]:=List.pairwise_iff_getElem.1 g1 k (k+1) hlt hk1 (by omega)
   obtain⟨y0,y1⟩:=g2 _ (List.getElem_mem hk1)
   obtain⟨b,hb⟩:=Int.eq_ofNat_of_zero_le y0
   rw[hb]at hy1 y1 hlt1
   rw[ha]at hlt1
   have hgb:fs.getD (k+1) 0=(b:Int):=getD_at hy1
   have hib:idx (b:Int)=some b:=rfl
   have hi1:idx ((k+1:Nat):Int)=some (k+1):=rfl
   have htb:((b:Int)).toNat=b:=Int.toNat_natCast b
   have dc1:decide (k+1<cs.length)=true:=decide_eq_true (by omega)
   have eab:Nat.ble a b=true:=ble_t (by omega)
   have ebn:Nat.ble b r.samples.length=true:=ble_t (by omega)
   rw[evSgsL]
   simp only[unMx,unByt,Option.bind_some,List.length_map,unInts,cond_true,Bool.and_true,cast_lt hlt,cast_lt hk1,decide_eq_true hlt,decide_eq_true hk1,hN,getD_at hy,getD_at hy1,hia,hib,hi1,dp,dc,dc1,eab,ebn,all_Smps,Bool.and_self,←List.map_take,←List.map_drop,range_loop,ea,hbl]
   cases hs:r.sound
   ·simp only[cond_false]
    rw[hs]at fin
    refine fin _ ?_
    unfold F.seg F.sgT F.slS eSeg
    rw[decide_eq_true hk1,hga,hgb,hs]
    simp only[cond_true,cond_false,hta,htb]
   ·simp only[cond_true]
    rw[hs]at fin
    refine fin _ ?_
    unfold F.seg F.sgT F.slS eSeg
    rw[decide_eq_true hk1,hga,hgb,hs]
    simp only[cond_true,hta,htb]
  ·have hk2 : ¬(((k+1:Nat):Int)<(fs.length:Int)):=by omega
   have htn:((r.samples.length:Nat):Int).toNat=r.samples.length:=Int.toNat_natCast _
   rw[evSgsL]
   simp only[unMx,unByt,Option.bind_some,List.length_map,unInts,cond_true,cond_false,Bool.and_true,cast_lt hlt,decide_eq_true hlt,decide_eq_false hk2,hN,getD_at hy,hia,dp,dc,ean,eae,ee,en,all_Smps,all_ints,Bool.and_self,←List.map_take,←List.map_drop,range_loop,l1,d1,d2,ea,hbl]
   cases hs:r.sound
   ·simp only[cond_false]
    rw[hs]at fin
    refine fin _ ?_
    unfold F.seg F.sgT F.slS eSeg
    rw[decide_eq_false hk1,hga,hs]
    simp only[cond_false,hta,htn]
   ·simp only[cond_true]
    rw[hs]at fin
    refine fin _ ?_
    unfold F.seg F.sgT F.slS eSeg
    rw[decide_eq_false hk1,hga,hs]
    simp only[cond_true,cond_false,hta,htn]
 ·left
  have hk:k=fs.length:=by omega
  subst hk
  refine⟨_,?_,rfl,by simp,rfl⟩
  rw[evSgsL]
  simp only[Option.bind_some,List.length_map,unInts,cond_false,Bool.and_true,cast_ge,range_loop]
  try rfl

theorem evSgs (r:Std) (sc:Int) (l:List Int) (first:Int):(runF enSgs false Tryz.f54 [.agg (eStd r),vI sc, .sl (l.map eI),vI first]).val =
 (fun(q:List AV)=>(fun(q_1:List AV)=>Option.bind (unenc encNoS [(vI sc)]) fun z=>bif F.noScale z then some (AV.tup (AV.sl []::q),[]) else Option.bind
 (unenc encRsf [AV.sl (List.map eI l)]) fun z=>bif F.risE z != 0 then some (AV.tup [AV.sl [],(vI (F.risE z))],[]) else Option.bind (unenc encOut
 [(vI first),(vI 0),(vI 999999999999000)]) fun z=>bif F.out z.1 z.2.1 z.2.2 then some (AV.tup (AV.sl []::q),[]) else
 Option.bind (unenc encFir [AV.agg q_1,(vI sc),AV.sl (List.map eI l)]) fun z=>(fun(q_2:List (List AV))=>bif decide (F.chkS z.1.samples =
 (0:Int))&&(decide ((1:Nat)≤List.length z.1.samples)&&(!F.noScale z.1.scale&&(!F.noScale z.2.1&&(F.i64L z.2.2&&decide (List.length z.2.2 ≤
 (1000:Nat)))))) then bif (F.firs z.1 z.2.1 z.2.2).snd.snd != 0 then some (AV.tup [AV.sl [],(vI (F.firs z.1 z.2.1 z.2.2).snd.snd)],[]) else
 Option.bind (unenc (List.map eI) q_2) fun z_1=>bif decide ((0:Nat)<List.length z_1) then bif List.getD z_1 (0:Nat) (0:Int) != 0 then some
 (AV.tup [AV.sl [],(vI 3)],[]) else Option.bind (unenc encPrC [AV.sl (List.map eSmp r.samples)]) fun z_2=>Option.bind (unenc encEnC [AV.sl
 (List.map eSmp r.samples)]) fun z_3=>Option.bind (unenc stSgs1 (St.mk [(60,(vI 0)),(59,(vI (↑(List.length q_2):Int))),(58,AV.sl q_2),(18,
 .own 18),(16,AV.sl (List.map eI (bif F.chkS z_3 != 0 then ([],F.chkS z_3) else (F.endsL z_3,(0:Int))).fst)),(14,AV.sl (List.map eI (F.prsC z_2).fst)),(12,
 AV.sl (List.map eI (F.firs z.1 z.2.1 z.2.2).snd.fst)),(11,AV.sl q_2),(4, .ptr 4 0 0),(3,(vI first))] [(18,Blk.mk false 46 7 []),(4,Blk.mk true 0 0
 [q_1])])) fun z=>(fun(q_3:Nat)=>(fun(q_4:List Row)=>bif decide (List.length z.1.samples≤5000)&&(F.fsB
 (List.length z.1.samples) z.2.2.1&&(decide (List.length z.2.2.2.1=q_3)&&(decide (q_3≤1000)&&decide (z.2.2.2.2≤q_3))))&&true
 then Option.bind (idx (IntKind.i64.wrap ((↑(List.length q_4):Int) - (1:Int)))) fun z=>bif decide (z<List.length (Blk.mk false 46 7 q_4).rows) then
 Option.bind (unenc (List.map eSeg) q_4) fun z_4=>bif decide (z<List.length z_4) then bif decide ((List.getD z_4 z (Seg.mk (0:Int) (0:Int) (0:Int) (0
 : Int) (0:Int) (0:Int) (0:Int))).length<0) then some (AV.tup (AV.sl []::q),[]) else some (AV.tup [AV.sl q_4,(vI 0)],[]) else none else none
 else none) (List.map eSeg (F.sgL z.1 z.2.1 z.2.2.1 z.2.2.2.1))) (List.length z.2.2.1) else none else none) (List.map eI (F.firs z.1 z.2.1
 z.2.2).fst)) [(vS r.name),(vI r.scale),(vB r.sound),AV.sl (List.map eSmp r.samples)]) [(vI 1)]:=(runFR_val).symm.trans (by kernel_rfl)

def encSgs1 (r:Std) (sc:Int) (l:List Int) (first:Int):List AV:=[.agg (eStd r),vI sc, .sl (l.map eI),vI first]

def encSgs (a:Std×Int×(List Int)×Int):List AV:=encSgs1 a.1 a.2.1 a.2.2.1 a.2.2.2

theorem encSgs_inj (a a':Std×Int×(List Int)×Int) (h:encSgs a=encSgs a'):a=a':=by
 simp only[encSgs,encSgs1]at h
 try simp[ints_inj,eStd_iff]at h
 grind

theorem unSgsw (r_name:ByteArray) (r_scale:Int) (r_sound:Bool) (r_samples:List Smp) (sc:Int) (l:List Int) (first:Int):unenc encSgs ([AV.agg [(vS r_name),(vI r_scale),(vB r_sound),AV.sl (List.map eSmp r_samples)],(vI sc),AV.sl (List.map eI l),(vI first)])=some ((Std.mk r_name r_scale r_sound r_samples),sc,l,first):=unenc_of encSgs_inj ((Std.mk r_name r_scale r_sound r_samples),sc,l,first) rfl

noncomputable def resSgs1 (r:Std) (sc:Int) (l:List Int) (first:Int):AV×Heap:=(.tup [.sl ((F.segs r sc l first).1.map eSeg),vI (F.segs r sc l first).2],[])

def preSgs1 (r:Std) (sc:Int) (l:List Int) (first:Int):Bool:=decide (F.chkS r.samples=0)&&(decide (1≤r.samples.length) && !F.noScale r.scale)

noncomputable def oSgs:Orc:=orc 54 false encSgs (fun a=>preSgs1 a.1 a.2.1 a.2.2.1 a.2.2.2) fun a=>resSgs1 a.1 a.2.1 a.2.2.1 a.2.2.2

theorem okSgs:OrcOK Tryz.prog noG oSgs:=by
 refine mk_ok Tryz.f54 (keep:=false) (by kernel_rfl) (by kernel_rfl) enSgs_ok mixed (one_loop (x0:=loopN Tryz.f54 0) (by kernel_rfl) (lpo_ok ?_)) (by first | exact fun _ _=>⟨rfl,rfl⟩ | (intro h;cases h)) ?_
 ·rintro⟨r,first,fs,cs,k⟩ hp
  exact lpSgs_ok r first fs cs k hp
 rintro⟨r,sc,l,first⟩ hpre hok
 show(runF enSgs false _ (encSgs1 _ _ _ _)).val=some (resSgs1 _ _ _ _)
 unfold encSgs1 resSgs1
 rw[evSgs]
 simp only[preSgs1,Bool.and_eq_true,decide_eq_true_eq]at hpre
 obtain⟨h1,h2,h3⟩:=hpre
 have h3b:F.noScale r.scale=false:=by simpa using h3
 have e1:F.prsC r.samples=(F.prs r.samples,0):=by unfold F.prsC;rw[bne0 h1];rfl
 have e2:endsC r.samples=(F.endsL r.samples,0):=by unfold endsC;rw[bne0 h1];rfl
 unfold endsC at e2
 have hsl:=F.chkS_len h1
 have u:unenc encFir [AV.agg [(vS r.name),(vI r.scale),(vB r.sound),AV.sl (List.map eSmp r.samples)],vI sc,AV.sl (List.map eI l)]=some (r,sc,l):=unFir r sc l
 have z : ∀fs cs:List Int,unenc stSgs1 (St.mk [(60,(vI 0)),(59,(vI (fs.length:Int))),(58,AV.sl (List.map eI fs)),(18, .own 18),(16,AV.sl (List.map eI (F.endsL r.samples))),(14,AV.sl (List.map eI (F.prs r.samples))),(12,AV.sl (List.map eI cs)),(11,AV.sl (List.map eI fs)),(4, .ptr 4 0 0),(3,(vI first))] [(18,Blk.mk false 46 7 []),(4,Blk.mk true 0 0 [[(vS r.name),(vI r.scale),(vB r.sound),AV.sl (List.map eSmp r.samples)]])])=some (r,first,fs,cs,0):=fun fs cs=>unstSgs0 r first fs cs
 unfold F.segs
 simp only[unNoS,unRsf,unOut,unPrC,unEnC,unFirw,etaStd,Option.bind_some,List.length_map,unInts,unSegs,Bool.and_true,List.length_map]
 cases hs:F.noScale sc
 case true=>rfl
 simp only[cond_false]
 by_cases hr:F.risE l=0
 case neg=>rw[bne1 hr];rfl
 rw[bne0 hr]
 simp only[cond_false]
 cases F.out first 0 999999999999000
 case true=>rfl
 simp only[cond_false]
 obtain⟨r1,r2,r3⟩:=F.risE_at hr
 obtain⟨n1,n2⟩:=F.risE_ok hr
 try rw[u]
 simp only[decide_eq_true h1,decide_eq_true h2,h3,r1,decide_eq_true n2,Bool.not_false,Bool.and_self,cond_true]
 by_cases hf:F.fisF r sc l=0
 case neg=>
  have e:F.firs r sc l=([],[],F.fisF r sc l):=by unfold F.firs;rw[bne1 hf];rfl
  rw[e]
  simp only[bne1 hf,cond_true]
  try rfl
 have e:F.firs r sc l=(l.map (F.atN r sc),l.map (F.cutN r sc),0):=by unfold F.firs;rw[bne0 hf];rfl
 have hfs:=F.atN_ok h1 h2 h3b hs hr hf
 have hlen:(l.map (F.atN r sc)).length=l.length:=List.length_map ..
 have hcl:(l.map (F.cutN r sc)).length=(l.map (F.atN r sc)).length:=by rw[List.length_map,List.length_map]
 rw[e]
 simp only[bne_self_eq_false,cond_false]
 generalize l.map (F.atN r sc)=fs at *
 generalize l.map (F.cutN r sc)=cs at *
 have d0:decide (0<fs.length)=true:=decide_eq_true (by omega)
 have hi:=idx_pred (k:=fs.length) (by omega) (by omega)
 have hsg:(F.sgL r first fs cs).length=fs.length:=by unfold F.sgL;rw[List.length_map,List.length_range]
 have d1:decide (fs.length - 1<fs.length)=true:=decide_eq_true (by omega)
 have hgl:(F.sgL r first fs cs).getD (fs.length - 1) ⟨0,0,0,0,0,0,0⟩=F.seg r first fs cs (fs.length - 1):=by
  refine getD_at ?_
  unfold F.sgL
  rw[List.getElem?_map,List.getElem?_range (by omega)]
  rfl
 simp only[d0,cond_true]
 cases(fs.getD 0 0 != 0)
 case true=>rfl
 simp only[cond_false,e1,e2]
 try rw[z]
 simp only[Option.bind_some,decide_eq_true hsl,hfs,decide_eq_true hcl,decide_eq_true (show fs.length≤1000 by omega),Nat.zero_le,decide_true,Bool.and_self,cond_true,hsg,hi,d1,hgl]
 cases decide ((F.seg r first fs cs (fs.length - 1)).length<0)<;>rfl

end M

noncomputable def F.segR (l:List Std) (bs:List Int) (first:Int) (r:Std):List Seg:=(F.segs r (F.sc0 l) bs first).1

noncomputable def F.segE (l:List Std) (bs:List Int) (first:Int) (r:Std):Int:=(F.segs r (F.sc0 l) bs first).2

noncomputable def F.alls (l:List Std) (bs:List Int) (first:Int):List (List Seg)×Int:=
 bif F.chkR4 l != 0 then ([],F.chkR4 l) else bif M.ffI (F.segE l bs first) l != 0 then ([],M.ffI (F.segE l bs first) l) else (l.map (F.segR l bs first),0)

def F.bndS (s:Seg):Int:=IntKind.i64.wrap (s.begin+s.lead)

def F.rowS (l:List Seg) (p:Seg×Nat):Int:=
 bif F.noTm p.1.begin||(F.noTm p.1.lead||(F.noTm p.1.length||F.noTm (IntKind.i64.wrap (F.bndS p.1+p.1.length)))) then 1 else
 bif (decide (0<p.2)&&decide (F.bndS p.1<F.bndS (l.getD (p.2 - 1) ⟨0,0,0,0,0,0,0⟩)))||decide (p.1.length<0) then 8 else 0

def F.rowF (l:List Seg):Int:=bif F.lt 1000 l.length then 2 else M.ffI (F.rowS l) l.zipIdx

def F.nxtS (l:List Seg) (k:Nat):Int:=bif decide (k+1<l.length) then F.bndS (l.getD (k+1) ⟨0,0,0,0,0,0,0⟩) else IntKind.i64.wrap (F.bndS (l.getD k ⟨0,0,0,0,0,0,0⟩)+(l.getD k ⟨0,0,0,0,0,0,0⟩).length)

def F.milS (l:List Seg) (sc:Int) (k:Nat):Int:=IntKind.i64.wrap (F.scl (F.nxtS l k) 1000 sc 2 - F.scl (F.bndS (l.getD k ⟨0,0,0,0,0,0,0⟩)) 1000 sc 2)

def F.milL (l:List Seg) (sc:Int):List Int:=(List.range l.length).map (F.milS l sc)

def F.mils (l:List Seg) (sc:Int):List Int×Int:=bif F.noScale sc then ([],1) else bif F.rowF l != 0 then ([],F.rowF l) else (F.milL l sc,0)

theorem F.rowF_ok {l:List Seg} (h:F.rowF l=0):l.length≤1000 ∧ ∀s∈l,(-2000000000000000≤F.bndS s∧F.bndS s≤2000000000000000)∧(0≤s.length∧s.length≤1000000000000000)∧(-1000000000000000≤F.bndS s+s.length∧F.bndS s+s.length≤1000000000000000)∧F.bndS s=s.begin+s.lead:=by
 unfold F.rowF F.lt at h
 by_cases h1:(1000:Int)<l.length
 ·rw[decide_eq_true h1]at h;simp at h
 ·rw[decide_eq_false h1]at h
  refine⟨by omega,fun s hs=>?_⟩
  obtain⟨k,hk,rfl⟩:=List.mem_iff_getElem.1 hs
  have hf:=F.ffI_all h _ (List.mem_zipIdx_iff_getElem?.2 (List.getElem?_eq_getElem hk):(l[k],k)∈l.zipIdx)
  unfold F.rowS at hf
  simp only at hf
  generalize l[k]=s at hf
  cases hc:F.noTm s.begin||(F.noTm s.lead||(F.noTm s.length||F.noTm (IntKind.i64.wrap (F.bndS s+s.length))))with
  | true=>rw[hc]at hf;simp at hf
  | false=>
   rw[hc]at hf
   have hlen : ¬s.length<0:=fun hl=>by
    rw[decide_eq_true hl,Bool.or_true]at hf;simp at hf
   simp only[Bool.or_eq_false_iff]at hc
   obtain⟨c1,c2,c3,c4⟩:=hc
   unfold F.noTm F.out at c1 c2 c3 c4
   simp only[Bool.or_eq_false_iff,decide_eq_false_iff_not]at c1 c2 c3 c4
   have e1:F.bndS s=s.begin+s.lead:=M.wrap_id (by omega) (by omega)
   rw[e1]at c4 ⊢
   rw[M.wrap_id (by omega) (by omega)]at c4
   exact⟨by omega,by omega,by omega,rfl⟩

namespace M

theorem alls_next {α:Type} {l:List Std} {k:Nat} {r:Std} (h:l[k]? = some r) (f:Std→α):(l.take k).map f++[f r]=(l.take (k+1)).map f:=by
 rw[List.take_add_one,h,List.map_append]
 rfl

noncomputable def stAll (l:List Std) (bs:List Int) (first:Int) (k:Nat):St:=⟨[(21,vI k),(20,vI l.length),(19, .sl (l.map eStd)),(9, .own 9),(2,vI first),(1, .sl (bs.map eI)),(0, .sl (l.map eStd))],[(9,⟨false,44,1,((l.take k).map (F.segR l bs first)).map eL_eSeg⟩)]⟩

noncomputable def stAll1 (a:(List Std)×(List Int)×Int×Nat):St:=stAll a.1 a.2.1 a.2.2.1 a.2.2.2

theorem stAll_inj (a a':(List Std)×(List Int)×Int×Nat) (h:stAll1 a=stAll1 a'):a=a':=by
 simp only[stAll1,stAll]at h
 try simp[ints_inj,eStds_inj]at h
 grind

theorem unstAll0 (l:List Std) (bs:List Int) (first:Int)  : unenc stAll1 (St.mk [(21,(vI (0:Int))),(20,(vI (↑(List.length l):Int))),(19,AV.sl (List.map eStd l)),(9, .own 9),(2,(vI first)),(1,AV.sl (List.map eI bs)),(0,AV.sl
 (List.map eStd l))] [(9,Blk.mk false 44 1 [])])=some (l,bs,first,0):=unenc_of stAll_inj (l,bs,first,0) rfl

noncomputable def outAll (l : List Std) (bs : List Int) (first : Int) (k : Nat) : T (Ex × St) := .ifB (decide (M.ffI (F.segE l bs first) (l.drop k) = 0)) (.ret (.exit 0, ⟨[(9, .own 9)], [(9, ⟨false, 44, 1, (l.map (F.segR l bs first)).map eL_eSeg⟩)]⟩))
      (.ret (.ret, ⟨[(7, vI (M.ffI (F.segE l bs first) (l.drop k))), (6, .own 6)], [(6, ⟨false, 44, 1, []⟩)]⟩))

noncomputable def prlAll (l:List Std) (bs:List Int) (first:Int) (k:Nat):Bool:=decide (F.chkR4 l=0)&&decide (k≤l.length)

noncomputable def lpAll:Nat×(St→T (Ex×St)):=(6,lpo [21,20,19,9,2,1,0] [9] stAll1 (fun a=>prlAll a.1 a.2.1 a.2.2.1 a.2.2.2) fun a=>outAll a.1 a.2.1 a.2.2.1 a.2.2.2)

noncomputable def enAll:Env:=envH ty noG lks [oCkr,oSgs] [] [] [lpAll]

theorem enAll_ok:EnvOK Tryz.prog enAll:=by
 refine envH_ok lks_ok ty_ok ?_ ?_
 ·simp only[List.forall_mem_cons]
  exact⟨okCkr,okSgs,by simp⟩
 ·simp

theorem evAllL (l:List Std) (bs:List Int) (first:Int) (k:Nat):((exec enAll (loopN Tryz.f18 0) (stAll l bs first k)).bind (lessX ([21,20,19,9,2,1,0],[9]) ([9],[9]) ([7,6],[6]))).val =
 bif decide ((↑k:Int)<(↑(List.length l):Int)) then Option.bind (unenc (List.map eStd) (List.map eStd l)) fun z=>bif decide (k<List.length z) then
 Option.bind (unenc (List.map eStd) (List.map eStd l)) fun z_1=>bif decide ((0:Nat)<List.length z_1) then Option.bind (unenc encSgs [AV.agg [(vS
 (List.getD z k (Std.mk (ByteArray.mk (Array.mk [])) (0:Int) false [])).name),(vI (List.getD z k (Std.mk (ByteArray.mk (Array.mk [])) (0:Int) false [])).scale),(vB
 (List.getD z k (Std.mk (ByteArray.mk (Array.mk [])) (0:Int) false [])).sound),AV.sl (List.map eSmp (List.getD z k (Std.mk (ByteArray.mk (Array.mk [])) (0:Int) false
 [])).samples)],(vI (List.getD z_1 (0:Nat) (Std.mk (ByteArray.mk (Array.mk [])) (0:Int) false [])).scale),AV.sl (List.map eI bs),(vI first)]) fun z=>bif decide (F.chkS z.1.samples=(0:Int))&&(decide ((1:Nat)≤List.length z.1.samples) && !F.noScale z.1.scale) then bif (F.segs z.1
 z.2.1 z.2.2.1 z.2.2.2).snd != 0 then some (Ex.ret,St.mk [(7,(vI (F.segs z.1 z.2.1 z.2.2.1 z.2.2.2).snd)),(6, .own 6)] [(6,
 Blk.mk false 44 1 [])]) else bif Nat.ble ((List.length (List.map eL_eSeg (List.map (F.segR l bs first) (List.take k l)))+1)*24) (140737488355328:Nat)
 && true then some (Ex.normal,St.mk [(21,(vI (IntKind.i64.wrap ((↑k:Int)+1)))),(20,(vI (↑(List.length l):Int))),(19,AV.sl (List.map eStd l)),
 (9, .own 9),(2,(vI first)),(1,AV.sl (List.map eI bs)),(0,AV.sl (List.map eStd l))] [(9,Blk.mk false 44 1 (List.map eL_eSeg (List.map (F.segR l bs first) (List.take
 k l))++[[AV.sl (List.map eSeg (F.segs z.1 z.2.1 z.2.2.1 z.2.2.2).fst)]]))]) else none else none else none else none else some (Ex.exit (0:Nat),St.mk
 [(9, .own 9)] [(9,Blk.mk false 44 1 (List.map eL_eSeg (List.map (F.segR l bs first) (List.take k l))))]):=(execR_bind _ _ _).symm.trans (by kernel_rfl)

theorem lpAll_ok (l:List Std) (bs:List Int) (first:Int) (k:Nat) (hp:prlAll l bs first k=true) : ∀ex s',(outAll l bs first k).val=some (ex,s')→LoopOK enAll (loopN Tryz.f18 0) (stAll l bs first k) ex s':=by
 simp only[prlAll,Bool.and_eq_true,decide_eq_true_eq]at hp
 obtain⟨h1,h2⟩:=hp
 obtain⟨⟨n1,n2⟩,n3⟩:=F.chkR4_ok h1
 have hs0:(l.getD 0 ⟨⟨#[]⟩,0,false,[]⟩).scale=F.sc0 l:=rfl
 refine loop_code (xs:=l) (st:=stAll l bs first) (g:=F.segE l bs first) (o:=fun c=>(.ret,⟨[(7,vI c),(6, .own 6)],[(6,⟨false,44,1,[]⟩)]⟩)) (n:=([21,20,19,9,2,1,0],[9])) (e:=([9],[9])) (r:=([7,6],[6])) ?_ ⟨by simp,rfl⟩ (fun _=>⟨by simp,rfl⟩) (fun _=>rfl) ?_ k h2
 ·rw[evAllL]
  simp only[cast_ge,cond_false,List.take_length]
 ·clear h2 k
  intro k y ha
  have hlt:=lt_at ha
  obtain⟨y1,y2,y3⟩:=n3 y (List.mem_of_getElem? ha)
  have hl1:((l.take k).map (F.segR l bs first)).length=k:=by rw[List.length_map,List.length_take];omega
  have hbl:Nat.ble ((k+1)*24) 140737488355328=true:=ble_t (by omega)
  have ht:=alls_next ha (F.segR l bs first)
  have hg1:(F.segs y (F.sc0 l) bs first).2=F.segE l bs first y:=rfl
  have hg2:(F.segs y (F.sc0 l) bs first).1=F.segR l bs first y:=rfl
  rw[evAllL]
  simp only[unSgsw,etaStd,Option.bind_some,List.length_map,unStds,cond_true,cast_lt hlt,decide_eq_true hlt,next_at hlt (by omega:l.length≤9223372036854775807),getD_at ha,decide_eq_true (show 0<l.length by omega),hs0,decide_eq_true y2,decide_eq_true y3,y1,Bool.not_false,Bool.and_self,hl1,hbl,hg1,hg2,appeL_eSegs',ht]
  by_cases h:F.segE l bs first y=0
  ·rw[bne0 h,if_pos h];rfl
  ·rw[bne1 h,if_neg h];rfl

theorem evAll (l:List Std) (bs:List Int) (first:Int):(runF enAll false Tryz.f18 [.sl (l.map eStd), .sl (bs.map eI),vI first]).val =
 Option.bind (unenc encCkr [AV.sl (List.map eStd l)]) fun z=>bif F.chkR4 z != 0 then some (AV.tup [AV.sl [],(vI (F.chkR4 z))],[]) else Option.bind
 (unenc stAll1 (St.mk [(21,(vI 0)),(20,(vI (↑(List.length (List.map eStd l)):Int))),(19,AV.sl (List.map eStd l)),(9, .own 9),(2,(vI first)),(1,AV.sl
 (List.map eI bs)),(0,AV.sl (List.map eStd l))] [(9,Blk.mk false 44 1 [])])) fun z=>bif decide (F.chkR4 z.1=(0:Int)) &&
 decide (z.2.2.2≤List.length z.1)&&true then bif decide (ffI (F.segE z.1 z.2.1 z.2.2.1) (List.drop z.2.2.2 z.1)=(0:Int)) then some
 (AV.tup [AV.sl (List.map eL_eSeg (List.map (F.segR z.1 z.2.1 z.2.2.1) z.1)),(vI 0)],[]) else some (AV.tup [AV.sl [],(vI (ffI (F.segE z.1
 z.2.1 z.2.2.1) (List.drop z.2.2.2 z.1)))],[]) else none:=(runFR_val).symm.trans (by kernel_rfl)

def encAll1 (l:List Std) (bs:List Int) (first:Int):List AV:=[.sl (l.map eStd), .sl (bs.map eI),vI first]

def encAll (a:(List Std)×(List Int)×Int):List AV:=encAll1 a.1 a.2.1 a.2.2

theorem encAll_inj (a a':(List Std)×(List Int)×Int) (h:encAll a=encAll a'):a=a':=by
 simp only[encAll,encAll1]at h
 try simp[ints_inj,eStds_inj]at h
 grind

theorem unAll (l:List Std) (bs:List Int) (first:Int):unenc encAll ([AV.sl (List.map eStd l),AV.sl (List.map eI bs),(vI first)])=some (l,bs,first):=unenc_of encAll_inj (l,bs,first) rfl

noncomputable def resAll1 (l:List Std) (bs:List Int) (first:Int):AV×Heap:=(.tup [.sl ((F.alls l bs first).1.map eL_eSeg),vI (F.alls l bs first).2],[])

def preAll1 (l:List Std) (bs:List Int) (first:Int):Bool:=true

noncomputable def oAll:Orc:=orc 18 false encAll (fun a=>preAll1 a.1 a.2.1 a.2.2) fun a=>resAll1 a.1 a.2.1 a.2.2

theorem okAll:OrcOK Tryz.prog noG oAll:=by
 refine mk_ok Tryz.f18 (keep:=false) (by kernel_rfl) (by kernel_rfl) enAll_ok mixed (one_loop (x0:=loopN Tryz.f18 0) (by kernel_rfl) (lpo_ok ?_)) (by first | exact fun _ _=>⟨rfl,rfl⟩ | (intro h;cases h)) ?_
 ·rintro⟨l,bs,first,k⟩ hp
  exact lpAll_ok l bs first k hp
 rintro⟨l,bs,first⟩ hpre hok
 show(runF enAll false _ (encAll1 _ _ _)).val=some (resAll1 _ _ _)
 unfold encAll1 resAll1
 rw[evAll]
 simp only[unCkr,unstAll0,Option.bind_some,List.length_map,Bool.and_true]
 unfold F.alls
 by_cases h:F.chkR4 l=0
 case neg=>rw[bne1 h];rfl
 rw[bne0 h]
 simp only[cond_false,decide_eq_true h,Nat.zero_le,decide_true,Bool.and_self,cond_true,List.drop_zero]
 by_cases hf:M.ffI (F.segE l bs first) l=0
 ·rw[hf];rfl
 ·rw[decide_eq_false hf,bne1 hf];rfl

theorem evBdy (s:Seg):(runF en0 false Tryz.f107 [.agg (eSeg s)]).val =
 some ((vI (IntKind.i64.wrap (s.begin+s.lead))),[]):=(runFR_val).symm.trans (by kernel_rfl)

def encBdy1 (s:Seg):List AV:=[.agg (eSeg s)]

def encBdy (a:Seg):List AV:=encBdy1 a

theorem encBdy_inj (a a':Seg) (h:encBdy a=encBdy a'):a=a':=by
 simp only[encBdy,encBdy1]at h
 try simp[eSeg_iff]at h
 grind

theorem unBdyw (s_number:Int) (s_fr:Int) (s_to:Int) (s_begin:Int) (s_length:Int) (s_bytes:Int) (s_lead:Int):unenc encBdy ([AV.agg [(vI s_number),(vI s_fr),(vI s_to),(vI s_begin),(vI s_length),(vI s_bytes),(vI s_lead)]])=some ((Seg.mk s_number s_fr s_to s_begin s_length s_bytes s_lead)):=unenc_of encBdy_inj ((Seg.mk s_number s_fr s_to s_begin s_length s_bytes s_lead)) rfl

noncomputable def resBdy1 (s:Seg):AV×Heap:=(vI (F.bndS s),[])

def preBdy1 (s:Seg):Bool:=true

noncomputable def oBdy:Orc:=orc 107 true encBdy (fun a=>preBdy1 a) fun a=>resBdy1 a

theorem okBdy:OrcOK Tryz.prog noG oBdy:=by
 refine mk_ok Tryz.f107 (keep:=false) (by kernel_rfl) (by kernel_rfl) en0_ok mixed (no_loops (by kernel_rfl)) (by first | exact fun _ _=>⟨rfl,rfl⟩ | (intro h;cases h)) ?_
 rintro s hpre hok
 show(runF en0 false _ (encBdy1 _)).val=some (resBdy1 _)
 unfold encBdy1 resBdy1
 rw[evBdy]
 simp only[F.bndS]
 try rfl

noncomputable def stRwf (l:List Seg) (k:Nat):St:=⟨[(10,vI k),(9,vI l.length),(8, .sl (l.map eSeg)),(0, .sl (l.map eSeg))],[]⟩

noncomputable def stRwf1 (a:(List Seg)×Nat):St:=stRwf a.1 a.2

theorem stRwf_inj (a a':(List Seg)×Nat) (h:stRwf1 a=stRwf1 a'):a=a':=by
 simp only[stRwf1,stRwf]at h
 try simp[eSegs_inj]at h
 grind

theorem unstRwf0 (l:List Seg)  : unenc stRwf1 (St.mk [(10,(vI (0:Int))),(9,(vI (↑(List.length l):Int))),(8,AV.sl (List.map eSeg l)),(0,AV.sl (List.map eSeg l))] [])=some (l,0):=unenc_of stRwf_inj (l,0) rfl

noncomputable def outRwf (l:List Seg) (k:Nat):T (Ex×St):= .ifB (decide (M.ffI (F.rowS l) (l.zipIdx.drop k)=0)) (.ret (.exit 0,⟨[],[]⟩)) (.ret (.ret,⟨[(2,vI (M.ffI (F.rowS l) (l.zipIdx.drop k)))],[]⟩))

noncomputable def prlRwf (l:List Seg) (k:Nat):Bool:=decide (l.length≤1000)&&decide (k≤l.length)

noncomputable def lpRwf:Nat×(St→T (Ex×St)):=(4,lpo [10,9,8,0] [] stRwf1 (fun a=>prlRwf a.1 a.2) fun a=>outRwf a.1 a.2)

noncomputable def enRwf:Env:=envH ty noG lks [oNoTm,oBdy] [] [] [lpRwf]

theorem enRwf_ok:EnvOK Tryz.prog enRwf:=by
 refine envH_ok lks_ok ty_ok ?_ ?_
 ·simp only[List.forall_mem_cons]
  exact⟨okNoTm,okBdy,by simp⟩
 ·simp

theorem evRwfL (l:List Seg) (k:Nat):((exec enRwf (loopN Tryz.f104 0) (stRwf l k)).bind (lessX ([10,9,8,0],[]) ([],[]) ([2],[]))).val =
 (fun(q:Seg)=>(fun(q_1:Option (Ex×St))=>(fun(q_2:Option (Ex×St))=>bif decide ((↑k:Int)<(↑(List.length l):Int)) then Option.bind (unenc (List.map
 eSeg) (List.map eSeg l)) fun z=>(fun(q_3:Int)=>(fun(q_4:Option Seg)=>bif decide (k<List.length z) then Option.bind (unenc encNoTm [(vI
 (List.getD z k q).begin)]) fun z_1=>bif !F.noTm z_1 then Option.bind (unenc encNoTm [(vI (List.getD z k q).lead)]) fun z=>bif !F.noTm z then
 Option.bind (unenc encNoTm [(vI q_3)]) fun z=>bif !F.noTm z then Option.bind q_4 fun z=>Option.bind (unenc encNoTm [(vI (IntKind.wrap IntKind.i64
 (F.bndS z+q_3)))]) fun z=>bif F.noTm z then q_1 else bif decide ((0:Int)<(↑k:Int)) then Option.bind q_4 fun z=>Option.bind (idx (IntKind.wrap
 IntKind.i64 ((↑k:Int) - (1:Int)))) fun z_2=>Option.bind (unenc (List.map eSeg) (List.map eSeg l)) fun z_3=>bif decide (z_2<List.length z_3)
 then Option.bind (unenc encBdy [AV.agg [(vI (List.getD z_3 z_2 q).number),(vI (List.getD z_3 z_2 q).fr),(vI (List.getD z_3 z_2 q).to),(vI (List.getD z_3 z_2 q).begin),
 (vI (List.getD z_3 z_2 q).length),(vI (List.getD z_3 z_2 q).bytes),(vI (List.getD z_3 z_2 q).lead)]]) fun z_4=>bif bif decide (F.bndS z<F.bndS z_4) then true
 else decide (q_3<0) then some (Ex.ret,St.mk [(2,(vI 8))] []) else q_2 else none else bif decide (q_3<0) then some (Ex.ret,St.mk [(2,(vI 8))] []) else q_2 else q_1 else q_1 else q_1 else none) (unenc encBdy [AV.agg [(vI (List.getD z k q).number),(vI (List.getD z k q).fr),(vI (List.getD z k q).to),
 (vI (List.getD z k q).begin),(vI q_3),(vI (List.getD z k q).bytes),(vI (List.getD z k q).lead)]])) (List.getD z k q).length else some (Ex.exit (0:Nat),St.mk [] []))
 (some (Ex.normal,St.mk [(10,(vI (IntKind.i64.wrap ((↑k:Int)+1)))),(9,(vI (↑(List.length l):Int))),(8,AV.sl (List.map eSeg l)),(0,AV.sl
 (List.map eSeg l))] []))) (some (Ex.ret,St.mk [(2,(vI 1))] []))) (Seg.mk (0:Int) (0:Int) (0:Int) (0:Int) (0:Int) (0:Int) (0:Int)):=(execR_bind _ _ _).symm.trans (by kernel_rfl)

theorem lpRwf_ok (l:List Seg) (k:Nat) (hp:prlRwf l k=true) : ∀ex s',(outRwf l k).val=some (ex,s')→LoopOK enRwf (loopN Tryz.f104 0) (stRwf l k) ex s':=by
 simp only[prlRwf,Bool.and_eq_true,decide_eq_true_eq]at hp
 refine loop_code (xs:=l.zipIdx) (st:=stRwf l) (g:=F.rowS l) (o:=fun c=>(.ret,⟨[(2,vI c)],[]⟩)) (n:=([10,9,8,0],[])) (e:=([],[])) (r:=([2],[])) ?_ ⟨by simp,rfl⟩ (fun _=>⟨by simp,rfl⟩) (fun _=>rfl) ?_ k (by simp;exact hp.2)
 ·rw[evRwfL];simp
 ·intro k y hy
  obtain⟨ha,hk⟩:=F.zipIdx_at hy
  have hlt:=lt_at ha
  have h1:=hp.1
  have hd:decide (k - 1<l.length)=true:=decide_eq_true (by omega)
  unfold F.rowS
  rw[hk]
  rw[evRwfL]
  by_cases h0:0<k
  ·have hi:=idx_pred h0 (by omega:k≤9223372036854775807)
   simp only[unNoTm,unBdyw,etaSeg,Option.bind_some,unSegs,cond_true,Bool.true_and,cast_lt hlt,decide_eq_true hlt,next_at hlt (by omega:l.length≤9223372036854775807),getD_at ha,stRwf,hi,hd,decide_eq_true h0,decide_eq_true (show(0:Int)<(k:Int) by omega)]
   generalize F.noTm y.1.begin=a1
   generalize F.noTm y.1.lead=a2
   generalize F.noTm y.1.length=a3
   generalize F.noTm (IntKind.i64.wrap (F.bndS y.1+y.1.length))=a4
   generalize decide (F.bndS y.1<F.bndS (l.getD (k - 1) ⟨0,0,0,0,0,0,0⟩))=a5
   generalize decide (y.1.length<0)=a6
   cases a1<;>cases a2<;>cases a3<;>cases a4<;>cases a5<;>cases a6<;>rfl
  ·simp only[unNoTm,unBdyw,etaSeg,Option.bind_some,unSegs,cond_true,cond_false,cast_lt hlt,decide_eq_true hlt,next_at hlt (by omega:l.length≤9223372036854775807),getD_at ha,stRwf,decide_eq_false h0,decide_eq_false (show ¬(0:Int)<(k:Int) by omega)]
   generalize F.noTm y.1.begin=a1
   generalize F.noTm y.1.lead=a2
   generalize F.noTm y.1.length=a3
   generalize F.noTm (IntKind.i64.wrap (F.bndS y.1+y.1.length))=a4
   generalize decide (y.1.length<0)=a6
   cases a1<;>cases a2<;>cases a3<;>cases a4<;>cases a6<;>rfl

theorem evRwf (l:List Seg):(runF enRwf false Tryz.f104 [.sl (l.map eSeg)]).val =
 bif decide ((1000:Int)<(↑(List.length (List.map eSeg l)):Int)) then some ((vI 2),[]) else Option.bind (unenc stRwf1 (St.mk [(10,(vI 0)),(9,(vI
 (↑(List.length (List.map eSeg l)):Int))),(8,AV.sl (List.map eSeg l)),(0,AV.sl (List.map eSeg l))] [])) fun z=>bif decide (List.length z.1 ≤
 (1000:Nat))&&decide (z.2≤List.length z.1)&&true then bif decide (ffI (F.rowS z.1) (List.drop z.2 (List.zipIdx z.1))=(0:Int)) then some ((vI 0),[]) else some ((vI (ffI (F.rowS z.1) (List.drop z.2 (List.zipIdx z.1)))),[]) else none:=(runFR_val).symm.trans (by kernel_rfl)

def encRwf1 (l:List Seg):List AV:=[.sl (l.map eSeg)]

def encRwf (a:(List Seg)):List AV:=encRwf1 a

theorem encRwf_inj (a a':(List Seg)) (h:encRwf a=encRwf a'):a=a':=by
 simp only[encRwf,encRwf1]at h
 try simp[eSegs_inj]at h
 grind

theorem unRwf (l:List Seg):unenc encRwf ([AV.sl (List.map eSeg l)])=some (l):=unenc_of encRwf_inj (l) rfl

noncomputable def resRwf1 (l:List Seg):AV×Heap:=(vI (F.rowF l),[])

def preRwf1 (l:List Seg):Bool:=true

noncomputable def oRwf:Orc:=orc 104 true encRwf (fun a=>preRwf1 a) fun a=>resRwf1 a

theorem okRwf:OrcOK Tryz.prog noG oRwf:=by
 refine mk_ok Tryz.f104 (keep:=false) (by kernel_rfl) (by kernel_rfl) enRwf_ok mixed (one_loop (x0:=loopN Tryz.f104 0) (by kernel_rfl) (lpo_ok ?_)) (by first | exact fun _ _=>⟨rfl,rfl⟩ | (intro h;cases h)) ?_
 ·rintro⟨l,k⟩ hp
  exact lpRwf_ok l k hp
 rintro l hpre hok
 show(runF enRwf false _ (encRwf1 _)).val=some (resRwf1 _)
 unfold encRwf1 resRwf1
 rw[evRwf]
 simp only[unstRwf0,Option.bind_some,List.length_map,Bool.and_true,List.length_map]
 unfold F.rowF F.lt
 by_cases h2:(1000:Int)<l.length
 ·rw[decide_eq_true h2];rfl
 rw[decide_eq_false h2]
 simp only[cond_false,decide_eq_true (show l.length≤1000 by omega),Nat.zero_le,decide_true,Bool.and_self,cond_true,List.drop_zero]
 by_cases h3:M.ffI (F.rowS l) l.zipIdx=0
 ·rw[h3];rfl
 ·rw[decide_eq_false h3];rfl

noncomputable def enMlc:Env:=envH ty noG lks [oScl] [] [] []

theorem enMlc_ok:EnvOK Tryz.prog enMlc:=by
 refine envH_ok lks_ok ty_ok ?_ ?_
 ·simp only[List.forall_mem_cons]
  exact⟨okScl,by simp⟩
 ·simp

theorem evMlc (t:Int) (sc:Int):(runF enMlc false Tryz.f105 [vI t, .pel [vI sc] 0]).val =
 Option.bind (unenc encScl [(vI t),(vI 1000),(vI sc),(vI 2)]) fun z=>bif F.i64B z.1&&decide ((0:Int)≤z.2.1) &&
 decide (z.2.1≤1000000)&&decide ((1:Int)≤z.2.2.1)&&decide (z.2.2.1≤9223372036854775807)&&decide (Int.natAbs z.1*Int.natAbs
 z.2.1<9223372036854775808) then some ((vI (F.scl z.1 z.2.1 z.2.2.1 z.2.2.2)),[]) else none:=(runFR_val).symm.trans (by kernel_rfl)

def encMlc1 (t:Int) (sc:Int):List AV:=[vI t, .pel [vI sc] 0]

def encMlc (a:Int×Int):List AV:=encMlc1 a.1 a.2

theorem encMlc_inj (a a':Int×Int) (h:encMlc a=encMlc a'):a=a':=by
 simp only[encMlc,encMlc1]at h
 try simp[]at h
 grind

theorem unMlc (t:Int) (sc:Int):unenc encMlc ([(vI t),AV.pel [(vI sc)] (0:Nat)])=some (t,sc):=unenc_of encMlc_inj (t,sc) rfl

noncomputable def resMlc1 (t:Int) (sc:Int):AV×Heap:=(vI (F.scl t 1000 sc 2),[])

def preMlc1 (t:Int) (sc:Int):Bool:=decide (-2000000000000000≤t)&&(decide (t≤2000000000000000) && !F.noScale sc)

noncomputable def oMlc:Orc:=orc 105 true encMlc (fun a=>preMlc1 a.1 a.2) fun a=>resMlc1 a.1 a.2

theorem okMlc:OrcOK Tryz.prog noG oMlc:=by
 refine mk_ok Tryz.f105 (keep:=false) (by kernel_rfl) (by kernel_rfl) enMlc_ok mixed (no_loops (by kernel_rfl)) (by first | exact fun _ _=>⟨rfl,rfl⟩ | (intro h;cases h)) ?_
 rintro⟨t,sc⟩ hpre hok
 show(runF enMlc false _ (encMlc1 _ _)).val=some (resMlc1 _ _)
 unfold encMlc1 resMlc1
 rw[evMlc]
 simp only[preMlc1,Bool.and_eq_true,decide_eq_true_eq]at hpre
 obtain⟨h1,h2,h3⟩:=hpre
 obtain⟨s1,s2,s3⟩:=F.noScale_ok (show F.noScale sc=false by simpa using h3)
 have e1:F.i64B t=true:=by unfold F.i64B;rw[decide_eq_true (by omega),decide_eq_true (by omega)];rfl
 have e2:decide (t.natAbs*(1000:Int).natAbs<9223372036854775808)=true:=decide_eq_true (by rw[show(1000:Int).natAbs=1000 from rfl];omega)
 have e3:decide ((0:Int)≤1000)=true:=rfl
 have e4:decide ((1000:Int)≤1000000)=true:=rfl
 simp only[unScl,Option.bind_some,cond_true,e1,e2,e3,e4,decide_eq_true s1,decide_eq_true (show sc≤9223372036854775807 by omega),Bool.and_self]
 try rfl

end M

namespace M

noncomputable def stMls (l:List Seg) (sc:Int) (k:Nat):St:=⟨[(22,vI k),(21,vI l.length),(20, .sl (l.map eSeg)),(8, .fn 105 [.ptr 3 0 0]),(7, .own 7),(0, .sl (l.map eSeg))],[(7,⟨false,3,1,((List.range k).map (F.milS l sc)).map eI⟩),(3,⟨true,0,0,[[vI sc]]⟩)]⟩

noncomputable def stMls1 (a:(List Seg)×Int×Nat):St:=stMls a.1 a.2.1 a.2.2

theorem stMls_inj (a a':(List Seg)×Int×Nat) (h:stMls1 a=stMls1 a'):a=a':=by
 simp only[stMls1,stMls]at h
 try simp[eSegs_inj]at h
 grind

theorem unstMls0 (l:List Seg) (sc:Int)  : unenc stMls1 (St.mk [(22,(vI (0:Int))),(21,(vI (↑(List.length l):Int))),(20,AV.sl (List.map eSeg l)),(8,AV.fn (105:FuncId) [.ptr 3 0 0]),(7, .own 7),(0,AV.sl (List.map
 eSeg l))] [(7,Blk.mk false 3 1 []),(3,Blk.mk true 0 0 [[(vI sc)]])])=some (l,sc,0):=unenc_of stMls_inj (l,sc,0) rfl

noncomputable def outMls (l:List Seg) (sc:Int) (k:Nat):T (Ex×St):= .ret (.exit 0,⟨[(7, .own 7)],[(7,⟨false,3,1,(F.milL l sc).map eI⟩)]⟩)

noncomputable def prlMls (l:List Seg) (sc:Int) (k:Nat):Bool:=decide (F.rowF l=0)&&(!F.noScale sc&&decide (k≤l.length))

noncomputable def lpMls:Nat×(St→T (Ex×St)):=(9,lpo [22,21,20,8,7,0] [7,3] stMls1 (fun a=>prlMls a.1 a.2.1 a.2.2) fun a=>outMls a.1 a.2.1 a.2.2)

noncomputable def enMls:Env:=envH ty noG lks [oNoS,oBdy,oRwf,oMlc] [] [] [lpMls]

theorem enMls_ok:EnvOK Tryz.prog enMls:=by
 refine envH_ok lks_ok ty_ok ?_ ?_
 ·simp only[List.forall_mem_cons]
  exact⟨okNoS,okBdy,okRwf,okMlc,by simp⟩
 ·simp

theorem evMlsL (l:List Seg) (sc:Int) (k:Nat):((exec enMls (loopN Tryz.f56 0) (stMls l sc k)).bind (lessX ([22,21,20,8,7,0],[7,3]) ([7],[7]) ([],[]))).val =
 (fun(q:Int)=>(fun(q_1:Seg)=>(fun(q_2:List Row)=>(fun(q_3:List AV)=>(fun(q_4:Bool)=>(fun(q_5:List (Nat×AV))=>bif decide ((↑k:Int) <
 (↑(List.length l):Int)) then Option.bind (unenc (List.map eSeg) (List.map eSeg l)) fun z=>(fun(q_6:Option Seg)=>bif decide (k<List.length z) then
 Option.bind q_6 fun z_1=>bif decide (q<(↑(List.length (List.map eSeg l)):Int)) then Option.bind (idx q) fun z=>Option.bind (unenc (List.map eSeg)
 (List.map eSeg l)) fun z_2=>bif decide (z<List.length z_2) then Option.bind (unenc encBdy [AV.agg [(vI (List.getD z_2 z q_1).number),(vI (List.getD z_2 z
 q_1).fr),(vI (List.getD z_2 z q_1).to),(vI (List.getD z_2 z q_1).begin),(vI (List.getD z_2 z q_1).length),(vI (List.getD z_2 z q_1).bytes),(vI (List.getD z_2 z
 q_1).lead)]]) fun z=>Option.bind (unenc encMlc ((vI (F.bndS z))::q_3)) fun z=>bif decide ((-2000000000000000:Int)≤z.1)&&(decide (z.1
 ≤ 2000000000000000) && !F.noScale z.2) then Option.bind q_6 fun z_3=>Option.bind (unenc encMlc ((vI (F.bndS z_3))::q_3)) fun z_4=>bif
 decide ((-2000000000000000:Int)≤z_4.1)&&(decide (z_4.1≤2000000000000000) && !F.noScale z_4.2) then bif q_4 then some (Ex.normal,St.mk q_5 [(7,
 Blk.mk false 3 1 (q_2++[[(vI (IntKind.i64.wrap (F.scl z.1 (1000:Int) z.2 (2:Int) - F.scl z_4.1 (1000:Int) z_4.2 (2:Int))))]])),(3,Blk.mk true 0
 0 [[(vI sc)]])]) else none else none else none else none else Option.bind (unenc encMlc ((vI (IntKind.i64.wrap (F.bndS z_1+(List.getD z k q_1).length)))::q_3))
 fun z=>bif decide ((-2000000000000000:Int)≤z.1)&&(decide (z.1≤2000000000000000) && !F.noScale z.2) then Option.bind q_6 fun(z_2 :
 Seg)=>Option.bind (unenc encMlc ((vI (F.bndS z_2))::q_3)) fun z_3=>bif decide ((-2000000000000000:Int)≤z_3.1)&&(decide (z_3.1 ≤
 (2000000000000000:Int)) && !F.noScale z_3.2) then bif q_4 then some (Ex.normal,St.mk q_5 [(7,Blk.mk false 3 1 (q_2++[[(vI (IntKind.i64.wrap (F.scl z.1
 (1000:Int) z.2 (2:Int) - F.scl z_3.1 (1000:Int) z_3.2 (2:Int))))]])),(3,Blk.mk true 0 0 [[(vI sc)]])]) else none else none else none else none) (unenc
 encBdy [AV.agg [(vI (List.getD z k q_1).number),(vI (List.getD z k q_1).fr),(vI (List.getD z k q_1).to),(vI (List.getD z k q_1).begin),(vI (List.getD z k q_1).length),
 (vI (List.getD z k q_1).bytes),(vI (List.getD z k q_1).lead)]]) else some (Ex.exit (0:Nat),St.mk [(7, .own 7)] [(7,Blk.mk false 3 1 q_2)])) [(22,(vI q)),(21,(vI
 (↑(List.length l):Int))),(20,AV.sl (List.map eSeg l)),(8,AV.fn (105:FuncId) [.ptr 3 0 0]),(7, .own 7),(0,AV.sl (List.map eSeg l))]) (Nat.ble ((List.length q_2 +
 (1:Nat))*8) 140737488355328&&true)) [AV.pel [(vI sc)] (0:Nat)]) (List.map eI (List.map (F.milS l sc) (List.range.loop k [])))) (Seg.mk (0:Int) (0
 : Int) (0:Int) (0:Int) (0:Int) (0:Int) (0:Int))) (IntKind.i64.wrap ((↑k:Int)+1)):=(execR_bind _ _ _).symm.trans (by kernel_rfl)

theorem lpMls_ok (l:List Seg) (sc:Int) (k:Nat) (hp:prlMls l sc k=true) : ∀ex s',(outMls l sc k).val=some (ex,s')→LoopOK enMls (loopN Tryz.f56 0) (stMls l sc k) ex s':=by
 simp only[prlMls,Bool.and_eq_true,decide_eq_true_eq]at hp
 obtain⟨h1,h2,h3⟩:=hp
 obtain⟨n1,n2⟩:=F.rowF_ok h1
 refine loop_gen (st:=fun k:Nat=>stMls l sc k) (out:=fun k=>outMls l sc k) (I:=fun k=>k≤l.length) (n:=([22,21,20,8,7,0],[7,3])) (e:=([7],[7])) (r:=([],[])) (fun k=>l.length - k) ?_ k h3
 clear h3 k
 intro k h3
 by_cases hlt:k<l.length
 ·right
  have hy:l[k]? = some l[k]:=List.getElem?_eq_getElem hlt
  have hN:=next_at hlt (by omega:l.length≤9223372036854775807)
  obtain⟨q1,q2,q3,q4⟩:=n2 _ (List.getElem_mem hlt)
  have hw:IntKind.i64.wrap (F.bndS l[k]+l[k].length)=F.bndS l[k]+l[k].length:=wrap_id (by omega) (by omega)
  generalize l[k]=y at hy q1 q2 q3 q4 hw
  have hnx:=range_next (F.milS l sc) k
  have hbl:Nat.ble ((k+1)*8) 140737488355328=true:=ble_t (by omega)
  have ea:((List.range k).map (F.milS l sc)).length=k:=by rw[List.length_map,List.length_range]
  have dB:decide (-2000000000000000≤F.bndS y)=true:=decide_eq_true q1.1
  have dB2:decide (F.bndS y≤2000000000000000)=true:=decide_eq_true q1.2
  have dE:decide (-2000000000000000≤F.bndS y+y.length)=true:=decide_eq_true (by omega)
  have dE2:decide (F.bndS y+y.length≤2000000000000000)=true:=decide_eq_true (by omega)
  refine⟨k+1,?_,rfl,hlt,by omega,rfl⟩
  have fin : ∀n:Int,n=F.milS l sc k→((List.range k).map (F.milS l sc)++[n]).map eI=((List.range (k+1)).map (F.milS l sc)).map eI:=fun n hn=>by rw[hn,hnx]
  by_cases hk1:k+1<l.length
  ·have hy1:l[k+1]? = some l[k+1]:=List.getElem?_eq_getElem hk1
   obtain⟨p1,p2,p3,p4⟩:=n2 _ (List.getElem_mem hk1)
   generalize l[k+1]=x at hy1 p1 p2 p3 p4
   have dX:decide (-2000000000000000≤F.bndS x)=true:=decide_eq_true p1.1
   have dX2:decide (F.bndS x≤2000000000000000)=true:=decide_eq_true p1.2
   have hi1:idx ((k+1:Nat):Int)=some (k+1):=rfl
   have hm:IntKind.i64.wrap (F.scl (F.bndS x) 1000 sc 2 - F.scl (F.bndS y) 1000 sc 2)=F.milS l sc k:=by
    unfold F.milS F.nxtS
    rw[decide_eq_true hk1,getD_at hy1,getD_at hy]
    rfl
   rw[evMlsL]
   simp only[unMlc,unBdyw,etaSeg,Option.bind_some,List.length_map,unSegs,cond_true,Bool.and_true,cast_lt hlt,cast_lt hk1,decide_eq_true hlt,decide_eq_true hk1,hN,getD_at hy,getD_at hy1,hi1,dB,dB2,dX,dX2,h2,Bool.and_self,range_loop,ea,hbl,appI1]
   rw[fin _ hm]
   try rfl
  ·have hk2 : ¬(((k+1:Nat):Int)<(l.length:Int)):=by omega
   have hm:IntKind.i64.wrap (F.scl (F.bndS y+y.length) 1000 sc 2 - F.scl (F.bndS y) 1000 sc 2)=F.milS l sc k:=by
    unfold F.milS F.nxtS
    rw[decide_eq_false hk1,getD_at hy]
    simp only[cond_false,hw]
   rw[evMlsL]
   simp only[unMlc,unBdyw,etaSeg,Option.bind_some,List.length_map,unSegs,cond_true,cond_false,Bool.and_true,cast_lt hlt,decide_eq_true hlt,decide_eq_false hk2,hN,getD_at hy,hw,dB,dB2,dE,dE2,h2,Bool.and_self,range_loop,ea,hbl,appI1]
   rw[fin _ hm]
   try rfl
 ·left
  have hk:k=l.length:=by omega
  subst hk
  refine⟨_,?_,rfl,by simp,rfl⟩
  rw[evMlsL]
  simp only[unMlc,unBdyw,etaSeg,Option.bind_some,List.length_map,unSegs,cond_false,Bool.and_true,cast_ge,range_loop]
  try rfl

theorem evMls (l:List Seg) (sc:Int):(runF enMls false Tryz.f56 [.sl (l.map eSeg),vI sc]).val =
 Option.bind (unenc encNoS [(vI sc)]) fun z=>bif F.noScale z then some (AV.tup [AV.sl [],(vI 1)],[]) else Option.bind (unenc encRwf [AV.sl (List.map
 eSeg l)]) fun z=>bif F.rowF z != 0 then some (AV.tup [AV.sl [],(vI (F.rowF z))],[]) else Option.bind (unenc stMls1 (St.mk [(22,(vI 0)),
 (21,(vI (↑(List.length (List.map eSeg l)):Int))),(20,AV.sl (List.map eSeg l)),(8,AV.fn (105:Nat) [.ptr 3 0 0]),(7, .own 7),(0,AV.sl (List.map eSeg l))] [(7,
 Blk.mk false 3 1 []),(3,Blk.mk true 0 0 [[(vI sc)]])])) fun z=>bif decide (F.rowF z.1=(0:Int))&&(!F.noScale z.2.1&&decide
 (z.2.2≤List.length z.1))&&true then some (AV.tup [AV.sl (List.map eI (F.milL z.1 z.2.1)),(vI 0)],[]) else none:=(runFR_val).symm.trans (by kernel_rfl)

def encMls1 (l:List Seg) (sc:Int):List AV:=[.sl (l.map eSeg),vI sc]

def encMls (a:(List Seg)×Int):List AV:=encMls1 a.1 a.2

theorem encMls_inj (a a':(List Seg)×Int) (h:encMls a=encMls a'):a=a':=by
 simp only[encMls,encMls1]at h
 try simp[eSegs_inj]at h
 grind

theorem unMls (l:List Seg) (sc:Int):unenc encMls ([AV.sl (List.map eSeg l),(vI sc)])=some (l,sc):=unenc_of encMls_inj (l,sc) rfl

noncomputable def resMls1 (l:List Seg) (sc:Int):AV×Heap:=(.tup [.sl ((F.mils l sc).1.map eI),vI (F.mils l sc).2],[])

def preMls1 (l:List Seg) (sc:Int):Bool:=true

noncomputable def oMls:Orc:=orc 56 false encMls (fun a=>preMls1 a.1 a.2) fun a=>resMls1 a.1 a.2

theorem okMls:OrcOK Tryz.prog noG oMls:=by
 refine mk_ok Tryz.f56 (keep:=false) (by kernel_rfl) (by kernel_rfl) enMls_ok mixed (one_loop (x0:=loopN Tryz.f56 0) (by kernel_rfl) (lpo_ok ?_)) (by first | exact fun _ _=>⟨rfl,rfl⟩ | (intro h;cases h)) ?_
 ·rintro⟨l,sc,k⟩ hp
  exact lpMls_ok l sc k hp
 rintro⟨l,sc⟩ hpre hok
 show(runF enMls false _ (encMls1 _ _)).val=some (resMls1 _ _)
 unfold encMls1 resMls1
 rw[evMls]
 simp only[unNoS,unRwf,unstMls0,Option.bind_some,List.length_map,Bool.and_true,List.length_map]
 unfold F.mils
 cases hs:F.noScale sc
 case true=>rfl
 simp only[cond_false]
 by_cases h:F.rowF l=0
 case neg=>rw[bne1 h];rfl
 rw[bne0 h]
 simp only[cond_false,decide_eq_true h,Bool.not_false,Nat.zero_le,decide_true,Bool.and_self,cond_true]
 try rfl

end M

def F.entK (r:Std) (l:List Seg) (ms:List Int) (k:Nat):Ent:=
 ⟨r.name++⟨#[45]⟩++F.itoa (l.getD k ⟨0,0,0,0,0,0,0⟩).number,ms.getD k 0,false, -1,⟨#[]⟩,false,[]⟩

def F.tgtS (t m:Int):Int:=max t (IntKind.i64.wrap (Int.tdiv (IntKind.i64.wrap (m+500)) 1000))

def F.tgtK (ms:List Int) (k:Nat):Int:=(ms.take k).foldl F.tgtS 1

def F.lstO (r:Std) (l:List Seg) (ms:List Int) (first:Int):Lst:=⟨F.tgtK ms l.length,first,0,(List.range l.length).map (F.entK r l ms),true⟩

def F.noLst:Lst:=⟨0,0,0,[],false⟩

def F.lsO (r:Std) (l:List Seg) (first:Int):Lst×Int:=
 bif (F.mils l r.scale).2 != 0 then (F.noLst,(F.mils l r.scale).2) else (F.lstO r l (F.mils l r.scale).1 first,F.check (F.lstO r l (F.mils l r.scale).1 first))

namespace M

noncomputable def stLso (r:Std) (l:List Seg) (ms:List Int) (first:Int):St:=⟨[(28,vI 0),(27,vI l.length),(26, .sl (l.map eSeg)),(10, .ptr 10 0 0),(8, .sl (ms.map eI)),(6, .ptr 6 0 0),(3, .ptr 3 0 0)],[(10,⟨true,0,0,[[vI 1,vI first,vI 0, .e0,vB true]]⟩),(6,⟨true,0,0,[[vI 0,vI 0,vI 0, .e0,vB false]]⟩),(3,⟨true,0,0,[eStd r]⟩)]⟩

noncomputable def stLso1 (a:Std×(List Seg)×(List Int)×Int):St:=stLso a.1 a.2.1 a.2.2.1 a.2.2.2

theorem stLso_inj (a a':Std×(List Seg)×(List Int)×Int) (h:stLso1 a=stLso1 a'):a=a':=by
 simp only[stLso1,stLso]at h
 try simp[ints_inj,eSegs_inj,eStd_iff]at h
 grind

theorem unstLso (r:Std) (l:List Seg) (ms:List Int) (first:Int):unenc stLso1 (St.mk [(28,(vI (0:Int))),(27,(vI (↑(List.length l):Int))),(26,AV.sl (List.map eSeg l)),(10, .ptr 10 0 0),(8,AV.sl (List.map eI ms)),(6, .ptr 6 0 0),(3, .ptr
 3 0 0)] [(10,Blk.mk true 0 0 [[(vI (1:Int)),(vI first),(vI (0:Int)),AV.e0,(vB true)]]),(6,Blk.mk true 0 0 [[(vI (0:Int)),(vI (0:Int)),(vI (0:Int)),
 AV.e0,(vB false)]]),(3,Blk.mk true 0 0 [[(vS r.name),(vI r.scale),(vB r.sound),AV.sl (List.map eSmp r.samples)]])])=some (r,l,ms,first):=unenc_of stLso_inj (r,l,ms,first) rfl

noncomputable def outLso (r:Std) (l:List Seg) (ms:List Int) (first:Int):T (Ex×St):= .ret (.exit 0,⟨[(10, .ptr 10 0 0),(6, .ptr 6 0 0)],[(890,⟨false,116,7,((List.range l.length).map (F.entK r l ms)).map eEnt⟩),(10,⟨true,0,0,[[vI (F.tgtK ms l.length),vI first,vI 0, .own 890,vB true]]⟩),(6,⟨true,0,0,[[vI 0,vI 0,vI 0, .e0,vB false]]⟩)]⟩)

noncomputable def prlLso (r:Std) (l:List Seg) (ms:List Int) (first:Int):Bool:=decide (l.length≤1000)&&(decide (ms.length=l.length)&&(decide (r.name.size≤40)&&l.all fun s=>F.i64B s.number))

noncomputable def lpLso:Nat×(St→T (Ex×St)):=(6,lpo [28,27,26,10,8,6,3] [10,6,3] stLso1 (fun a=>prlLso a.1 a.2.1 a.2.2.1 a.2.2.2) fun a=>outLso a.1 a.2.1 a.2.2.1 a.2.2.2)

def stLq (r:Std) (l:List Seg) (ms:List Int) (first:Int) (t:Int) (es:List Ent) (k:Nat):St:=⟨[(28,vI k),(27,vI l.length),(26, .sl (l.map eSeg)),(10, .ptr 10 0 0),(8, .sl (ms.map eI)),(6, .ptr 6 0 0),(3, .ptr 3 0 0)],[(890,⟨false,116,7,es.map eEnt⟩),(10,⟨true,0,0,[[vI t,vI first,vI 0, .own 890,vB true]]⟩),(6,⟨true,0,0,[[vI 0,vI 0,vI 0, .e0,vB false]]⟩),(3,⟨true,0,0,[eStd r]⟩)]⟩

noncomputable def enLso:Env:=envH ty noG lks [oMls,oIta,oChk] [] [] [lpLso]

theorem enLso_ok:EnvOK Tryz.prog enLso:=by
 refine envH_ok lks_ok ty_ok ?_ ?_
 ·simp only[List.forall_mem_cons]
  exact⟨okMls,okIta,okChk,by simp⟩
 ·simp

theorem evLq (r:Std) (l:List Seg) (ms:List Int) (first:Int) (t:Int) (es:List Ent) (k:Nat):((exec enLso (loopN Tryz.f21 0) (stLq r l ms first t es k)).bind (lessX ([28,27,26,10,8,6,3],[890,10,6,3]) ([10,6],[890,10,6]) ([],[]))).val =
 (fun(q:List AV)=>(fun(q_1:Nat×Blk)=>bif decide ((↑k:Int)<(↑(List.length l):Int)) then Option.bind (unenc (List.map eSeg) (List.map eSeg l)) fun z=>bif decide (k<List.length z) then bif Nat.ble (ByteArray.size r.name+ByteArray.size (ByteArray.mk (Array.mk [(45:UInt8)]))) 9223372036854775807 then
 Option.bind (unenc encIta [(vI (List.getD z k (Seg.mk (0:Int) (0:Int) (0:Int) (0:Int) (0:Int) (0:Int) (0:Int))).number)]) fun z=>bif decide
 ((-9223372036854775808:Int)≤z)&&decide (z≤9223372036854775807) then bif Nat.ble (ByteArray.size (r.name++ByteArray.mk (Array.mk [(45:UInt8)])) +
 ByteArray.size (F.itoa z)) 9223372036854775807 then Option.bind (unenc (List.map eI) (List.map eI ms)) fun z_1=>bif decide (k<List.length z_1)
 then bif Nat.ble ((List.length (List.map eEnt es)+1)*88) 140737488355328&&true then Option.bind (unenc (List.map eI) (List.map eI ms)) fun
 (z_2:List Int)=>bif decide (k<List.length z_2) then some (Ex.normal,St.mk [(28,(vI (IntKind.i64.wrap ((↑k:Int)+1)))),(27,(vI (↑(List.length
 l):Int))),(26,AV.sl (List.map eSeg l)),(10, .ptr 10 0 0),(8,AV.sl (List.map eI ms)),(6, .ptr 6 0 0),(3, .ptr 3 0 0)] [(890,Blk.mk false 116 7 (List.map eEnt es
 ++ [[(vS (r.name++ByteArray.mk (Array.mk [(45:UInt8)])++F.itoa z)),(vI (List.getD z_1 k 0)),(vB false),(vI (-1:Int)),(vS ⟨⟨[]⟩⟩),
 (vB false),AV.sl []]])),(10,Blk.mk true 0 0 [(vI (max t (IntKind.i64.wrap (Int.tdiv (IntKind.i64.wrap (List.getD z_2 k 0+500)) (1000 :
 Int)))))::q]),q_1,(3,Blk.mk true 0 0 [[(vS r.name),(vI r.scale),(vB r.sound),AV.sl (List.map eSmp r.samples)]])]) else none else none else none else none else none
 else none else none else some (Ex.exit (0:Nat),St.mk [(10, .ptr 10 0 0),(6, .ptr 6 0 0)] [(890,Blk.mk false 116 7 (List.map eEnt es)),(10,Blk.mk true 0 0 [(vI t) ::
 q]),q_1])) (6,Blk.mk true 0 0 [[(vI 0),(vI 0),(vI 0),AV.e0,(vB false)]])) [(vI first),(vI 0), .own 890,(vB true)]:=(execR_bind _ _ _).symm.trans (by kernel_rfl)

theorem tgt_next {ms:List Int} {k:Nat} {m:Int} (h:ms[k]? = some m):F.tgtS (F.tgtK ms k) m=F.tgtK ms (k+1):=by
 unfold F.tgtK
 rw[List.take_add_one,h,List.foldl_append]
 rfl

theorem lpLq_ok (r:Std) (l:List Seg) (ms:List Int) (first:Int) (h1:l.length≤1000) (h2:ms.length=l.length) (h3:r.name.size≤40) (h4:(l.all fun s=>F.i64B s.number)=true) (k:Nat) (h5:k≤l.length) :
  ∀ex s',(outLso r l ms first).val=some (ex,s')→LoopOK enLso (loopN Tryz.f21 0) (stLq r l ms first (F.tgtK ms k) ((List.range k).map (F.entK r l ms)) k) ex s':=by
 refine loop_gen (st:=fun k:Nat=>stLq r l ms first (F.tgtK ms k) ((List.range k).map (F.entK r l ms)) k) (out:=fun _=>outLso r l ms first) (I:=fun k=>k≤l.length) (n:=([28,27,26,10,8,6,3],[890,10,6,3])) (e:=([10,6],[890,10,6])) (r:=([],[])) (fun k=>l.length - k) ?_ k h5
 clear h5 k
 intro k h5
 by_cases hlt:k<l.length
 ·right
  have hy:l[k]? = some l[k]:=List.getElem?_eq_getElem hlt
  have hm:ms[k]? = some ms[k]:=List.getElem?_eq_getElem (by omega)
  have hN:=next_at hlt (by omega:l.length≤9223372036854775807)
  have hi64:F.i64B l[k].number=true:=List.all_eq_true.1 h4 _ (List.getElem_mem hlt)
  have ht:=tgt_next hm
  have hnx:=range_next (F.entK r l ms) k
  have he:F.entK r l ms k=⟨r.name++⟨#[45]⟩++F.itoa l[k].number,ms[k],false, -1,⟨#[]⟩,false,[]⟩:=by
   unfold F.entK
   rw[getD_at hy,getD_at hm]
  generalize l[k]=y at hy hi64 he
  generalize ms[k]=m at hm ht he
  have hi2:=hi64
  unfold F.i64B at hi2
  simp only[Bool.and_eq_true,decide_eq_true_eq]at hi2
  have hz:=F.itoa_size hi2.1 hi2.2
  have s1:(⟨#[45]⟩:ByteArray).size=1:=rfl
  have b1:Nat.ble (r.name.size+(⟨#[45]⟩:ByteArray).size) 9223372036854775807=true:=ble_t (by omega)
  have b2:Nat.ble ((r.name++⟨#[45]⟩).size+(F.itoa y.number).size) 9223372036854775807=true:=ble_t (by rw[ByteArray.size_append];omega)
  have b3:Nat.ble ((k+1)*88) 140737488355328=true:=ble_t (by omega)
  have ea:((List.range k).map (F.entK r l ms)).length=k:=by rw[List.length_map,List.length_range]
  have dm:decide (k<ms.length)=true:=decide_eq_true (by omega)
  have ee : ∀es:List Ent,es.map eEnt++[[vS (r.name++⟨#[45]⟩++F.itoa y.number),vI m,vB false,vI (-1),vS ⟨#[]⟩,vB false,AV.sl []]]=(es++[F.entK r l ms k]).map eEnt:=fun es=>by rw[he,List.map_append];rfl
  refine⟨k+1,?_,rfl,hlt,by omega,rfl⟩
  rw[evLq]
  simp only[unIta,Option.bind_some,List.length_map,unInts,unSegs,cond_true,cast_lt hlt,decide_eq_true hlt,hN,getD_at hy,getD_at hm,b1,b2,b3,dm,decide_eq_true hi2.1,decide_eq_true hi2.2,Bool.and_self,ea]
  rw[ee,hnx]
  unfold F.tgtS at ht
  rw[ht]
  rfl
 ·left
  have hk:k=l.length:=by omega
  subst hk
  refine⟨_,?_,rfl,by simp,rfl⟩
  rw[evLq]
  simp only[unIta,Option.bind_some,List.length_map,unInts,unSegs,cond_false,Bool.and_true,cast_ge]
  try rfl

theorem lpLso_ok (r:Std) (l:List Seg) (ms:List Int) (first:Int) (hp:prlLso r l ms first=true) : ∀ex s',(outLso r l ms first).val=some (ex,s')→LoopOK enLso (loopN Tryz.f21 0) (stLso r l ms first) ex s':=by
 simp only[prlLso,Bool.and_eq_true,decide_eq_true_eq]at hp
 obtain⟨h1,h2,h3,h4⟩:=hp
 intro ex s' h
 refine .own 10 3 890 116 7 rfl ?_
 exact lpLq_ok r l ms first h1 h2 h3 h4 0 (Nat.zero_le _) ex s' h

theorem mils_len {l:List Seg} {sc:Int} (h:(F.mils l sc).2=0):(F.mils l sc).1.length=l.length∧l.length≤1000:=by
 unfold F.mils at h ⊢
 cases hs:F.noScale sc with
 | true=>rw[hs]at h;simp at h
 | false=>
  rw[hs]at h
  simp only[cond_false]at h ⊢
  by_cases hr:F.rowF l=0
  ·rw[bne0 hr]
   refine⟨?_,(F.rowF_ok hr).1⟩
   show(F.milL l sc).length=_
   unfold F.milL
   rw[List.length_map,List.length_range]
  ·rw[bne1 hr]at h;exact absurd h hr

theorem evLso (r:Std) (l:List Seg) (first:Int):(runF enLso false Tryz.f21 [.agg (eStd r), .sl (l.map eSeg),vI first]).val =
 Option.bind (unenc encMls [AV.sl (List.map eSeg l),(vI r.scale)]) fun z=>bif (F.mils z.1 z.2).snd != 0 then some (AV.tup [AV.agg [(vI 0),(vI 0),(vI 0),AV.sl [],(vB false)],(vI (F.mils z.1 z.2).snd)],[]) else Option.bind (unenc stLso1 (St.mk [(28,(vI 0)),(27,(vI
 (↑(List.length (List.map eSeg l)):Int))),(26,AV.sl (List.map eSeg l)),(10, .ptr 10 0 0),(8,AV.sl (List.map eI (F.mils z.1 z.2).fst)),(6, .ptr 6 0 0),(3, .ptr
 3 0 0)] [(10,Blk.mk true 0 0 [[(vI 1),(vI first),(vI 0),AV.e0,(vB true)]]),(6,Blk.mk true 0 0 [[(vI 0),(vI 0),(vI 0),
 AV.e0,(vB false)]]),(3,Blk.mk true 0 0 [[(vS r.name),(vI r.scale),(vB r.sound),AV.sl (List.map eSmp r.samples)]])])) fun z=>bif
 decide (List.length z.2.1≤1000)&&(decide (List.length z.2.2.1=List.length z.2.1)&&(decide (ByteArray.size z.1.name≤40) &&
 List.all z.2.1 fun(s:Seg)=>F.i64B s.number))&&true then Option.bind (unenc encChk [AV.agg [(vI (F.tgtK z.2.2.1 (List.length z.2.1))),(vI
 z.2.2.2),(vI 0),AV.sl (List.map eEnt (List.map (F.entK z.1 z.2.1 z.2.2.1) (List.range.loop (List.length z.2.1) []))),(vB true)]]) fun(z_1
 : Lst)=>some (AV.tup [AV.agg [(vI (F.tgtK z.2.2.1 (List.length z.2.1))),(vI z.2.2.2),(vI 0),AV.sl (List.map eEnt (List.map (F.entK z.1
 z.2.1 z.2.2.1) (List.range.loop (List.length z.2.1) []))),(vB true)],(vI (F.check z_1))],[]) else none:=(runFR_val).symm.trans (by kernel_rfl)

def encLso1 (r:Std) (l:List Seg) (first:Int):List AV:=[.agg (eStd r), .sl (l.map eSeg),vI first]

def encLso (a:Std×(List Seg)×Int):List AV:=encLso1 a.1 a.2.1 a.2.2

theorem encLso_inj (a a':Std×(List Seg)×Int) (h:encLso a=encLso a'):a=a':=by
 simp only[encLso,encLso1]at h
 try simp[eSegs_inj,eStd_iff]at h
 grind

theorem unLsow (r_name:ByteArray) (r_scale:Int) (r_sound:Bool) (r_samples:List Smp) (l:List Seg) (first:Int):unenc encLso ([AV.agg [(vS r_name),(vI r_scale),(vB r_sound),AV.sl (List.map eSmp r_samples)],AV.sl (List.map eSeg l),(vI first)])=some ((Std.mk r_name r_scale r_sound r_samples),l,first):=unenc_of encLso_inj ((Std.mk r_name r_scale r_sound r_samples),l,first) rfl

noncomputable def resLso1 (r:Std) (l:List Seg) (first:Int):AV×Heap:=(.tup [.agg (eLst (F.lsO r l first).1),vI (F.lsO r l first).2],[])

def preLso1 (r:Std) (l:List Seg) (first:Int):Bool:=decide (r.name.size≤40)&&l.all fun s=>F.i64B s.number

noncomputable def oLso:Orc:=orc 21 false encLso (fun a=>preLso1 a.1 a.2.1 a.2.2) fun a=>resLso1 a.1 a.2.1 a.2.2

theorem okLso:OrcOK Tryz.prog noG oLso:=by
 refine mk_ok Tryz.f21 (keep:=false) (by kernel_rfl) (by kernel_rfl) enLso_ok mixed (one_loop (x0:=loopN Tryz.f21 0) (by kernel_rfl) (lpo_ok ?_)) (by first | exact fun _ _=>⟨rfl,rfl⟩ | (intro h;cases h)) ?_
 ·rintro⟨r,l,ms,first⟩ hp
  exact lpLso_ok r l ms first hp
 rintro⟨r,l,first⟩ hpre hok
 show(runF enLso false _ (encLso1 _ _ _)).val=some (resLso1 _ _ _)
 unfold encLso1 resLso1
 rw[evLso]
 simp only[preLso1,Bool.and_eq_true,decide_eq_true_eq]at hpre
 obtain⟨h3,h4⟩:=hpre
 unfold F.lsO
 have z : ∀ms:List Int,unenc stLso1 (St.mk [(28,(vI 0)),(27,(vI (l.length:Int))),(26,AV.sl (List.map eSeg l)),(10, .ptr 10 0 0),(8,AV.sl (List.map eI ms)),(6, .ptr 6 0 0),(3, .ptr 3 0 0)] [(10,Blk.mk true 0 0 [[(vI 1),(vI first),(vI 0),AV.e0,(vB true)]]),(6,Blk.mk true 0 0 [[(vI 0),(vI 0),(vI 0),AV.e0,(vB false)]]),(3,Blk.mk true 0 0 [[(vS r.name),(vI r.scale),(vB r.sound),AV.sl (List.map eSmp r.samples)]])])=some (r,l,ms,first):=fun ms=>unstLso r l ms first
 simp only[unMls,unChkw,unstLso,Option.bind_some,List.length_map,Bool.and_true,List.length_map]
 by_cases hm:(F.mils l r.scale).2=0
 case neg=>rw[bne1 hm];rfl
 rw[bne0 hm]
 obtain⟨m1,m2⟩:=mils_len hm
 generalize (F.mils l r.scale).1=ms at *
 simp only[cond_false]
 try rw[z]
 simp only[decide_eq_true m1,decide_eq_true m2,decide_eq_true h3,h4,Bool.and_self,cond_true,range_loop]
 have u:unenc encChk [AV.agg [vI (F.tgtK ms l.length),vI first,vI 0,AV.sl (List.map eEnt ((List.range l.length).map (F.entK r l ms))),vB true]]=some (F.lstO r l ms first):=unChk (F.lstO r l ms first)
 try rw[u]
 rfl

end M

def F.langB (b:UInt8):Bool:=decide ((b.toNat:Int)=45)||F.letter b.toNat

def F.langL (l:List UInt8):Bool:=l.all F.langB

def F.lang (s:ByteArray):Bool:=F.langL (F.bs s) && !F.out s.size 2 8

def F.sndTw (s o:Snd):Bool:=F.seq o.group s.group&&F.seq o.name s.name

def F.sndDf (s o:Snd):Bool:=F.seq o.group s.group&&o.dflt

namespace M

def stLng2 (s:ByteArray) (k:Nat):St:=⟨[(6,vI k),(5,vI s.size),(0,vS s)],[]⟩

def stLng21 (a:ByteArray×Nat):St:=stLng2 a.1 a.2

theorem stLng2_inj (a a':ByteArray×Nat) (h:stLng21 a=stLng21 a'):a=a':=by
 simp only[stLng21,stLng2]at h
 try simp[]at h
 grind

theorem unstLng20 (s:ByteArray)  : unenc stLng21 (St.mk [(6,(vI (0:Int))),(5,(vI (↑(ByteArray.size s):Int))),(0,(vS s))] [])=some (s,0):=unenc_of stLng2_inj (s,0) rfl

def outLng2 (s:ByteArray) (k:Nat):T (Ex×St):= .ifB (F.langL ((F.bs s).drop k)) (.ret (.exit 0,⟨[(0,vS s)],[]⟩)) (.ret (.ret,⟨[(2,vB false)],[]⟩))

noncomputable def prlLng2 (s:ByteArray) (k:Nat):Bool:=decide (s.size≤9223372036854775807)&&decide (k≤s.size)

noncomputable def lpLng2:Nat×(St→T (Ex×St)):=(2,lpo [6,5,0] [] stLng21 (fun a=>prlLng2 a.1 a.2) fun a=>outLng2 a.1 a.2)

noncomputable def enLng2:Env:=envH ty noG lks [oOut] [] [] [lpLng2]

theorem enLng2_ok:EnvOK Tryz.prog enLng2:=by
 refine envH_ok lks_ok ty_ok ?_ ?_
 ·simp only[List.forall_mem_cons]
  exact⟨okOut,by simp⟩
 ·simp

theorem evLng2L (s:ByteArray) (k:Nat):((exec enLng2 (loopN Tryz.f70 0) (stLng2 s k)).bind (lessX ([6,5,0],[]) ([0],[]) ([2],[]))).val =
 bif decide ((↑k:Int)<(↑(ByteArray.size s):Int)) then Option.bind s[k]? fun z=>bif (↑(UInt8.toNat z):Int) != 45 then Option.bind s[k]? fun(z_1
 : UInt8)=>bif (↑(UInt8.toNat z):Int) != 45 && !decide ((↑(UInt8.toNat z_1):Int)<97) then Option.bind s[k]? fun z_2=>bif bif
 (↑(UInt8.toNat z):Int) != 45 then bif decide ((↑(UInt8.toNat z_1):Int)<97) then true else decide ((122:Int)<(↑(UInt8.toNat z_2):Int)) else
 false then some (Ex.ret,St.mk [(2,(vB false))] []) else some (Ex.normal,St.mk [(6,(vI (IntKind.i64.wrap ((↑k:Int)+1)))),(5,(vI (↑(ByteArray.size
 s):Int))),(0,(vS s))] []) else bif (↑(UInt8.toNat z):Int) != 45 && !decide ((↑(UInt8.toNat z_1):Int)<97) then none else bif bif (↑(UInt8.toNat z)
 : Int) != 45 then true else false then some (Ex.ret,St.mk [(2,(vB false))] []) else some (Ex.normal,St.mk [(6,(vI (IntKind.i64.wrap ((↑k:Int)+1)))),(5,(vI (↑(ByteArray.size s):Int))),(0,(vS s))] []) else bif (↑(UInt8.toNat z):Int) != 45 then none else bif (↑(UInt8.toNat z):Int) != 45
 then none else bif (↑(UInt8.toNat z):Int) != 45 then none else bif (↑(UInt8.toNat z):Int) != 45 then none else bif (↑(UInt8.toNat z):Int) != 45 then none else bif (↑(UInt8.toNat z):Int) != 45 then none else some (Ex.normal,St.mk [(6,(vI (IntKind.i64.wrap ((↑k:Int)+1)))),(5,
 (vI (↑(ByteArray.size s):Int))),(0,(vS s))] []) else some (Ex.exit (0:Nat),St.mk [(0,(vS s))] []):=by kernel_rfl

theorem lpLng2_ok (s:ByteArray) (k:Nat) (hp:prlLng2 s k=true) : ∀ex s',(outLng2 s k).val=some (ex,s')→LoopOK enLng2 (loopN Tryz.f70 0) (stLng2 s k) ex s':=by
 simp only[prlLng2,Bool.and_eq_true,decide_eq_true_eq]at hp
 refine loop_all (xs:=F.bs s) (st:=stLng2 s) (p:=F.langB) (n:=([6,5,0],[])) (e:=([0],[])) (r:=([2],[])) ?_ ⟨by simp,rfl⟩ ⟨by simp,rfl⟩ (fun _=>rfl) ?_ k (by rw[F.bs_len];exact hp.2)
 ·rw[evLng2L];rw[F.bs_len];simp
 ·intro k y hy
  have hk:k<s.size:=by rw[←F.bs_len];exact lt_at hy
  rw[evLng2L]
  rw[F.bs_get,hy]
  simp only[Option.bind_some,cond_true,cast_lt hk,next_at hk hp.1,F.langB,F.letter,stLng2]
  grind

theorem evLng2 (s:ByteArray):(runF enLng2 false Tryz.f70 [vS s]).val =
 Option.bind (unenc stLng21 (St.mk [(6,(vI 0)),(5,(vI (↑(ByteArray.size s):Int))),(0,(vS s))] [])) fun z=>bif decide (ByteArray.size
 z.1≤9223372036854775807)&&decide (z.2≤ByteArray.size z.1)&&true then bif F.langL (List.drop z.2 (F.bs z.1)) then Option.bind (unenc encOut [(vI
 (↑(ByteArray.size z.1):Int)),(vI 2),(vI 8)]) fun z=>some ((vB !F.out z.1 z.2.1 z.2.2),[]) else some ((vB false),[])
 else none:=by kernel_rfl

def encLng21 (s:ByteArray):List AV:=[vS s]

def encLng2 (a:ByteArray):List AV:=encLng21 a

theorem encLng2_inj (a a':ByteArray) (h:encLng2 a=encLng2 a'):a=a':=by
 simp only[encLng2,encLng21]at h
 try simp[]at h
 grind

theorem unLng2 (s:ByteArray):unenc encLng2 ([(vS s)])=some (s):=unenc_of encLng2_inj (s) rfl

def resLng21 (s:ByteArray):AV×Heap:=(vB (F.lang s),[])

def preLng21 (s:ByteArray):Bool:=true

noncomputable def oLng2:Orc:=orc 70 true encLng2 (fun a=>preLng21 a) fun a=>resLng21 a

theorem okLng2:OrcOK Tryz.prog noG oLng2:=by
 refine mk_ok Tryz.f70 (keep:=false) (by kernel_rfl) (by kernel_rfl) enLng2_ok mixed (one_loop (x0:=loopN Tryz.f70 0) (by kernel_rfl) (lpo_ok ?_)) (by first | exact fun _ _=>⟨rfl,rfl⟩ | (intro h;cases h)) ?_
 ·rintro⟨s,k⟩ hp
  exact lpLng2_ok s k hp
 rintro s hpre hok
 show(runF enLng2 false _ (encLng21 _)).val=some (resLng21 _)
 unfold encLng21 resLng21
 rw[evLng2]
 have hs:=okA_str (hok _ (List.mem_cons_self ..))
 simp only[unOut,unstLng20,Option.bind_some,cond_true,Bool.and_true,hs,F.lang,List.drop_zero,Nat.zero_le,decide_true]
 cases F.langL (F.bs s)<;>rfl

theorem evCl1 (o:Snd) (s:Snd):(runF en0 false Tryz.f69 [.agg (eSnd o), .pel (eSnd s) 0]).val =
 some ((vB (bif ByteArray.toList o.group==ByteArray.toList s.group then ByteArray.toList o.name==ByteArray.toList s.name else false)),[]):=by kernel_rfl

def encCl11 (o:Snd) (s:Snd):List AV:=[.agg (eSnd o), .pel (eSnd s) 0]

def encCl1 (a:Snd×Snd):List AV:=encCl11 a.1 a.2

theorem encCl1_inj (a a':Snd×Snd) (h:encCl1 a=encCl1 a'):a=a':=by
 simp only[encCl1,encCl11]at h
 try simp[eSnd_iff]at h
 grind

theorem unCl1w (o_group:ByteArray) (o_name:ByteArray) (o_lang:ByteArray) (o_dflt:Bool) (o_uri:ByteArray) (s_group:ByteArray) (s_name:ByteArray) (s_lang:ByteArray) (s_dflt:Bool) (s_uri:ByteArray):unenc encCl1 ([AV.agg [(vS o_group),(vS o_name),(vS o_lang),(vB o_dflt),(vS o_uri)],AV.pel [(vS s_group),(vS s_name),(vS s_lang),(vB s_dflt),(vS s_uri)] (0:Nat)])=some ((Snd.mk o_group o_name o_lang o_dflt o_uri),(Snd.mk s_group s_name s_lang s_dflt s_uri)):=unenc_of encCl1_inj ((Snd.mk o_group o_name o_lang o_dflt o_uri),(Snd.mk s_group s_name s_lang s_dflt s_uri)) rfl

def resCl11 (o:Snd) (s:Snd):AV×Heap:=(vB (F.sndTw s o),[])

def preCl11 (o:Snd) (s:Snd):Bool:=true

noncomputable def oCl1:Orc:=orc 69 true encCl1 (fun a=>preCl11 a.1 a.2) fun a=>resCl11 a.1 a.2

theorem okCl1:OrcOK Tryz.prog noG oCl1:=by
 refine mk_ok Tryz.f69 (keep:=false) (by kernel_rfl) (by kernel_rfl) en0_ok mixed (no_loops (by kernel_rfl)) (by first | exact fun _ _=>⟨rfl,rfl⟩ | (intro h;cases h)) ?_
 rintro⟨o,s⟩ hpre hok
 show(runF en0 false _ (encCl11 _ _)).val=some (resCl11 _ _)
 unfold encCl11 resCl11
 rw[evCl1]
 simp only[F.sndTw,F.seq]
 cases(o.group.toList==s.group.toList)<;>rfl

theorem evCl2 (o:Snd) (s:Snd):(runF en0 false Tryz.f71 [.agg (eSnd o), .pel (eSnd s) 0]).val =
 some ((vB (bif ByteArray.toList o.group==ByteArray.toList s.group then o.dflt else false)),[]):=by kernel_rfl

def encCl21 (o:Snd) (s:Snd):List AV:=[.agg (eSnd o), .pel (eSnd s) 0]

def encCl2 (a:Snd×Snd):List AV:=encCl21 a.1 a.2

theorem encCl2_inj (a a':Snd×Snd) (h:encCl2 a=encCl2 a'):a=a':=by
 simp only[encCl2,encCl21]at h
 try simp[eSnd_iff]at h
 grind

theorem unCl2w (o_group:ByteArray) (o_name:ByteArray) (o_lang:ByteArray) (o_dflt:Bool) (o_uri:ByteArray) (s_group:ByteArray) (s_name:ByteArray) (s_lang:ByteArray) (s_dflt:Bool) (s_uri:ByteArray):unenc encCl2 ([AV.agg [(vS o_group),(vS o_name),(vS o_lang),(vB o_dflt),(vS o_uri)],AV.pel [(vS s_group),(vS s_name),(vS s_lang),(vB s_dflt),(vS s_uri)] (0:Nat)])=some ((Snd.mk o_group o_name o_lang o_dflt o_uri),(Snd.mk s_group s_name s_lang s_dflt s_uri)):=unenc_of encCl2_inj ((Snd.mk o_group o_name o_lang o_dflt o_uri),(Snd.mk s_group s_name s_lang s_dflt s_uri)) rfl

def resCl21 (o:Snd) (s:Snd):AV×Heap:=(vB (F.sndDf s o),[])

def preCl21 (o:Snd) (s:Snd):Bool:=true

noncomputable def oCl2:Orc:=orc 71 true encCl2 (fun a=>preCl21 a.1 a.2) fun a=>resCl21 a.1 a.2

theorem okCl2:OrcOK Tryz.prog noG oCl2:=by
 refine mk_ok Tryz.f71 (keep:=false) (by kernel_rfl) (by kernel_rfl) en0_ok mixed (no_loops (by kernel_rfl)) (by first | exact fun _ _=>⟨rfl,rfl⟩ | (intro h;cases h)) ?_
 rintro⟨o,s⟩ hpre hok
 show(runF en0 false _ (encCl21 _ _)).val=some (resCl21 _ _)
 unfold encCl21 resCl21
 rw[evCl2]
 simp only[F.sndDf,F.seq]
 cases(o.group.toList==s.group.toList)<;>rfl

theorem evCl3 (o:Strm) (s:Strm):(runF en0 false Tryz.f74 [.agg (eStrm o), .pel (eStrm s) 0]).val =
 some ((vB (ByteArray.toList o.name==ByteArray.toList s.name)),[]):=by kernel_rfl

def encCl31 (o:Strm) (s:Strm):List AV:=[.agg (eStrm o), .pel (eStrm s) 0]

def encCl3 (a:Strm×Strm):List AV:=encCl31 a.1 a.2

theorem encCl3_inj (a a':Strm×Strm) (h:encCl3 a=encCl3 a'):a=a':=by
 simp only[encCl3,encCl31]at h
 try simp[eStrm_iff]at h
 grind

theorem unCl3w (o_name:ByteArray) (o_uri:ByteArray) (o_mean:Int) (o_peak:Int) (o_width:Int) (o_height:Int) (o_sound:ByteArray) (s_name:ByteArray) (s_uri:ByteArray) (s_mean:Int) (s_peak:Int) (s_width:Int) (s_height:Int) (s_sound:ByteArray):unenc encCl3 ([AV.agg [(vS o_name),(vS o_uri),(vI o_mean),(vI o_peak),(vI o_width),(vI o_height),(vS o_sound)],AV.pel [(vS s_name),(vS s_uri),(vI s_mean),(vI s_peak),(vI
 s_width),(vI s_height),(vS s_sound)] (0:Nat)])=some ((Strm.mk o_name o_uri o_mean o_peak o_width o_height o_sound),(Strm.mk s_name s_uri s_mean s_peak s_width s_height s_sound)):=unenc_of encCl3_inj ((Strm.mk o_name o_uri o_mean o_peak o_width o_height o_sound),(Strm.mk s_name s_uri s_mean s_peak s_width s_height s_sound)) rfl

def resCl31 (o:Strm) (s:Strm):AV×Heap:=(vB (F.seq o.name s.name),[])

def preCl31 (o:Strm) (s:Strm):Bool:=true

noncomputable def oCl3:Orc:=orc 74 true encCl3 (fun a=>preCl31 a.1 a.2) fun a=>resCl31 a.1 a.2

theorem okCl3:OrcOK Tryz.prog noG oCl3:=by
 refine mk_ok Tryz.f74 (keep:=false) (by kernel_rfl) (by kernel_rfl) en0_ok mixed (no_loops (by kernel_rfl)) (by first | exact fun _ _=>⟨rfl,rfl⟩ | (intro h;cases h)) ?_
 rintro⟨o,s⟩ hpre hok
 show(runF en0 false _ (encCl31 _ _)).val=some (resCl31 _ _)
 unfold encCl31 resCl31
 rw[evCl3]
 simp only[F.seq]
 done

theorem evCl4 (o:Snd) (s:Strm):(runF en0 false Tryz.f75 [.agg (eSnd o), .pel (eStrm s) 0]).val =
 some ((vB (ByteArray.toList o.group==ByteArray.toList s.sound)),[]):=by kernel_rfl

def encCl41 (o:Snd) (s:Strm):List AV:=[.agg (eSnd o), .pel (eStrm s) 0]

def encCl4 (a:Snd×Strm):List AV:=encCl41 a.1 a.2

theorem encCl4_inj (a a':Snd×Strm) (h:encCl4 a=encCl4 a'):a=a':=by
 simp only[encCl4,encCl41]at h
 try simp[eSnd_iff,eStrm_iff]at h
 grind

theorem unCl4w (o_group:ByteArray) (o_name:ByteArray) (o_lang:ByteArray) (o_dflt:Bool) (o_uri:ByteArray) (s_name:ByteArray) (s_uri:ByteArray) (s_mean:Int) (s_peak:Int) (s_width:Int) (s_height:Int) (s_sound:ByteArray):unenc encCl4 ([AV.agg [(vS o_group),(vS o_name),(vS o_lang),(vB o_dflt),(vS o_uri)],AV.pel [(vS s_name),(vS s_uri),(vI s_mean),(vI s_peak),(vI s_width),(vI s_height),(vS
 s_sound)] (0:Nat)])=some ((Snd.mk o_group o_name o_lang o_dflt o_uri),(Strm.mk s_name s_uri s_mean s_peak s_width s_height s_sound)):=unenc_of encCl4_inj ((Snd.mk o_group o_name o_lang o_dflt o_uri),(Strm.mk s_name s_uri s_mean s_peak s_width s_height s_sound)) rfl

def resCl41 (o:Snd) (s:Strm):AV×Heap:=(vB (F.seq o.group s.sound),[])

def preCl41 (o:Snd) (s:Strm):Bool:=true

noncomputable def oCl4:Orc:=orc 75 true encCl4 (fun a=>preCl41 a.1 a.2) fun a=>resCl41 a.1 a.2

theorem okCl4:OrcOK Tryz.prog noG oCl4:=by
 refine mk_ok Tryz.f75 (keep:=false) (by kernel_rfl) (by kernel_rfl) en0_ok mixed (no_loops (by kernel_rfl)) (by first | exact fun _ _=>⟨rfl,rfl⟩ | (intro h;cases h)) ?_
 rintro⟨o,s⟩ hpre hok
 show(runF en0 false _ (encCl41 _ _)).val=some (resCl41 _ _)
 unfold encCl41 resCl41
 rw[evCl4]
 simp only[F.seq]
 done

end M

def F.sndF (s:Snd) (l:List Snd):Int:=
 bif !F.isName s.group || !F.isName s.name then 5 else bif l.any (F.sndTw s) then 7 else bif !F.lang s.lang then 3 else bif s.dflt&&l.any (F.sndDf s) then 12 else F.uriFault s.uri

def F.nonE (s:ByteArray):Bool:= !F.seq s ⟨#[]⟩

def F.strmF (s:Strm) (l:List Strm) (m:List Snd):Int:=
 bif !F.isName s.name then 5 else bif l.any (fun o=>F.seq o.name s.name) then 7 else bif F.uriFault s.uri != 0 then 3 else
 bif F.out s.mean 1 10000000000||F.out s.peak s.mean 10000000000 then 1 else bif F.out s.width 0 20000||F.out s.height 0 20000||((s.width==0) != (s.height==0)) then 1 else
 bif F.nonE s.sound && !m.any (fun o=>F.seq o.group s.sound) then 5 else 0

namespace M

def stI1 (l:List Snd) (s:Snd) (k:Nat):St:=⟨[(8,vI k),(7,vI l.length),(1, .fn 69 [.pel (eSnd s) 0]),(0, .sl (l.map eSnd))],[]⟩

def stI11 (a:(List Snd)×Snd×Nat):St:=stI1 a.1 a.2.1 a.2.2

theorem stI1_inj (a a':(List Snd)×Snd×Nat) (h:stI11 a=stI11 a'):a=a':=by
 simp only[stI11,stI1]at h
 try simp[eSnds_inj,eSnd_iff]at h
 grind

theorem unstI10 (l:List Snd) (s:Snd)  : unenc stI11 (St.mk [(8,(vI (0:Int))),(7,(vI (↑(List.length l):Int))),(1,AV.fn (69:FuncId) [AV.pel [(vS s.group),(vS s.name),(vS s.lang),(vB s.dflt),(vS s.uri)] (0 :
 Nat)]),(0,AV.sl (List.map eSnd l))] [])=some (l,s,0):=unenc_of stI1_inj (l,s,0) rfl

def outI1 (l:List Snd) (s:Snd) (k:Nat):T (Ex×St):= .ifB (F.found (F.findI (F.sndTw s) k (l.drop k))) (.ret (.ret,⟨[(4,vI ((F.got (F.findI (F.sndTw s) k (l.drop k)) 0:Nat):Int))],[]⟩)) (.ret (.exit 0,⟨[],[]⟩))

noncomputable def prlI1 (l:List Snd) (s:Snd) (k:Nat):Bool:=decide (l.length≤9223372036854775807)&&decide (k≤l.length)

noncomputable def lpI1:Nat×(St→T (Ex×St)):=(2,lpo [8,7,1,0] [] stI11 (fun a=>prlI1 a.1 a.2.1 a.2.2) fun a=>outI1 a.1 a.2.1 a.2.2)

noncomputable def enI1:Env:=envH ty noG lks [oCl1] [] [] [lpI1]

theorem enI1_ok:EnvOK Tryz.prog enI1:=by
 refine envH_ok lks_ok ty_ok ?_ ?_
 ·simp only[List.forall_mem_cons]
  exact⟨okCl1,by simp⟩
 ·simp

theorem evI1L (l:List Snd) (s:Snd) (k:Nat):((exec enI1 (loopN Tryz.f118 0) (stI1 l s k)).bind (lessX ([8,7,1,0],[]) ([],[]) ([4],[]))).val =
 bif decide ((↑k:Int)<(↑(List.length l):Int)) then Option.bind (unenc (List.map eSnd) (List.map eSnd l)) fun z=>bif decide (k<List.length z) then
 Option.bind (unenc encCl1 [AV.agg [(vS (List.getD z k (Snd.mk (ByteArray.mk (Array.mk [])) (ByteArray.mk (Array.mk [])) (ByteArray.mk (Array.mk [])) false (ByteArray.mk
 (Array.mk [])))).group),(vS (List.getD z k (Snd.mk (ByteArray.mk (Array.mk [])) (ByteArray.mk (Array.mk [])) (ByteArray.mk (Array.mk [])) false (ByteArray.mk (Array.mk
 [])))).name),(vS (List.getD z k (Snd.mk (ByteArray.mk (Array.mk [])) (ByteArray.mk (Array.mk [])) (ByteArray.mk (Array.mk [])) false (ByteArray.mk (Array.mk [])))).lang),
 (vB (List.getD z k (Snd.mk (ByteArray.mk (Array.mk [])) (ByteArray.mk (Array.mk [])) (ByteArray.mk (Array.mk [])) false (ByteArray.mk (Array.mk [])))).dflt),(vS
 (List.getD z k (Snd.mk (ByteArray.mk (Array.mk [])) (ByteArray.mk (Array.mk [])) (ByteArray.mk (Array.mk [])) false (ByteArray.mk (Array.mk [])))).uri)],AV.pel [(vS
 s.group),(vS s.name),(vS s.lang),(vB s.dflt),(vS s.uri)] (0:Nat)]) fun z=>bif F.sndTw z.2 z.1 then some (Ex.ret,St.mk [(4,(vI (↑k:Int)))] [])
 else some (Ex.normal,St.mk [(8,(vI (IntKind.i64.wrap ((↑k:Int)+1)))),(7,(vI (↑(List.length l):Int))),(1,AV.fn (69:FuncId) [AV.pel [(vS
 s.group),(vS s.name),(vS s.lang),(vB s.dflt),(vS s.uri)] (0:Nat)]),(0,AV.sl (List.map eSnd l))] []) else none else some (Ex.exit (0:Nat),St.mk [] []):=by kernel_rfl

theorem lpI1_ok (l:List Snd) (s:Snd) (k:Nat) (hp:prlI1 l s k=true) : ∀ex s',(outI1 l s k).val=some (ex,s')→LoopOK enI1 (loopN Tryz.f118 0) (stI1 l s k) ex s':=by
 simp only[prlI1,Bool.and_eq_true,decide_eq_true_eq]at hp
 refine loop_gen (st:=stI1 l s) (out:=outI1 l s) (I:=fun k=>k≤l.length) (n:=([8,7,1,0],[])) (e:=([],[])) (r:=([4],[])) (fun k=>l.length - k) ?_ k hp.2
 intro k hk
 by_cases hlt:k<l.length
 ·have hy:l[k]? = some l[k]:=List.getElem?_eq_getElem hlt
  generalize l[k]=y at hy
  have hd:=drop_at hy
  cases hc:(F.sndTw s) y
  ·right
   refine⟨k+1,?_,rfl,hlt,by omega,?_⟩
   ·rw[evI1L]
    simp only[unCl1w,etaSnd,Option.bind_some,unSnds,cond_true,cond_false,cast_lt hlt,decide_eq_true hlt,next_at hlt hp.1,getD_at hy,hc,stI1]
    try rfl
   ·simp only[outI1,hd,F.findI,hc,cond_false]
  ·left
   refine⟨(.ret,⟨[(4,vI k)],[]⟩),?_,?_,by simp,rfl⟩
   ·rw[evI1L]
    simp only[unCl1w,etaSnd,Option.bind_some,unSnds,cond_true,cast_lt hlt,decide_eq_true hlt,next_at hlt hp.1,getD_at hy,hc]
   ·simp only[outI1,hd,F.findI,hc,cond_true,F.found,F.got]
    rfl
 ·have:k=l.length:=by omega
  subst this
  left
  refine⟨(.exit 0,⟨[],[]⟩),?_,?_,by simp,rfl⟩
  ·rw[evI1L];simp
  ·simp[outI1,F.findI,F.found,T.val]

theorem evI1 (l:List Snd) (s:Snd):(runF enI1 false Tryz.f118 [.sl (l.map eSnd), .fn 69 [.pel (eSnd s) 0]]).val =
 Option.bind (unenc stI11 (St.mk [(8,(vI 0)),(7,(vI (↑(List.length (List.map eSnd l)):Int))),(1,AV.fn (69:FuncId) [AV.pel [(vS s.group),(vS s.name),(vS
 s.lang),(vB s.dflt),(vS s.uri)] (0:Nat)]),(0,AV.sl (List.map eSnd l))] [])) fun z=>bif decide (List.length z.1≤9223372036854775807)&&decide (z.2.2≤List.length z.1)&&true then bif F.found (F.findI (F.sndTw z.2.1) z.2.2 (List.drop z.2.2 z.1)) then some ((vI (↑(F.got
 (F.findI (F.sndTw z.2.1) z.2.2 (List.drop z.2.2 z.1)) (0:Nat)):Int)),[]) else some ((vI (-1:Int)),[]) else none:=by kernel_rfl

def encI11 (l:List Snd) (s:Snd):List AV:=[.sl (l.map eSnd), .fn 69 [.pel (eSnd s) 0]]

def encI1 (a:(List Snd)×Snd):List AV:=encI11 a.1 a.2

theorem encI1_inj (a a':(List Snd)×Snd) (h:encI1 a=encI1 a'):a=a':=by
 simp only[encI1,encI11]at h
 try simp[eSnds_inj,eSnd_iff]at h
 grind

theorem unI1w (l:List Snd) (s_group:ByteArray) (s_name:ByteArray) (s_lang:ByteArray) (s_dflt:Bool) (s_uri:ByteArray):unenc encI1 ([AV.sl (List.map eSnd l),AV.fn (69:FuncId) [AV.pel [(vS s_group),(vS s_name),(vS s_lang),(vB s_dflt),(vS s_uri)] (0:Nat)]])=some (l,(Snd.mk s_group s_name s_lang s_dflt s_uri)):=unenc_of encI1_inj (l,(Snd.mk s_group s_name s_lang s_dflt s_uri)) rfl

def resI11 (l:List Snd) (s:Snd):AV×Heap:=(vI (F.idxI (F.findI (F.sndTw s) 0 l)),[])

def preI11 (l:List Snd) (s:Snd):Bool:=true

noncomputable def oI1:Orc:=orc 118 true encI1 (fun a=>preI11 a.1 a.2) fun a=>resI11 a.1 a.2

theorem okI1:OrcOK Tryz.prog noG oI1:=by
 refine mk_ok Tryz.f118 (keep:=false) (by kernel_rfl) (by kernel_rfl) enI1_ok mixed (one_loop (x0:=loopN Tryz.f118 0) (by kernel_rfl) (lpo_ok ?_)) (by first | exact fun _ _=>⟨rfl,rfl⟩ | (intro h;cases h)) ?_
 ·rintro⟨l,s,k⟩ hp
  exact lpI1_ok l s k hp
 rintro⟨l,s⟩ hpre hok
 show(runF enI1 false _ (encI11 _ _)).val=some (resI11 _ _)
 unfold encI11 resI11
 rw[evI1]
 have hx:l.length≤9223372036854775807:=by simpa using(okA_sl (hok _ (List.mem_cons_self ..))).1
 simp only[unstI10,Option.bind_some,List.length_map,cond_true,Bool.and_true,hx,List.drop_zero,Nat.zero_le,decide_true,F.idxI]
 cases F.found (F.findI (F.sndTw s) 0 l)<;>rfl

noncomputable def enI1C:Env:=envH ty noG lks [oI1] [] [] []

theorem enI1C_ok:EnvOK Tryz.prog enI1C:=by
 refine envH_ok lks_ok ty_ok ?_ ?_
 ·simp only[List.forall_mem_cons]
  exact⟨okI1,by simp⟩
 ·simp

theorem evI1C (l:List Snd) (s:Snd):(runF enI1C false Tryz.f68 [.sl (l.map eSnd), .fn 69 [.pel (eSnd s) 0]]).val =
 Option.bind (unenc encI1 [AV.sl (List.map eSnd l),AV.fn (69:FuncId) [AV.pel [(vS s.group),(vS s.name),(vS s.lang),(vB s.dflt),(vS s.uri)] (0:Nat)]]) fun z=>some ((vB (decide ((0:Int)≤F.idxI (F.findI (F.sndTw z.2) (0:Nat) z.1)))),[]):=by kernel_rfl

def encI1C1 (l:List Snd) (s:Snd):List AV:=[.sl (l.map eSnd), .fn 69 [.pel (eSnd s) 0]]

def encI1C (a:(List Snd)×Snd):List AV:=encI1C1 a.1 a.2

theorem encI1C_inj (a a':(List Snd)×Snd) (h:encI1C a=encI1C a'):a=a':=by
 simp only[encI1C,encI1C1]at h
 try simp[eSnds_inj,eSnd_iff]at h
 grind

def resI1C1 (l:List Snd) (s:Snd):AV×Heap:=(vB (l.any (F.sndTw s)),[])

def preI1C1 (l:List Snd) (s:Snd):Bool:=true

noncomputable def oI1C:Orc:=orc 68 true encI1C (fun a=>preI1C1 a.1 a.2) fun a=>resI1C1 a.1 a.2

theorem okI1C:OrcOK Tryz.prog noG oI1C:=by
 refine mk_ok Tryz.f68 (keep:=false) (by kernel_rfl) (by kernel_rfl) enI1C_ok mixed (no_loops (by kernel_rfl)) (by first | exact fun _ _=>⟨rfl,rfl⟩ | (intro h;cases h)) ?_
 rintro⟨l,s⟩ hpre hok
 show(runF enI1C false _ (encI1C1 _ _)).val=some (resI1C1 _ _)
 unfold encI1C1 resI1C1
 rw[evI1C]
 simp only[unI1w,etaSnd,Option.bind_some,F.idx_any]

def stI2 (l:List Snd) (s:Snd) (k:Nat):St:=⟨[(8,vI k),(7,vI l.length),(1, .fn 71 [.pel (eSnd s) 0]),(0, .sl (l.map eSnd))],[]⟩

def stI21 (a:(List Snd)×Snd×Nat):St:=stI2 a.1 a.2.1 a.2.2

theorem stI2_inj (a a':(List Snd)×Snd×Nat) (h:stI21 a=stI21 a'):a=a':=by
 simp only[stI21,stI2]at h
 try simp[eSnds_inj,eSnd_iff]at h
 grind

theorem unstI20 (l:List Snd) (s:Snd)  : unenc stI21 (St.mk [(8,(vI (0:Int))),(7,(vI (↑(List.length l):Int))),(1,AV.fn (71:FuncId) [AV.pel [(vS s.group),(vS s.name),(vS s.lang),(vB s.dflt),(vS s.uri)] (0 :
 Nat)]),(0,AV.sl (List.map eSnd l))] [])=some (l,s,0):=unenc_of stI2_inj (l,s,0) rfl

def outI2 (l:List Snd) (s:Snd) (k:Nat):T (Ex×St):= .ifB (F.found (F.findI (F.sndDf s) k (l.drop k))) (.ret (.ret,⟨[(4,vI ((F.got (F.findI (F.sndDf s) k (l.drop k)) 0:Nat):Int))],[]⟩)) (.ret (.exit 0,⟨[],[]⟩))

noncomputable def prlI2 (l:List Snd) (s:Snd) (k:Nat):Bool:=decide (l.length≤9223372036854775807)&&decide (k≤l.length)

noncomputable def lpI2:Nat×(St→T (Ex×St)):=(2,lpo [8,7,1,0] [] stI21 (fun a=>prlI2 a.1 a.2.1 a.2.2) fun a=>outI2 a.1 a.2.1 a.2.2)

noncomputable def enI2:Env:=envH ty noG lks [oCl2] [] [] [lpI2]

theorem enI2_ok:EnvOK Tryz.prog enI2:=by
 refine envH_ok lks_ok ty_ok ?_ ?_
 ·simp only[List.forall_mem_cons]
  exact⟨okCl2,by simp⟩
 ·simp

theorem evI2L (l:List Snd) (s:Snd) (k:Nat):((exec enI2 (loopN Tryz.f118 0) (stI2 l s k)).bind (lessX ([8,7,1,0],[]) ([],[]) ([4],[]))).val =
 bif decide ((↑k:Int)<(↑(List.length l):Int)) then Option.bind (unenc (List.map eSnd) (List.map eSnd l)) fun z=>bif decide (k<List.length z) then
 Option.bind (unenc encCl2 [AV.agg [(vS (List.getD z k (Snd.mk (ByteArray.mk (Array.mk [])) (ByteArray.mk (Array.mk [])) (ByteArray.mk (Array.mk [])) false (ByteArray.mk
 (Array.mk [])))).group),(vS (List.getD z k (Snd.mk (ByteArray.mk (Array.mk [])) (ByteArray.mk (Array.mk [])) (ByteArray.mk (Array.mk [])) false (ByteArray.mk (Array.mk
 [])))).name),(vS (List.getD z k (Snd.mk (ByteArray.mk (Array.mk [])) (ByteArray.mk (Array.mk [])) (ByteArray.mk (Array.mk [])) false (ByteArray.mk (Array.mk [])))).lang),
 (vB (List.getD z k (Snd.mk (ByteArray.mk (Array.mk [])) (ByteArray.mk (Array.mk [])) (ByteArray.mk (Array.mk [])) false (ByteArray.mk (Array.mk [])))).dflt),(vS
 (List.getD z k (Snd.mk (ByteArray.mk (Array.mk [])) (ByteArray.mk (Array.mk [])) (ByteArray.mk (Array.mk [])) false (ByteArray.mk (Array.mk [])))).uri)],AV.pel [(vS
 s.group),(vS s.name),(vS s.lang),(vB s.dflt),(vS s.uri)] (0:Nat)]) fun z=>bif F.sndDf z.2 z.1 then some (Ex.ret,St.mk [(4,(vI (↑k:Int)))] [])
 else some (Ex.normal,St.mk [(8,(vI (IntKind.i64.wrap ((↑k:Int)+1)))),(7,(vI (↑(List.length l):Int))),(1,AV.fn (71:FuncId) [AV.pel [(vS
 s.group),(vS s.name),(vS s.lang),(vB s.dflt),(vS s.uri)] (0:Nat)]),(0,AV.sl (List.map eSnd l))] []) else none else some (Ex.exit (0:Nat),St.mk [] []):=by kernel_rfl

theorem lpI2_ok (l:List Snd) (s:Snd) (k:Nat) (hp:prlI2 l s k=true) : ∀ex s',(outI2 l s k).val=some (ex,s')→LoopOK enI2 (loopN Tryz.f118 0) (stI2 l s k) ex s':=by
 simp only[prlI2,Bool.and_eq_true,decide_eq_true_eq]at hp
 refine loop_gen (st:=stI2 l s) (out:=outI2 l s) (I:=fun k=>k≤l.length) (n:=([8,7,1,0],[])) (e:=([],[])) (r:=([4],[])) (fun k=>l.length - k) ?_ k hp.2
 intro k hk
 by_cases hlt:k<l.length
 ·have hy:l[k]? = some l[k]:=List.getElem?_eq_getElem hlt
  generalize l[k]=y at hy
  have hd:=drop_at hy
  cases hc:(F.sndDf s) y
  ·right
   refine⟨k+1,?_,rfl,hlt,by omega,?_⟩
   ·rw[evI2L]
    simp only[unCl2w,etaSnd,Option.bind_some,unSnds,cond_true,cond_false,cast_lt hlt,decide_eq_true hlt,next_at hlt hp.1,getD_at hy,hc,stI2]
    try rfl
   ·simp only[outI2,hd,F.findI,hc,cond_false]
  ·left
   refine⟨(.ret,⟨[(4,vI k)],[]⟩),?_,?_,by simp,rfl⟩
   ·rw[evI2L]
    simp only[unCl2w,etaSnd,Option.bind_some,unSnds,cond_true,cast_lt hlt,decide_eq_true hlt,next_at hlt hp.1,getD_at hy,hc]
   ·simp only[outI2,hd,F.findI,hc,cond_true,F.found,F.got]
    rfl
 ·have:k=l.length:=by omega
  subst this
  left
  refine⟨(.exit 0,⟨[],[]⟩),?_,?_,by simp,rfl⟩
  ·rw[evI2L];simp
  ·simp[outI2,F.findI,F.found,T.val]

theorem evI2 (l:List Snd) (s:Snd):(runF enI2 false Tryz.f118 [.sl (l.map eSnd), .fn 71 [.pel (eSnd s) 0]]).val =
 Option.bind (unenc stI21 (St.mk [(8,(vI 0)),(7,(vI (↑(List.length (List.map eSnd l)):Int))),(1,AV.fn (71:FuncId) [AV.pel [(vS s.group),(vS s.name),(vS
 s.lang),(vB s.dflt),(vS s.uri)] (0:Nat)]),(0,AV.sl (List.map eSnd l))] [])) fun z=>bif decide (List.length z.1≤9223372036854775807)&&decide (z.2.2≤List.length z.1)&&true then bif F.found (F.findI (F.sndDf z.2.1) z.2.2 (List.drop z.2.2 z.1)) then some ((vI (↑(F.got
 (F.findI (F.sndDf z.2.1) z.2.2 (List.drop z.2.2 z.1)) (0:Nat)):Int)),[]) else some ((vI (-1:Int)),[]) else none:=by kernel_rfl

def encI21 (l:List Snd) (s:Snd):List AV:=[.sl (l.map eSnd), .fn 71 [.pel (eSnd s) 0]]

def encI2 (a:(List Snd)×Snd):List AV:=encI21 a.1 a.2

theorem encI2_inj (a a':(List Snd)×Snd) (h:encI2 a=encI2 a'):a=a':=by
 simp only[encI2,encI21]at h
 try simp[eSnds_inj,eSnd_iff]at h
 grind

theorem unI2w (l:List Snd) (s_group:ByteArray) (s_name:ByteArray) (s_lang:ByteArray) (s_dflt:Bool) (s_uri:ByteArray):unenc encI2 ([AV.sl (List.map eSnd l),AV.fn (71:FuncId) [AV.pel [(vS s_group),(vS s_name),(vS s_lang),(vB s_dflt),(vS s_uri)] (0:Nat)]])=some (l,(Snd.mk s_group s_name s_lang s_dflt s_uri)):=unenc_of encI2_inj (l,(Snd.mk s_group s_name s_lang s_dflt s_uri)) rfl

def resI21 (l:List Snd) (s:Snd):AV×Heap:=(vI (F.idxI (F.findI (F.sndDf s) 0 l)),[])

def preI21 (l:List Snd) (s:Snd):Bool:=true

noncomputable def oI2:Orc:=orc 118 true encI2 (fun a=>preI21 a.1 a.2) fun a=>resI21 a.1 a.2

theorem okI2:OrcOK Tryz.prog noG oI2:=by
 refine mk_ok Tryz.f118 (keep:=false) (by kernel_rfl) (by kernel_rfl) enI2_ok mixed (one_loop (x0:=loopN Tryz.f118 0) (by kernel_rfl) (lpo_ok ?_)) (by first | exact fun _ _=>⟨rfl,rfl⟩ | (intro h;cases h)) ?_
 ·rintro⟨l,s,k⟩ hp
  exact lpI2_ok l s k hp
 rintro⟨l,s⟩ hpre hok
 show(runF enI2 false _ (encI21 _ _)).val=some (resI21 _ _)
 unfold encI21 resI21
 rw[evI2]
 have hx:l.length≤9223372036854775807:=by simpa using(okA_sl (hok _ (List.mem_cons_self ..))).1
 simp only[unstI20,Option.bind_some,List.length_map,cond_true,Bool.and_true,hx,List.drop_zero,Nat.zero_le,decide_true,F.idxI]
 cases F.found (F.findI (F.sndDf s) 0 l)<;>rfl

noncomputable def enI2C:Env:=envH ty noG lks [oI2] [] [] []

theorem enI2C_ok:EnvOK Tryz.prog enI2C:=by
 refine envH_ok lks_ok ty_ok ?_ ?_
 ·simp only[List.forall_mem_cons]
  exact⟨okI2,by simp⟩
 ·simp

theorem evI2C (l:List Snd) (s:Snd):(runF enI2C false Tryz.f68 [.sl (l.map eSnd), .fn 71 [.pel (eSnd s) 0]]).val =
 Option.bind (unenc encI2 [AV.sl (List.map eSnd l),AV.fn (71:FuncId) [AV.pel [(vS s.group),(vS s.name),(vS s.lang),(vB s.dflt),(vS s.uri)] (0:Nat)]]) fun z=>some ((vB (decide ((0:Int)≤F.idxI (F.findI (F.sndDf z.2) (0:Nat) z.1)))),[]):=by kernel_rfl

def encI2C1 (l:List Snd) (s:Snd):List AV:=[.sl (l.map eSnd), .fn 71 [.pel (eSnd s) 0]]

def encI2C (a:(List Snd)×Snd):List AV:=encI2C1 a.1 a.2

theorem encI2C_inj (a a':(List Snd)×Snd) (h:encI2C a=encI2C a'):a=a':=by
 simp only[encI2C,encI2C1]at h
 try simp[eSnds_inj,eSnd_iff]at h
 grind

def resI2C1 (l:List Snd) (s:Snd):AV×Heap:=(vB (l.any (F.sndDf s)),[])

def preI2C1 (l:List Snd) (s:Snd):Bool:=true

noncomputable def oI2C:Orc:=orc 68 true encI2C (fun a=>preI2C1 a.1 a.2) fun a=>resI2C1 a.1 a.2

theorem okI2C:OrcOK Tryz.prog noG oI2C:=by
 refine mk_ok Tryz.f68 (keep:=false) (by kernel_rfl) (by kernel_rfl) enI2C_ok mixed (no_loops (by kernel_rfl)) (by first | exact fun _ _=>⟨rfl,rfl⟩ | (intro h;cases h)) ?_
 rintro⟨l,s⟩ hpre hok
 show(runF enI2C false _ (encI2C1 _ _)).val=some (resI2C1 _ _)
 unfold encI2C1 resI2C1
 rw[evI2C]
 simp only[unI2w,etaSnd,Option.bind_some,F.idx_any]

def stI3 (l:List Strm) (s:Strm) (k:Nat):St:=⟨[(8,vI k),(7,vI l.length),(1, .fn 74 [.pel (eStrm s) 0]),(0, .sl (l.map eStrm))],[]⟩

def stI31 (a:(List Strm)×Strm×Nat):St:=stI3 a.1 a.2.1 a.2.2

theorem stI3_inj (a a':(List Strm)×Strm×Nat) (h:stI31 a=stI31 a'):a=a':=by
 simp only[stI31,stI3]at h
 try simp[eStrms_inj,eStrm_iff]at h
 grind

theorem unstI30 (l:List Strm) (s:Strm)  : unenc stI31 (St.mk [(8,(vI (0:Int))),(7,(vI (↑(List.length l):Int))),(1,AV.fn (74:FuncId) [AV.pel [(vS s.name),(vS s.uri),(vI s.mean),(vI s.peak),(vI s.width),(vI
 s.height),(vS s.sound)] (0:Nat)]),(0,AV.sl (List.map eStrm l))] [])=some (l,s,0):=unenc_of stI3_inj (l,s,0) rfl

def outI3 (l:List Strm) (s:Strm) (k:Nat):T (Ex×St):= .ifB (F.found (F.findI (fun o=>F.seq o.name s.name) k (l.drop k))) (.ret (.ret,⟨[(4,vI ((F.got (F.findI (fun o=>F.seq o.name s.name) k (l.drop k)) 0:Nat):Int))],[]⟩)) (.ret (.exit 0,⟨[],[]⟩))

noncomputable def prlI3 (l:List Strm) (s:Strm) (k:Nat):Bool:=decide (l.length≤9223372036854775807)&&decide (k≤l.length)

noncomputable def lpI3:Nat×(St→T (Ex×St)):=(2,lpo [8,7,1,0] [] stI31 (fun a=>prlI3 a.1 a.2.1 a.2.2) fun a=>outI3 a.1 a.2.1 a.2.2)

noncomputable def enI3:Env:=envH ty noG lks [oCl3] [] [] [lpI3]

theorem enI3_ok:EnvOK Tryz.prog enI3:=by
 refine envH_ok lks_ok ty_ok ?_ ?_
 ·simp only[List.forall_mem_cons]
  exact⟨okCl3,by simp⟩
 ·simp

theorem evI3L (l:List Strm) (s:Strm) (k:Nat):((exec enI3 (loopN Tryz.f120 0) (stI3 l s k)).bind (lessX ([8,7,1,0],[]) ([],[]) ([4],[]))).val =
 bif decide ((↑k:Int)<(↑(List.length l):Int)) then Option.bind (unenc (List.map eStrm) (List.map eStrm l)) fun z=>bif decide (k<List.length z) then
 Option.bind (unenc encCl3 [AV.agg [(vS (List.getD z k (Strm.mk (ByteArray.mk (Array.mk [])) (ByteArray.mk (Array.mk [])) (0:Int) (0:Int) (0:Int) (0:Int)
 (ByteArray.mk (Array.mk [])))).name),(vS (List.getD z k (Strm.mk (ByteArray.mk (Array.mk [])) (ByteArray.mk (Array.mk [])) (0:Int) (0:Int) (0:Int) (0:Int)
 (ByteArray.mk (Array.mk [])))).uri),(vI (List.getD z k (Strm.mk (ByteArray.mk (Array.mk [])) (ByteArray.mk (Array.mk [])) (0:Int) (0:Int) (0:Int) (0:Int)
 (ByteArray.mk (Array.mk [])))).mean),(vI (List.getD z k (Strm.mk (ByteArray.mk (Array.mk [])) (ByteArray.mk (Array.mk [])) (0:Int) (0:Int) (0:Int) (0:Int)
 (ByteArray.mk (Array.mk [])))).peak),(vI (List.getD z k (Strm.mk (ByteArray.mk (Array.mk [])) (ByteArray.mk (Array.mk [])) (0:Int) (0:Int) (0:Int) (0:Int)
 (ByteArray.mk (Array.mk [])))).width),(vI (List.getD z k (Strm.mk (ByteArray.mk (Array.mk [])) (ByteArray.mk (Array.mk [])) (0:Int) (0:Int) (0:Int) (0:Int)
 (ByteArray.mk (Array.mk [])))).height),(vS (List.getD z k (Strm.mk (ByteArray.mk (Array.mk [])) (ByteArray.mk (Array.mk [])) (0:Int) (0:Int) (0:Int) (0:Int)
 (ByteArray.mk (Array.mk [])))).sound)],AV.pel [(vS s.name),(vS s.uri),(vI s.mean),(vI s.peak),(vI s.width),(vI s.height),(vS s.sound)] (0:Nat)]) fun z=>bif F.seq z.1.name z.2.name then some (Ex.ret,St.mk [(4,(vI (↑k:Int)))] []) else some (Ex.normal,St.mk [(8,(vI (IntKind.i64.wrap ((↑k:Int) +
 (1:Int))))),(7,(vI (↑(List.length l):Int))),(1,AV.fn (74:FuncId) [AV.pel [(vS s.name),(vS s.uri),(vI s.mean),(vI s.peak),(vI s.width),(vI s.height),(vS
 s.sound)] (0:Nat)]),(0,AV.sl (List.map eStrm l))] []) else none else some (Ex.exit (0:Nat),St.mk [] []):=by kernel_rfl

theorem lpI3_ok (l:List Strm) (s:Strm) (k:Nat) (hp:prlI3 l s k=true) : ∀ex s',(outI3 l s k).val=some (ex,s')→LoopOK enI3 (loopN Tryz.f120 0) (stI3 l s k) ex s':=by
 simp only[prlI3,Bool.and_eq_true,decide_eq_true_eq]at hp
 refine loop_gen (st:=stI3 l s) (out:=outI3 l s) (I:=fun k=>k≤l.length) (n:=([8,7,1,0],[])) (e:=([],[])) (r:=([4],[])) (fun k=>l.length - k) ?_ k hp.2
 intro k hk
 by_cases hlt:k<l.length
 ·have hy:l[k]? = some l[k]:=List.getElem?_eq_getElem hlt
  generalize l[k]=y at hy
  have hd:=drop_at hy
  cases hc:(fun o=>F.seq o.name s.name) y
  ·right
   refine⟨k+1,?_,rfl,hlt,by omega,?_⟩
   ·rw[evI3L]
    simp only[unCl3w,etaStrm,Option.bind_some,unStrms,cond_true,cond_false,cast_lt hlt,decide_eq_true hlt,next_at hlt hp.1,getD_at hy,hc,stI3]
    try rfl
   ·simp only[outI3,hd,F.findI,hc,cond_false]
  ·left
   refine⟨(.ret,⟨[(4,vI k)],[]⟩),?_,?_,by simp,rfl⟩
   ·rw[evI3L]
    simp only[unCl3w,etaStrm,Option.bind_some,unStrms,cond_true,cast_lt hlt,decide_eq_true hlt,next_at hlt hp.1,getD_at hy,hc]
   ·simp only[outI3,hd,F.findI,hc,cond_true,F.found,F.got]
    rfl
 ·have:k=l.length:=by omega
  subst this
  left
  refine⟨(.exit 0,⟨[],[]⟩),?_,?_,by simp,rfl⟩
  ·rw[evI3L];simp
  ·simp[outI3,F.findI,F.found,T.val]

theorem evI3 (l:List Strm) (s:Strm):(runF enI3 false Tryz.f120 [.sl (l.map eStrm), .fn 74 [.pel (eStrm s) 0]]).val =
 Option.bind (unenc stI31 (St.mk [(8,(vI 0)),(7,(vI (↑(List.length (List.map eStrm l)):Int))),(1,AV.fn (74:FuncId) [AV.pel [(vS s.name),(vS s.uri),(vI
 s.mean),(vI s.peak),(vI s.width),(vI s.height),(vS s.sound)] (0:Nat)]),(0,AV.sl (List.map eStrm l))] [])) fun z=>bif decide
 (List.length z.1≤9223372036854775807)&&decide (z.2.2≤List.length z.1)&&true then bif F.found (F.findI (fun(o:Strm)=>F.seq o.name
 z.2.1.name) z.2.2 (List.drop z.2.2 z.1)) then some ((vI (↑(F.got (F.findI (fun(o:Strm)=>F.seq o.name z.2.1.name) z.2.2 (List.drop z.2.2
 z.1)) (0:Nat)):Int)),[]) else some ((vI (-1:Int)),[]) else none:=by kernel_rfl

def encI31 (l:List Strm) (s:Strm):List AV:=[.sl (l.map eStrm), .fn 74 [.pel (eStrm s) 0]]

def encI3 (a:(List Strm)×Strm):List AV:=encI31 a.1 a.2

theorem encI3_inj (a a':(List Strm)×Strm) (h:encI3 a=encI3 a'):a=a':=by
 simp only[encI3,encI31]at h
 try simp[eStrms_inj,eStrm_iff]at h
 grind

theorem unI3w (l:List Strm) (s_name:ByteArray) (s_uri:ByteArray) (s_mean:Int) (s_peak:Int) (s_width:Int) (s_height:Int) (s_sound:ByteArray):unenc encI3 ([AV.sl (List.map eStrm l),AV.fn (74:FuncId) [AV.pel [(vS s_name),(vS s_uri),(vI s_mean),(vI s_peak),(vI s_width),(vI s_height),(vS s_sound)] (0:Nat)]])=some (l,(Strm.mk s_name s_uri s_mean s_peak s_width s_height s_sound)):=unenc_of encI3_inj (l,(Strm.mk s_name s_uri s_mean s_peak s_width s_height s_sound)) rfl

def resI31 (l:List Strm) (s:Strm):AV×Heap:=(vI (F.idxI (F.findI (fun o=>F.seq o.name s.name) 0 l)),[])

def preI31 (l:List Strm) (s:Strm):Bool:=true

noncomputable def oI3:Orc:=orc 120 true encI3 (fun a=>preI31 a.1 a.2) fun a=>resI31 a.1 a.2

theorem okI3:OrcOK Tryz.prog noG oI3:=by
 refine mk_ok Tryz.f120 (keep:=false) (by kernel_rfl) (by kernel_rfl) enI3_ok mixed (one_loop (x0:=loopN Tryz.f120 0) (by kernel_rfl) (lpo_ok ?_)) (by first | exact fun _ _=>⟨rfl,rfl⟩ | (intro h;cases h)) ?_
 ·rintro⟨l,s,k⟩ hp
  exact lpI3_ok l s k hp
 rintro⟨l,s⟩ hpre hok
 show(runF enI3 false _ (encI31 _ _)).val=some (resI31 _ _)
 unfold encI31 resI31
 rw[evI3]
 have hx:l.length≤9223372036854775807:=by simpa using(okA_sl (hok _ (List.mem_cons_self ..))).1
 simp only[unstI30,Option.bind_some,List.length_map,cond_true,Bool.and_true,hx,List.drop_zero,Nat.zero_le,decide_true,F.idxI]
 cases F.found (F.findI (fun o=>F.seq o.name s.name) 0 l)<;>rfl

noncomputable def enI3C:Env:=envH ty noG lks [oI3] [] [] []

theorem enI3C_ok:EnvOK Tryz.prog enI3C:=by
 refine envH_ok lks_ok ty_ok ?_ ?_
 ·simp only[List.forall_mem_cons]
  exact⟨okI3,by simp⟩
 ·simp

theorem evI3C (l:List Strm) (s:Strm):(runF enI3C false Tryz.f73 [.sl (l.map eStrm), .fn 74 [.pel (eStrm s) 0]]).val =
 Option.bind (unenc encI3 [AV.sl (List.map eStrm l),AV.fn (74:FuncId) [AV.pel [(vS s.name),(vS s.uri),(vI s.mean),(vI s.peak),(vI s.width),(vI s.height),(vS
 s.sound)] (0:Nat)]]) fun z=>some ((vB (decide ((0:Int)≤F.idxI (F.findI (fun(o:Strm)=>F.seq o.name z.2.name) (0:Nat) z.1)))),[]):=by kernel_rfl

def encI3C1 (l:List Strm) (s:Strm):List AV:=[.sl (l.map eStrm), .fn 74 [.pel (eStrm s) 0]]

def encI3C (a:(List Strm)×Strm):List AV:=encI3C1 a.1 a.2

theorem encI3C_inj (a a':(List Strm)×Strm) (h:encI3C a=encI3C a'):a=a':=by
 simp only[encI3C,encI3C1]at h
 try simp[eStrms_inj,eStrm_iff]at h
 grind

theorem unI3Cw (l:List Strm) (s_name:ByteArray) (s_uri:ByteArray) (s_mean:Int) (s_peak:Int) (s_width:Int) (s_height:Int) (s_sound:ByteArray):unenc encI3C ([AV.sl (List.map eStrm l),AV.fn (74:FuncId) [AV.pel [(vS s_name),(vS s_uri),(vI s_mean),(vI s_peak),(vI s_width),(vI s_height),(vS s_sound)] (0:Nat)]])=some (l,(Strm.mk s_name s_uri s_mean s_peak s_width s_height s_sound)):=unenc_of encI3C_inj (l,(Strm.mk s_name s_uri s_mean s_peak s_width s_height s_sound)) rfl

def resI3C1 (l:List Strm) (s:Strm):AV×Heap:=(vB (l.any (fun o=>F.seq o.name s.name)),[])

def preI3C1 (l:List Strm) (s:Strm):Bool:=true

noncomputable def oI3C:Orc:=orc 73 true encI3C (fun a=>preI3C1 a.1 a.2) fun a=>resI3C1 a.1 a.2

theorem okI3C:OrcOK Tryz.prog noG oI3C:=by
 refine mk_ok Tryz.f73 (keep:=false) (by kernel_rfl) (by kernel_rfl) enI3C_ok mixed (no_loops (by kernel_rfl)) (by first | exact fun _ _=>⟨rfl,rfl⟩ | (intro h;cases h)) ?_
 rintro⟨l,s⟩ hpre hok
 show(runF enI3C false _ (encI3C1 _ _)).val=some (resI3C1 _ _)
 unfold encI3C1 resI3C1
 rw[evI3C]
 simp only[unI3w,etaStrm,Option.bind_some,F.idx_any]

def stI4 (l:List Snd) (s:Strm) (k:Nat):St:=⟨[(8,vI k),(7,vI l.length),(1, .fn 75 [.pel (eStrm s) 0]),(0, .sl (l.map eSnd))],[]⟩

def stI41 (a:(List Snd)×Strm×Nat):St:=stI4 a.1 a.2.1 a.2.2

theorem stI4_inj (a a':(List Snd)×Strm×Nat) (h:stI41 a=stI41 a'):a=a':=by
 simp only[stI41,stI4]at h
 try simp[eSnds_inj,eStrm_iff]at h
 grind

theorem unstI40 (l:List Snd) (s:Strm)  : unenc stI41 (St.mk [(8,(vI (0:Int))),(7,(vI (↑(List.length l):Int))),(1,AV.fn (75:FuncId) [AV.pel [(vS s.name),(vS s.uri),(vI s.mean),(vI s.peak),(vI s.width),(vI
 s.height),(vS s.sound)] (0:Nat)]),(0,AV.sl (List.map eSnd l))] [])=some (l,s,0):=unenc_of stI4_inj (l,s,0) rfl

def outI4 (l:List Snd) (s:Strm) (k:Nat):T (Ex×St):= .ifB (F.found (F.findI (fun o=>F.seq o.group s.sound) k (l.drop k))) (.ret (.ret,⟨[(4,vI ((F.got (F.findI (fun o=>F.seq o.group s.sound) k (l.drop k)) 0:Nat):Int))],[]⟩)) (.ret (.exit 0,⟨[],[]⟩))

noncomputable def prlI4 (l:List Snd) (s:Strm) (k:Nat):Bool:=decide (l.length≤9223372036854775807)&&decide (k≤l.length)

noncomputable def lpI4:Nat×(St→T (Ex×St)):=(2,lpo [8,7,1,0] [] stI41 (fun a=>prlI4 a.1 a.2.1 a.2.2) fun a=>outI4 a.1 a.2.1 a.2.2)

noncomputable def enI4:Env:=envH ty noG lks [oCl4] [] [] [lpI4]

theorem enI4_ok:EnvOK Tryz.prog enI4:=by
 refine envH_ok lks_ok ty_ok ?_ ?_
 ·simp only[List.forall_mem_cons]
  exact⟨okCl4,by simp⟩
 ·simp

theorem evI4L (l:List Snd) (s:Strm) (k:Nat):((exec enI4 (loopN Tryz.f118 0) (stI4 l s k)).bind (lessX ([8,7,1,0],[]) ([],[]) ([4],[]))).val =
 bif decide ((↑k:Int)<(↑(List.length l):Int)) then Option.bind (unenc (List.map eSnd) (List.map eSnd l)) fun z=>bif decide (k<List.length z) then
 Option.bind (unenc encCl4 [AV.agg [(vS (List.getD z k (Snd.mk (ByteArray.mk (Array.mk [])) (ByteArray.mk (Array.mk [])) (ByteArray.mk (Array.mk [])) false (ByteArray.mk
 (Array.mk [])))).group),(vS (List.getD z k (Snd.mk (ByteArray.mk (Array.mk [])) (ByteArray.mk (Array.mk [])) (ByteArray.mk (Array.mk [])) false (ByteArray.mk (Array.mk
 [])))).name),(vS (List.getD z k (Snd.mk (ByteArray.mk (Array.mk [])) (ByteArray.mk (Array.mk [])) (ByteArray.mk (Array.mk [])) false (ByteArray.mk (Array.mk [])))).lang),
 (vB (List.getD z k (Snd.mk (ByteArray.mk (Array.mk [])) (ByteArray.mk (Array.mk [])) (ByteArray.mk (Array.mk [])) false (ByteArray.mk (Array.mk [])))).dflt),(vS
 (List.getD z k (Snd.mk (ByteArray.mk (Array.mk [])) (ByteArray.mk (Array.mk [])) (ByteArray.mk (Array.mk [])) false (ByteArray.mk (Array.mk [])))).uri)],AV.pel [(vS
 s.name),(vS s.uri),(vI s.mean),(vI s.peak),(vI s.width),(vI s.height),(vS s.sound)] (0:Nat)]) fun z=>bif F.seq z.1.group z.2.sound then some
 (Ex.ret,St.mk [(4,(vI (↑k:Int)))] []) else some (Ex.normal,St.mk [(8,(vI (IntKind.i64.wrap ((↑k:Int)+1)))),(7,(vI (↑(List.length l):Int))),
 (1,AV.fn (75:FuncId) [AV.pel [(vS s.name),(vS s.uri),(vI s.mean),(vI s.peak),(vI s.width),(vI s.height),(vS s.sound)] (0:Nat)]),(0,AV.sl (List.map eSnd l))]
 []) else none else some (Ex.exit (0:Nat),St.mk [] []):=by kernel_rfl

theorem lpI4_ok (l:List Snd) (s:Strm) (k:Nat) (hp:prlI4 l s k=true) : ∀ex s',(outI4 l s k).val=some (ex,s')→LoopOK enI4 (loopN Tryz.f118 0) (stI4 l s k) ex s':=by
 simp only[prlI4,Bool.and_eq_true,decide_eq_true_eq]at hp
 refine loop_gen (st:=stI4 l s) (out:=outI4 l s) (I:=fun k=>k≤l.length) (n:=([8,7,1,0],[])) (e:=([],[])) (r:=([4],[])) (fun k=>l.length - k) ?_ k hp.2
 intro k hk
 by_cases hlt:k<l.length
 ·have hy:l[k]? = some l[k]:=List.getElem?_eq_getElem hlt
  generalize l[k]=y at hy
  have hd:=drop_at hy
  cases hc:(fun o=>F.seq o.group s.sound) y
  ·right
   refine⟨k+1,?_,rfl,hlt,by omega,?_⟩
   ·rw[evI4L]
    simp only[unCl4w,etaSnd,etaStrm,Option.bind_some,unSnds,cond_true,cond_false,cast_lt hlt,decide_eq_true hlt,next_at hlt hp.1,getD_at hy,hc,stI4]
    try rfl
   ·simp only[outI4,hd,F.findI,hc,cond_false]
  ·left
   refine⟨(.ret,⟨[(4,vI k)],[]⟩),?_,?_,by simp,rfl⟩
   ·rw[evI4L]
    simp only[unCl4w,etaSnd,etaStrm,Option.bind_some,unSnds,cond_true,cast_lt hlt,decide_eq_true hlt,next_at hlt hp.1,getD_at hy,hc]
   ·simp only[outI4,hd,F.findI,hc,cond_true,F.found,F.got]
    rfl
 ·have:k=l.length:=by omega
  subst this
  left
  refine⟨(.exit 0,⟨[],[]⟩),?_,?_,by simp,rfl⟩
  ·rw[evI4L];simp
  ·simp[outI4,F.findI,F.found,T.val]

theorem evI4 (l:List Snd) (s:Strm):(runF enI4 false Tryz.f118 [.sl (l.map eSnd), .fn 75 [.pel (eStrm s) 0]]).val =
 Option.bind (unenc stI41 (St.mk [(8,(vI 0)),(7,(vI (↑(List.length (List.map eSnd l)):Int))),(1,AV.fn (75:FuncId) [AV.pel [(vS s.name),(vS s.uri),(vI
 s.mean),(vI s.peak),(vI s.width),(vI s.height),(vS s.sound)] (0:Nat)]),(0,AV.sl (List.map eSnd l))] [])) fun z=>bif decide (List.length
 z.1≤9223372036854775807)&&decide (z.2.2≤List.length z.1)&&true then bif F.found (F.findI (fun(o:Snd)=>F.seq o.group z.2.1.sound) z.2.2
 (List.drop z.2.2 z.1)) then some ((vI (↑(F.got (F.findI (fun(o:Snd)=>F.seq o.group z.2.1.sound) z.2.2 (List.drop z.2.2 z.1)) (0:Nat)):Int)),
 []) else some ((vI (-1:Int)),[]) else none:=by kernel_rfl

def encI41 (l:List Snd) (s:Strm):List AV:=[.sl (l.map eSnd), .fn 75 [.pel (eStrm s) 0]]

def encI4 (a:(List Snd)×Strm):List AV:=encI41 a.1 a.2

theorem encI4_inj (a a':(List Snd)×Strm) (h:encI4 a=encI4 a'):a=a':=by
 simp only[encI4,encI41]at h
 try simp[eSnds_inj,eStrm_iff]at h
 grind

theorem unI4w (l:List Snd) (s_name:ByteArray) (s_uri:ByteArray) (s_mean:Int) (s_peak:Int) (s_width:Int) (s_height:Int) (s_sound:ByteArray):unenc encI4 ([AV.sl (List.map eSnd l),AV.fn (75:FuncId) [AV.pel [(vS s_name),(vS s_uri),(vI s_mean),(vI s_peak),(vI s_width),(vI s_height),(vS s_sound)] (0:Nat)]])=some (l,(Strm.mk s_name s_uri s_mean s_peak s_width s_height s_sound)):=unenc_of encI4_inj (l,(Strm.mk s_name s_uri s_mean s_peak s_width s_height s_sound)) rfl

def resI41 (l:List Snd) (s:Strm):AV×Heap:=(vI (F.idxI (F.findI (fun o=>F.seq o.group s.sound) 0 l)),[])

def preI41 (l:List Snd) (s:Strm):Bool:=true

noncomputable def oI4:Orc:=orc 118 true encI4 (fun a=>preI41 a.1 a.2) fun a=>resI41 a.1 a.2

theorem okI4:OrcOK Tryz.prog noG oI4:=by
 refine mk_ok Tryz.f118 (keep:=false) (by kernel_rfl) (by kernel_rfl) enI4_ok mixed (one_loop (x0:=loopN Tryz.f118 0) (by kernel_rfl) (lpo_ok ?_)) (by first | exact fun _ _=>⟨rfl,rfl⟩ | (intro h;cases h)) ?_
 ·rintro⟨l,s,k⟩ hp
  exact lpI4_ok l s k hp
 rintro⟨l,s⟩ hpre hok
 show(runF enI4 false _ (encI41 _ _)).val=some (resI41 _ _)
 unfold encI41 resI41
 rw[evI4]
 have hx:l.length≤9223372036854775807:=by simpa using(okA_sl (hok _ (List.mem_cons_self ..))).1
 simp only[unstI40,Option.bind_some,List.length_map,cond_true,Bool.and_true,hx,List.drop_zero,Nat.zero_le,decide_true,F.idxI]
 cases F.found (F.findI (fun o=>F.seq o.group s.sound) 0 l)<;>rfl

noncomputable def enI4C:Env:=envH ty noG lks [oI4] [] [] []

theorem enI4C_ok:EnvOK Tryz.prog enI4C:=by
 refine envH_ok lks_ok ty_ok ?_ ?_
 ·simp only[List.forall_mem_cons]
  exact⟨okI4,by simp⟩
 ·simp

theorem evI4C (l:List Snd) (s:Strm):(runF enI4C false Tryz.f68 [.sl (l.map eSnd), .fn 75 [.pel (eStrm s) 0]]).val =
 Option.bind (unenc encI4 [AV.sl (List.map eSnd l),AV.fn (75:FuncId) [AV.pel [(vS s.name),(vS s.uri),(vI s.mean),(vI s.peak),(vI s.width),(vI s.height),(vS
 s.sound)] (0:Nat)]]) fun z=>some ((vB (decide ((0:Int)≤F.idxI (F.findI (fun(o:Snd)=>F.seq o.group z.2.sound) (0:Nat) z.1)))),[]):=by kernel_rfl

def encI4C1 (l:List Snd) (s:Strm):List AV:=[.sl (l.map eSnd), .fn 75 [.pel (eStrm s) 0]]

def encI4C (a:(List Snd)×Strm):List AV:=encI4C1 a.1 a.2

theorem encI4C_inj (a a':(List Snd)×Strm) (h:encI4C a=encI4C a'):a=a':=by
 simp only[encI4C,encI4C1]at h
 try simp[eSnds_inj,eStrm_iff]at h
 grind

theorem unI4Cw (l:List Snd) (s_name:ByteArray) (s_uri:ByteArray) (s_mean:Int) (s_peak:Int) (s_width:Int) (s_height:Int) (s_sound:ByteArray):unenc encI4C ([AV.sl (List.map eSnd l),AV.fn (75:FuncId) [AV.pel [(vS s_name),(vS s_uri),(vI s_mean),(vI s_peak),(vI s_width),(vI s_height),(vS s_sound)] (0:Nat)]])=some (l,(Strm.mk s_name s_uri s_mean s_peak s_width s_height s_sound)):=unenc_of encI4C_inj (l,(Strm.mk s_name s_uri s_mean s_peak s_width s_height s_sound)) rfl

def resI4C1 (l:List Snd) (s:Strm):AV×Heap:=(vB (l.any (fun o=>F.seq o.group s.sound)),[])

def preI4C1 (l:List Snd) (s:Strm):Bool:=true

noncomputable def oI4C:Orc:=orc 68 true encI4C (fun a=>preI4C1 a.1 a.2) fun a=>resI4C1 a.1 a.2

theorem okI4C:OrcOK Tryz.prog noG oI4C:=by
 refine mk_ok Tryz.f68 (keep:=false) (by kernel_rfl) (by kernel_rfl) enI4C_ok mixed (no_loops (by kernel_rfl)) (by first | exact fun _ _=>⟨rfl,rfl⟩ | (intro h;cases h)) ?_
 rintro⟨l,s⟩ hpre hok
 show(runF enI4C false _ (encI4C1 _ _)).val=some (resI4C1 _ _)
 unfold encI4C1 resI4C1
 rw[evI4C]
 simp only[unI4w,etaStrm,Option.bind_some,F.idx_any]

def encI12 (a:Bool×List Snd×Snd):List AV:=[.sl (a.2.1.map eSnd), .fn (bif a.1 then 69 else 71) [.pel (eSnd a.2.2) 0]]

theorem encI12_inj (a a':Bool×List Snd×Snd) (h:encI12 a=encI12 a'):a=a':=by
 obtain⟨w,l,s⟩:=a
 obtain⟨w',l',s'⟩:=a'
 simp only[encI12]at h
 simp[eSnds_inj,eSnd_iff]at h
 obtain⟨h1,h2,h3⟩:=h
 subst h1
 subst h3
 cases w<;>cases w'<;>simp_all

theorem unI12 (l:List Snd) (s:Snd):unenc encI12 ([AV.sl (List.map eSnd l),AV.fn (69:FuncId) [AV.pel [(vS s.group),(vS s.name),(vS s.lang),(vB s.dflt),(vS s.uri)] (0:Nat)]])=some (true,l,s):=unenc_of encI12_inj (true,l,s) rfl

theorem unI12b (l:List Snd) (s:Snd):unenc encI12 ([AV.sl (List.map eSnd l),AV.fn (71:FuncId) [AV.pel [(vS s.group),(vS s.name),(vS s.lang),(vB s.dflt),(vS s.uri)] (0:Nat)]])=some (false,l,s):=unenc_of encI12_inj (false,l,s) rfl

def preI121 (a:Bool×List Snd×Snd):Bool:=true

noncomputable def oI12:Orc:=orc 68 true encI12 preI121 fun a=>(vB (a.2.1.any fun o=>bif a.1 then F.sndTw a.2.2 o else F.sndDf a.2.2 o),[])

theorem okI12:OrcOK Tryz.prog noG oI12:=by
 refine orc_ok okI1C.here (fun a _ _=>?_) (fun _ _=>⟨rfl,rfl⟩)
 obtain⟨w,l,s⟩:=a
 cases w
 ·exact orc_at okI2C encI2C_inj (l,s) rfl
 ·exact orc_at okI1C encI1C_inj (l,s) rfl

noncomputable def enSnF:Env:=envH ty noG lks [oName,oI12,oLng2,oUri] [] [] []

theorem enSnF_ok:EnvOK Tryz.prog enSnF:=by
 refine envH_ok lks_ok ty_ok ?_ ?_
 ·simp only[List.forall_mem_cons]
  exact⟨okName,okI12,okLng2,okUri,by simp⟩
 ·simp

theorem evSnF (s:Snd) (l:List Snd):(runF enSnF false Tryz.f29 [.agg (eSnd s), .sl (l.map eSnd)]).val =
 Option.bind (unenc encName [(vS s.group)]) fun z=>bif !!F.isName z then Option.bind (unenc encName [(vS s.name)]) fun z_1=>bif bif
 !F.isName z then true else !F.isName z_1 then some ((vI 5),[]) else Option.bind (unenc encI12 [AV.sl (List.map eSnd l),AV.fn (69:Nat) [AV.pel [(vS s.group),
 (vS s.name),(vS s.lang),(vB s.dflt),(vS s.uri)] (0:Nat)]]) fun z=>bif List.any z.2.1 fun(o:Snd)=>bif z.1 then F.sndTw z.2.2
 o else F.sndDf z.2.2 o then some ((vI 7),[]) else Option.bind (unenc encLng2 [(vS s.lang)]) fun z=>bif !F.lang z then some ((vI 3),
 []) else bif s.dflt then bif s.dflt then Option.bind (unenc encI12 [AV.sl (List.map eSnd l),AV.fn (71:Nat) [AV.pel [(vS s.group),(vS s.name),(vS s.lang),(vB s.dflt),
 (vS s.uri)] (0:Nat)]]) fun z=>bif bif s.dflt then List.any z.2.1 fun(o:Snd)=>bif z.1 then F.sndTw z.2.2 o else F.sndDf
 z.2.2 o else false then some ((vI 12),[]) else Option.bind (unenc encUri [(vS s.uri)]) fun z=>some ((vI (F.uriFault z)),[]) else Option.bind
 (unenc encUri [(vS s.uri)]) fun z=>some ((vI (F.uriFault z)),[]) else bif s.dflt then Option.bind (unenc encI12 [AV.sl (List.map eSnd l),AV.unk]) fun(z
 : Bool×List Snd×Snd)=>bif bif s.dflt then List.any z.2.1 fun(o:Snd)=>bif z.1 then F.sndTw z.2.2 o else F.sndDf z.2.2 o else false then some ((vI
 (12:Int)),[]) else Option.bind (unenc encUri [(vS s.uri)]) fun z=>some ((vI (F.uriFault z)),[]) else Option.bind (unenc encUri [(vS s.uri)]) fun(z :
 ByteArray)=>some ((vI (F.uriFault z)),[]) else bif !!F.isName z then none else some ((vI 5),[]):=by kernel_rfl

def encSnF1 (s:Snd) (l:List Snd):List AV:=[.agg (eSnd s), .sl (l.map eSnd)]

def encSnF (a:Snd×(List Snd)):List AV:=encSnF1 a.1 a.2

theorem encSnF_inj (a a':Snd×(List Snd)) (h:encSnF a=encSnF a'):a=a':=by
 simp only[encSnF,encSnF1]at h
 try simp[eSnds_inj,eSnd_iff]at h
 grind

theorem unSnFw (s_group:ByteArray) (s_name:ByteArray) (s_lang:ByteArray) (s_dflt:Bool) (s_uri:ByteArray) (l:List Snd):unenc encSnF ([AV.agg [(vS s_group),(vS s_name),(vS s_lang),(vB s_dflt),(vS s_uri)],AV.sl (List.map eSnd l)])=some ((Snd.mk s_group s_name s_lang s_dflt s_uri),l):=unenc_of encSnF_inj ((Snd.mk s_group s_name s_lang s_dflt s_uri),l) rfl

def resSnF1 (s:Snd) (l:List Snd):AV×Heap:=(vI (F.sndF s l),[])

def preSnF1 (s:Snd) (l:List Snd):Bool:=true

noncomputable def oSnF:Orc:=orc 29 true encSnF (fun a=>preSnF1 a.1 a.2) fun a=>resSnF1 a.1 a.2

theorem okSnF:OrcOK Tryz.prog noG oSnF:=by
 refine mk_ok Tryz.f29 (keep:=false) (by kernel_rfl) (by kernel_rfl) enSnF_ok mixed (no_loops (by kernel_rfl)) (by first | exact fun _ _=>⟨rfl,rfl⟩ | (intro h;cases h)) ?_
 rintro⟨s,l⟩ hpre hok
 show(runF enSnF false _ (encSnF1 _ _)).val=some (resSnF1 _ _)
 unfold encSnF1 resSnF1
 rw[evSnF]
 simp only[unName,unI12,unLng2,unUri,Option.bind_some,cond_true,cond_false,F.sndF,unI12b]
 cases F.isName s.group
 ·rfl
 cases F.isName s.name
 ·rfl
 cases l.any (F.sndTw s)
 ·cases F.lang s.lang
  ·rfl
  ·cases hd:s.dflt
   ·rfl
   ·simp only[cond_true,cond_false,Bool.not_true,Bool.not_false,Bool.or_self,Bool.true_and]
    cases l.any (F.sndDf s)<;>rfl
 ·rfl

noncomputable def enStF:Env:=envH ty noG lks [oName,oI3C,oI4C,oUri,oOut] [] [] []

theorem enStF_ok:EnvOK Tryz.prog enStF:=by
 refine envH_ok lks_ok ty_ok ?_ ?_
 ·simp only[List.forall_mem_cons]
  exact⟨okName,okI3C,okI4C,okUri,okOut,by simp⟩
 ·simp

theorem evStF (s:Strm) (l:List Strm) (m:List Snd):(runF enStF false Tryz.f30 [.agg (eStrm s), .sl (l.map eStrm), .sl (m.map eSnd)]).val =
 (fun(q:Option (AV×Heap))=>(fun(q_1:Option (AV×Heap))=>(fun(q_2:Option (AV×Heap))=>(fun(q_3:Bool)=>(fun(q_4:List AV)=>(fun(q_5:Option (AV
 × Heap))=>(fun(q_6:List AV)=>Option.bind (unenc encName [(vS s.name)]) fun z=>bif !F.isName z then q_1 else Option.bind (unenc encI3C [AV.sl
 (List.map eStrm l),AV.fn (74:Nat) q_6]) fun z=>bif List.any z.1 fun(o:Strm)=>F.seq o.name z.2.name then some ((vI 7),[]) else
 Option.bind (unenc encUri [(vS s.uri)]) fun z=>bif F.uriFault z != 0 then some ((vI 3),[]) else Option.bind (unenc encOut [(vI s.mean),
 (vI 1),(vI 10000000000)]) fun z=>bif !F.out z.1 z.2.1 z.2.2 then Option.bind (unenc encOut [(vI s.peak),(vI s.mean),(vI
 (10000000000:Int))]) fun z_1=>bif bif F.out z.1 z.2.1 z.2.2 then true else F.out z_1.1 z_1.2.1 z_1.2.2 then q_2 else
 Option.bind (unenc encOut ((vI s.width)::q_4)) fun z=>bif !F.out z.1 z.2.1 z.2.2 then Option.bind (unenc encOut ((vI s.height)::q_4))
 fun z_2=>bif bif bif F.out z.1 z.2.1 z.2.2 then true else F.out z_2.1 z_2.2.1 z_2.2.2 then true else !(s.width==0) ==
 (s.height==0) then q_2 else bif q_3 then bif q_3 then Option.bind (unenc encI4C [AV.sl (List.map eSnd m),AV.fn (75:Nat) q_6]) fun z=>bif
 bif q_3 then !List.any z.1 fun(o:Snd)=>F.seq o.group z.2.sound else false then q_1 else q else q_5 else bif q_3 then Option.bind (unenc encI4C [AV.sl (List.map
 eSnd m),AV.unk]) fun z=>bif bif q_3 then !List.any z.1 fun(o:Snd)=>F.seq o.group z.2.sound else false then q_1 else q else q_5 else q_2
 else q_2) [AV.pel [(vS s.name),(vS s.uri),(vI s.mean),(vI s.peak),(vI s.width),(vI s.height),(vS s.sound)] (0:Nat)]) (bif q_3 then none else q)) [(vI 0),
 (vI 20000)]) !ByteArray.toList s.sound==ByteArray.toList (ByteArray.mk (Array.mk []))) (some ((vI 1),[]))) (some ((vI 5),[]))) (some ((vI 0),[])):=by kernel_rfl

def encStF1 (s:Strm) (l:List Strm) (m:List Snd):List AV:=[.agg (eStrm s), .sl (l.map eStrm), .sl (m.map eSnd)]

def encStF (a:Strm×(List Strm)×(List Snd)):List AV:=encStF1 a.1 a.2.1 a.2.2

theorem encStF_inj (a a':Strm×(List Strm)×(List Snd)) (h:encStF a=encStF a'):a=a':=by
 simp only[encStF,encStF1]at h
 try simp[eSnds_inj,eStrms_inj,eStrm_iff]at h
 grind

theorem unStFw (s_name:ByteArray) (s_uri:ByteArray) (s_mean:Int) (s_peak:Int) (s_width:Int) (s_height:Int) (s_sound:ByteArray) (l:List Strm) (m:List Snd):unenc encStF ([AV.agg [(vS s_name),(vS s_uri),(vI s_mean),(vI s_peak),(vI s_width),(vI s_height),(vS s_sound)],AV.sl (List.map eStrm l),AV.sl (List.map eSnd m)])=some ((Strm.mk s_name s_uri s_mean s_peak s_width s_height s_sound),l,m):=unenc_of encStF_inj ((Strm.mk s_name s_uri s_mean s_peak s_width s_height s_sound),l,m) rfl

def resStF1 (s:Strm) (l:List Strm) (m:List Snd):AV×Heap:=(vI (F.strmF s l m),[])

def preStF1 (s:Strm) (l:List Strm) (m:List Snd):Bool:=true

noncomputable def oStF:Orc:=orc 30 true encStF (fun a=>preStF1 a.1 a.2.1 a.2.2) fun a=>resStF1 a.1 a.2.1 a.2.2

theorem okStF:OrcOK Tryz.prog noG oStF:=by
 refine mk_ok Tryz.f30 (keep:=false) (by kernel_rfl) (by kernel_rfl) enStF_ok mixed (no_loops (by kernel_rfl)) (by first | exact fun _ _=>⟨rfl,rfl⟩ | (intro h;cases h)) ?_
 rintro⟨s,l,m⟩ hpre hok
 show(runF enStF false _ (encStF1 _ _ _)).val=some (resStF1 _ _ _)
 unfold encStF1 resStF1
 rw[evStF]
 simp only[unName,unUri,unOut,unI3Cw,unI4Cw,etaStrm,Option.bind_some,F.strmF,F.nonE,F.seq]
 cases F.isName s.name
 ·rfl
 cases(l.any fun o=>o.name.toList==s.name.toList)
 ·cases F.uriFault s.uri != 0
  ·cases F.out s.mean 1 10000000000
   ·cases F.out s.peak s.mean 10000000000
    ·cases F.out s.width 0 20000
     ·cases F.out s.height 0 20000
      ·cases(s.width==0)<;>cases(s.height==0)<;>first | rfl | (cases hd:(s.sound.toList==ByteArray.toList ⟨#[]⟩)<;>first | rfl | (simp only[cond_true,cond_false,Bool.not_true,Bool.not_false];cases(m.any fun o=>o.group.toList==s.sound.toList)<;>rfl))
      ·cases(s.width==0)<;>cases(s.height==0)<;>rfl
     ·rfl
    ·rfl
   ·rfl
  ·rfl
 ·rfl

end M

def F.sndsF (l:List Snd):Int:=M.ffI (fun p:Snd×Nat=>F.sndF p.1 (l.take p.2)) l.zipIdx

def F.strmsF (l:List Strm) (m:List Snd):Int:=M.ffI (fun p:Strm×Nat=>F.strmF p.1 (l.take p.2) m) l.zipIdx

def F.chkM (m:Mas):Int:=bif decide (50<m.streams.length)||decide (50<m.sounds.length) then 2 else bif F.sndsF m.sounds != 0 then F.sndsF m.sounds else F.strmsF m.streams m.sounds

namespace M

def stChM1 (m:Mas) (k:Nat):St:=⟨[(22,vI k),(21,vI m.sounds.length),(20, .sl (m.sounds.map eSnd)),(1, .ptr 1 0 0)],[(1,⟨true,0,0,[eMas m]⟩)]⟩

def stChM11 (a:Mas×Nat):St:=stChM1 a.1 a.2

theorem stChM1_inj (a a':Mas×Nat) (h:stChM11 a=stChM11 a'):a=a':=by
 simp only[stChM11,stChM1]at h
 try simp[eSnds_inj,eMas_iff]at h
 grind

theorem unstChM10 (m:Mas)  : unenc stChM11 (St.mk [(22,(vI (0:Int))),(21,(vI (↑(List.length m.sounds):Int))),(20,AV.sl (List.map eSnd m.sounds)),(1, .ptr 1 0 0)] [(1,Blk.mk true 0 0 [[AV.sl (List.map
 eStrm m.streams),AV.sl (List.map eSnd m.sounds)]])])=some (m,0):=unenc_of stChM1_inj (m,0) rfl

def outChM1 (m:Mas) (k:Nat):T (Ex×St):= .ifB (decide (M.ffI (fun p:Snd×Nat=>F.sndF p.1 (m.sounds.take p.2)) (m.sounds.zipIdx.drop k)=0)) (.ret (.exit 0,⟨[(1, .ptr 1 0 0)],[(1,⟨true,0,0,[eMas m]⟩)]⟩)) (.ret (.ret,⟨[(2,vI (M.ffI (fun p:Snd×Nat=>F.sndF p.1 (m.sounds.take p.2)) (m.sounds.zipIdx.drop k)))],[]⟩))

noncomputable def prlChM1 (m:Mas) (k:Nat):Bool:=decide (m.sounds.length≤9223372036854775807)&&decide (k≤m.sounds.length)

noncomputable def lpChM1:Nat×(St→T (Ex×St)):=(4,lpo [22,21,20,1] [1] stChM11 (fun a=>prlChM1 a.1 a.2) fun a=>outChM1 a.1 a.2)

def stChM2 (m:Mas) (k:Nat):St:=⟨[(40,vI k),(39,vI m.streams.length),(38, .sl (m.streams.map eStrm)),(1, .ptr 1 0 0)],[(1,⟨true,0,0,[eMas m]⟩)]⟩

def stChM21 (a:Mas×Nat):St:=stChM2 a.1 a.2

theorem stChM2_inj (a a':Mas×Nat) (h:stChM21 a=stChM21 a'):a=a':=by
 simp only[stChM21,stChM2]at h
 try simp[eStrms_inj,eMas_iff]at h
 grind

theorem unstChM20 (m:Mas)  : unenc stChM21 (St.mk [(40,(vI (0:Int))),(39,(vI (↑(List.length m.streams):Int))),(38,AV.sl (List.map eStrm m.streams)),(1, .ptr 1 0 0)] [(1,Blk.mk true 0 0 [[AV.sl (List.map
 eStrm m.streams),AV.sl (List.map eSnd m.sounds)]])])=some (m,0):=unenc_of stChM2_inj (m,0) rfl

def outChM2 (m:Mas) (k:Nat):T (Ex×St):= .ifB (decide (M.ffI (fun p:Strm×Nat=>F.strmF p.1 (m.streams.take p.2) m.sounds) (m.streams.zipIdx.drop k)=0)) (.ret (.exit 2,⟨[],[]⟩)) (.ret (.ret,⟨[(2,vI (M.ffI (fun p:Strm×Nat=>F.strmF p.1 (m.streams.take p.2) m.sounds) (m.streams.zipIdx.drop k)))],[]⟩))

noncomputable def prlChM2 (m:Mas) (k:Nat):Bool:=decide (m.streams.length≤9223372036854775807)&&decide (k≤m.streams.length)

noncomputable def lpChM2:Nat×(St→T (Ex×St)):=(11,lpo [40,39,38,1] [1] stChM21 (fun a=>prlChM2 a.1 a.2) fun a=>outChM2 a.1 a.2)

noncomputable def enChM:Env:=envH ty noG lks [oSnF,oStF] [] [] [lpChM1,lpChM2]

theorem enChM_ok:EnvOK Tryz.prog enChM:=by
 refine envH_ok lks_ok ty_ok ?_ ?_
 ·simp only[List.forall_mem_cons]
  exact⟨okSnF,okStF,by simp⟩
 ·simp

theorem evChM1L (m:Mas) (k:Nat):((exec enChM (loopN Tryz.f11 0) (stChM1 m k)).bind (lessX ([22,21,20,1],[1]) ([1],[1]) ([2],[]))).val =
 bif decide ((↑k:Int)<(↑(List.length m.sounds):Int)) then Option.bind (unenc (List.map eSnd) (List.map eSnd m.sounds)) fun z=>bif decide (k <
 List.length z) then bif Nat.ble (0:Nat) k&&Nat.ble k (List.length (List.map eSnd m.sounds))&&List.all (List.map eSnd m.sounds) fun(r:Row)=>Nat.beq (List.length
 r) (5:Nat) then Option.bind (unenc encSnF [AV.agg [(vS (List.getD z k (Snd.mk (ByteArray.mk (Array.mk [])) (ByteArray.mk (Array.mk [])) (ByteArray.mk (Array.mk []))
 false (ByteArray.mk (Array.mk [])))).group),(vS (List.getD z k (Snd.mk (ByteArray.mk (Array.mk [])) (ByteArray.mk (Array.mk [])) (ByteArray.mk (Array.mk [])) false
 (ByteArray.mk (Array.mk [])))).name),(vS (List.getD z k (Snd.mk (ByteArray.mk (Array.mk [])) (ByteArray.mk (Array.mk [])) (ByteArray.mk (Array.mk [])) false (ByteArray.mk
 (Array.mk [])))).lang),(vB (List.getD z k (Snd.mk (ByteArray.mk (Array.mk [])) (ByteArray.mk (Array.mk [])) (ByteArray.mk (Array.mk [])) false (ByteArray.mk (Array.mk
 [])))).dflt),(vS (List.getD z k (Snd.mk (ByteArray.mk (Array.mk [])) (ByteArray.mk (Array.mk [])) (ByteArray.mk (Array.mk [])) false (ByteArray.mk (Array.mk [])))).uri)],
 AV.sl (List.take k (List.map eSnd m.sounds))]) fun z=>bif F.sndF z.1 z.2 != 0 then some (Ex.ret,St.mk [(2,(vI (F.sndF z.1 z.2)))]
 []) else some (Ex.normal,St.mk [(22,(vI (IntKind.i64.wrap ((↑k:Int)+1)))),(21,(vI (↑(List.length m.sounds):Int))),(20,AV.sl (List.map eSnd
 m.sounds)),(1, .ptr 1 0 0)] [(1,Blk.mk true 0 0 [[AV.sl (List.map eStrm m.streams),AV.sl (List.map eSnd m.sounds)]])]) else none else none else some (Ex.exit (0:Nat),
 St.mk [(1, .ptr 1 0 0)] [(1,Blk.mk true 0 0 [[AV.sl (List.map eStrm m.streams),AV.sl (List.map eSnd m.sounds)]])]):=by kernel_rfl

theorem lpChM1_ok (m:Mas) (k:Nat) (hp:prlChM1 m k=true) : ∀ex s',(outChM1 m k).val=some (ex,s')→LoopOK enChM (loopN Tryz.f11 0) (stChM1 m k) ex s':=by
 simp only[prlChM1,Bool.and_eq_true,decide_eq_true_eq]at hp
 refine loop_code (xs:=m.sounds.zipIdx) (st:=stChM1 m) (g:=fun p:Snd×Nat=>F.sndF p.1 (m.sounds.take p.2)) (o:=fun c=>(.ret,⟨[(2,vI c)],[]⟩)) (n:=([22,21,20,1],[1])) (e:=([1],[1])) (r:=([2],[])) ?_ ⟨by simp,rfl⟩ (fun _=>⟨by simp,rfl⟩) (fun _=>rfl) ?_ k (by simp;exact hp.2)
 ·rw[evChM1L];simp[eMas]
 ·intro k y hy
  obtain⟨ha,hk⟩:=F.zipIdx_at hy
  have hlt:=lt_at ha
  rw[evChM1L]
  simp only[unSnFw,etaSnd,Option.bind_some,List.length_map,unSnds,cond_true,cast_lt hlt,decide_eq_true hlt,next_at hlt hp.1,getD_at ha,stChM1,ble_t (Nat.zero_le k),ble_t (Nat.le_of_lt hlt),all_Snds,Bool.and_self,←List.map_take,hk,eMas]
  by_cases h:F.sndF y.1 (m.sounds.take k)=0
  ·rw[h];rfl
  ·have hb:(F.sndF y.1 (m.sounds.take k) != 0)=true:=by simp[h]
   simp only[hb,cond_true,h,if_false]

theorem evChM2L (m:Mas) (k:Nat):((exec enChM (loopN Tryz.f11 1) (stChM2 m k)).bind (lessX ([40,39,38,1],[1]) ([],[]) ([2],[]))).val =
 bif decide ((↑k:Int)<(↑(List.length m.streams):Int)) then Option.bind (unenc (List.map eStrm) (List.map eStrm m.streams)) fun z=>bif decide (k <
 List.length z) then bif Nat.ble (0:Nat) k&&Nat.ble k (List.length (List.map eStrm m.streams))&&List.all (List.map eStrm m.streams) fun(r:Row)=>Nat.beq
 (List.length r) (7:Nat) then Option.bind (unenc encStF [AV.agg [(vS (List.getD z k (Strm.mk (ByteArray.mk (Array.mk [])) (ByteArray.mk (Array.mk [])) (0:Int) (0:Int)
 (0:Int) (0:Int) (ByteArray.mk (Array.mk [])))).name),(vS (List.getD z k (Strm.mk (ByteArray.mk (Array.mk [])) (ByteArray.mk (Array.mk [])) (0:Int) (0:Int) (0 :
 Int) (0:Int) (ByteArray.mk (Array.mk [])))).uri),(vI (List.getD z k (Strm.mk (ByteArray.mk (Array.mk [])) (ByteArray.mk (Array.mk [])) (0:Int) (0:Int) (0:Int) (0
 : Int) (ByteArray.mk (Array.mk [])))).mean),(vI (List.getD z k (Strm.mk (ByteArray.mk (Array.mk [])) (ByteArray.mk (Array.mk [])) (0:Int) (0:Int) (0:Int) (0:Int)
 (ByteArray.mk (Array.mk [])))).peak),(vI (List.getD z k (Strm.mk (ByteArray.mk (Array.mk [])) (ByteArray.mk (Array.mk [])) (0:Int) (0:Int) (0:Int) (0:Int)
 (ByteArray.mk (Array.mk [])))).width),(vI (List.getD z k (Strm.mk (ByteArray.mk (Array.mk [])) (ByteArray.mk (Array.mk [])) (0:Int) (0:Int) (0:Int) (0:Int)
 (ByteArray.mk (Array.mk [])))).height),(vS (List.getD z k (Strm.mk (ByteArray.mk (Array.mk [])) (ByteArray.mk (Array.mk [])) (0:Int) (0:Int) (0:Int) (0:Int)
 (ByteArray.mk (Array.mk [])))).sound)],AV.sl (List.take k (List.map eStrm m.streams)),AV.sl (List.map eSnd m.sounds)]) fun z=>bif
 F.strmF z.1 z.2.1 z.2.2 != 0 then some (Ex.ret,St.mk [(2,(vI (F.strmF z.1 z.2.1 z.2.2)))] []) else some (Ex.normal,St.mk [(40,(vI
 (IntKind.i64.wrap ((↑k:Int)+1)))),(39,(vI (↑(List.length m.streams):Int))),(38,AV.sl (List.map eStrm m.streams)),(1, .ptr 1 0 0)] [(1,Blk.mk
 true 0 0 [[AV.sl (List.map eStrm m.streams),AV.sl (List.map eSnd m.sounds)]])]) else none else none else some (Ex.exit (2:Nat),St.mk [] []):=by kernel_rfl

theorem lpChM2_ok (m:Mas) (k:Nat) (hp:prlChM2 m k=true) : ∀ex s',(outChM2 m k).val=some (ex,s')→LoopOK enChM (loopN Tryz.f11 1) (stChM2 m k) ex s':=by
 simp only[prlChM2,Bool.and_eq_true,decide_eq_true_eq]at hp
 refine loop_code (xs:=m.streams.zipIdx) (st:=stChM2 m) (g:=fun p:Strm×Nat=>F.strmF p.1 (m.streams.take p.2) m.sounds) (o:=fun c=>(.ret,⟨[(2,vI c)],[]⟩)) (n:=([40,39,38,1],[1])) (e:=([],[])) (r:=([2],[])) ?_ ⟨by simp,rfl⟩ (fun _=>⟨by simp,rfl⟩) (fun _=>rfl) ?_ k (by simp;exact hp.2)
 ·rw[evChM2L];simp
 ·intro k y hy
  obtain⟨ha,hk⟩:=F.zipIdx_at hy
  have hlt:=lt_at ha
  rw[evChM2L]
  simp only[unStFw,etaStrm,Option.bind_some,List.length_map,unStrms,cond_true,cast_lt hlt,decide_eq_true hlt,next_at hlt hp.1,getD_at ha,stChM2,ble_t (Nat.zero_le k),ble_t (Nat.le_of_lt hlt),all_Strms,Bool.and_self,←List.map_take,hk,eMas]
  by_cases h:F.strmF y.1 (m.streams.take k) m.sounds=0
  ·rw[h];rfl
  ·have hb:(F.strmF y.1 (m.streams.take k) m.sounds != 0)=true:=by simp[h]
   simp only[hb,cond_true,h,if_false]

theorem mas_len {m:Mas} (h:OkA (.agg (eMas m))):m.streams.length≤9223372036854775807∧m.sounds.length≤9223372036854775807:=by
 have h:=okA_agg h
 simp only[eMas,List.forall_mem_cons]at h
 exact⟨by simpa using(okA_sl h.1).1,by simpa using(okA_sl h.2.1).1⟩

theorem cast_gt (n:Nat):decide ((50:Int)<(n:Int))=decide (50<n):=by
 by_cases h:50<n
 ·rw[decide_eq_true h,decide_eq_true (by omega)]
 ·rw[decide_eq_false h,decide_eq_false (by omega)]

theorem evChM (m:Mas):(runF enChM false Tryz.f11 [.agg (eMas m)]).val =
 bif bif decide ((50:Int)<(↑(List.length (List.map eStrm m.streams)):Int)) then true else decide ((50:Int)<(↑(List.length (List.map eSnd m.sounds)):Int)) then
 some ((vI 2),[]) else Option.bind (unenc stChM11 (St.mk [(22,(vI 0)),(21,(vI (↑(List.length (List.map eSnd m.sounds)):Int))),(20,AV.sl (List.map
 eSnd m.sounds)),(1, .ptr 1 0 0)] [(1,Blk.mk true 0 0 [[AV.sl (List.map eStrm m.streams),AV.sl (List.map eSnd m.sounds)]])])) fun z=>bif decide
 (List.length z.1.sounds≤9223372036854775807)&&decide (z.2≤List.length z.1.sounds)&&true then bif decide (ffI (fun(p:Snd×Nat)=>F.sndF p.fst
 (List.take p.snd z.1.sounds)) (List.drop z.2 (List.zipIdx z.1.sounds))=(0:Int)) then Option.bind (unenc stChM21 (St.mk [(40,(vI 0)),(39,(vI
 (↑(List.length (List.map eStrm z.1.streams)):Int))),(38,AV.sl (List.map eStrm z.1.streams)),(1, .ptr 1 0 0)] [(1,Blk.mk true 0 0 [[AV.sl (List.map eStrm
 z.1.streams),AV.sl (List.map eSnd z.1.sounds)]])])) fun z=>bif decide (List.length z.1.streams≤9223372036854775807)&&decide (z.2 ≤
 List.length z.1.streams)&&true then bif decide (ffI (fun(p:Strm×Nat)=>F.strmF p.fst (List.take p.snd z.1.streams) z.1.sounds) (List.drop z.2 (List.zipIdx
 z.1.streams))=(0:Int)) then some ((vI 0),[]) else some ((vI (ffI (fun(p:Strm×Nat)=>F.strmF p.fst (List.take p.snd z.1.streams) z.1.sounds)
 (List.drop z.2 (List.zipIdx z.1.streams)))),[]) else none else some ((vI (ffI (fun(p:Snd×Nat)=>F.sndF p.fst (List.take p.snd z.1.sounds)) (List.drop z.2
 (List.zipIdx z.1.sounds)))),[]) else none:=by kernel_rfl

def encChM1 (m:Mas):List AV:=[.agg (eMas m)]

def encChM (a:Mas):List AV:=encChM1 a

theorem encChM_inj (a a':Mas) (h:encChM a=encChM a'):a=a':=by
 simp only[encChM,encChM1]at h
 try simp[eMas_iff]at h
 grind

theorem unChM (m:Mas):unenc encChM ([AV.agg [AV.sl (List.map eStrm m.streams),AV.sl (List.map eSnd m.sounds)]])=some (m):=unenc_of encChM_inj (m) rfl

theorem unChMw (m_streams:List Strm) (m_sounds:List Snd):unenc encChM ([AV.agg [AV.sl (List.map eStrm m_streams),AV.sl (List.map eSnd m_sounds)]])=some ((Mas.mk m_streams m_sounds)):=unenc_of encChM_inj ((Mas.mk m_streams m_sounds)) rfl

def resChM1 (m:Mas):AV×Heap:=(vI (F.chkM m),[])

def preChM1 (m:Mas):Bool:=true

noncomputable def oChM:Orc:=orc 11 true encChM (fun a=>preChM1 a) fun a=>resChM1 a

theorem okChM:OrcOK Tryz.prog noG oChM:=by
 refine mk_ok Tryz.f11 (keep:=false) (by kernel_rfl) (by kernel_rfl) enChM_ok mixed (two_loops (x0:=loopN Tryz.f11 0) (x1:=loopN Tryz.f11 1) (by kernel_rfl) (lpo_ok ?_) (lpo_ok ?_)) (by first | exact fun _ _=>⟨rfl,rfl⟩ | (intro h;cases h)) ?_
 ·rintro⟨m,k⟩ hp
  exact lpChM1_ok m k hp
 ·rintro⟨m,k⟩ hp
  exact lpChM2_ok m k hp
 rintro m hpre hok
 show(runF enChM false _ (encChM1 _)).val=some (resChM1 _)
 unfold encChM1 resChM1
 rw[evChM]
 obtain⟨h1,h2⟩:=mas_len (hok _ (List.mem_cons_self ..))
 simp only[unstChM10,unstChM20,Option.bind_some,List.length_map,cond_true,Bool.and_true,h1,h2,List.drop_zero,Nat.zero_le,decide_true,F.chkM,F.sndsF,F.strmsF,cast_gt]
 cases decide (50<m.streams.length)
 ·cases decide (50<m.sounds.length)
  ·generalize M.ffI _ m.sounds.zipIdx=a
   generalize M.ffI _ m.streams.zipIdx=b
   by_cases ha:a=0
   ·simp only[ha,decide_true,cond_true,cond_false,bne_self_eq_false,Bool.or_self]
    by_cases hb:b=0
    ·simp only[hb,decide_true,cond_true]
    ·simp only[hb,decide_false,cond_false]
   ·have hb:(a != 0)=true:=by simp[ha]
    simp only[ha,hb,decide_false,cond_true,cond_false,Bool.or_self]
  ·rfl
 ·rfl

end M

noncomputable def F.rate (b g sc:Int):Int:=F.sealI (F.sclW (IntKind.i64.wrap (8*b)) sc g 3)

def F.stB (l:List Seg):Int:=l.foldl (fun n s=>IntKind.i64.wrap (n+s.bytes)) 0

def F.stG (l:List Seg):Int:=l.foldl (fun n s=>IntKind.i64.wrap (n+s.length)) 0

noncomputable def F.stP (sc:Int) (l:List Seg):Int:=l.foldl (fun n s=>max n (F.rate s.bytes s.length sc)) 0

def F.lstN (s:ByteArray):ByteArray:=s++⟨#[46,108,105,115,116]⟩

noncomputable def F.strO (r:Std) (l:List Seg) (c:Scr) (s:ByteArray):Strm:=⟨r.name,F.lstN r.name,F.rate (F.stB l) (F.stG l) r.scale,F.stP r.scale l,c.width,c.height,s⟩

def F.sgsB (l:List Seg):Bool:=decide (1≤l.length)&&(decide (l.length≤1000)&&l.all fun s=>decide (1≤s.length)&&decide (s.length≤1000000000000000))

theorem F.sgsB_ok {l:List Seg} (h:F.sgsB l=true):1≤l.length∧l.length≤1000 ∧ ∀s∈l,1≤s.length∧s.length≤1000000000000000:=by
 unfold F.sgsB at h
 simp only[Bool.and_eq_true,decide_eq_true_eq,List.all_eq_true]at h
 exact h

theorem F.stG_take {l:List Seg} (h:F.sgsB l=true) : ∀k,k≤l.length→(k:Int)≤F.stG (l.take k)∧F.stG (l.take k)≤k*1000000000000000
 | 0,_=>by simp[F.stG]
 | k+1,hk=>by
  obtain⟨h1,h2,h3⟩:=F.sgsB_ok h
  have ih:=F.stG_take h k (by omega)
  have hy:l[k]? = some l[k]:=List.getElem?_eq_getElem (by omega)
  obtain⟨a,b⟩:=h3 _ (List.getElem_mem (show k<l.length by omega))
  unfold F.stG at ih ⊢
  rw[List.take_add_one,hy,List.foldl_append]
  simp only[Option.toList_some,List.foldl_cons,List.foldl_nil]
  generalize l[k]=s at a b
  generalize List.foldl (fun(n:Int) (s:Seg)=>IntKind.i64.wrap (n+s.length)) 0 (l.take k)=t at ih
  rw[M.wrap_id (by omega) (by omega)]
  omega

theorem F.stG_ok {l:List Seg} (h:F.sgsB l=true):1≤F.stG l∧F.i64B (F.stG l)=true:=by
 obtain⟨h1,h2,h3⟩:=F.sgsB_ok h
 have:=F.stG_take h l.length (Nat.le_refl _)
 rw[List.take_length]at this
 refine⟨by omega,?_⟩
 unfold F.i64B
 rw[decide_eq_true (by omega),decide_eq_true (by omega)]
 rfl

theorem F.wrap_i64B (n:Int):F.i64B (IntKind.i64.wrap n)=true:=by
 unfold F.i64B
 rw[IntKind.wrap_i64,decide_eq_true (by omega),decide_eq_true (by omega)]
 rfl

namespace M

theorem take_fold {α β:Type} {l:List α} {k:Nat} {y:α} (h:l[k]? = some y) (f:β→α→β) (b:β):f ((l.take k).foldl f b) y=(l.take (k+1)).foldl f b:=by
 rw[List.take_add_one,h,List.foldl_append]
 rfl

noncomputable def enRto:Env:=envH ty noG lks [oScG] [] [] []

theorem enRto_ok:EnvOK Tryz.prog enRto:=by
 refine envH_ok lks_ok ty_ok ?_ ?_
 ·simp only[List.forall_mem_cons]
  exact⟨okScG,by simp⟩
 ·simp

theorem evRto (b:Int) (g:Int) (sc:Int):(runF enRto false Tryz.f109 [vI b,vI g,vI sc]).val =
 Option.bind (unenc encScG [(vI (IntKind.i64.wrap ((8:Int)*b))),(vI sc),(vI g),(vI 3)]) fun z=>bif F.i64B z.1 &&
 (decide ((0:Int)≤z.2.1)&&(F.i64B z.2.1&&(decide ((1:Int)≤z.2.2.1)&&F.i64B z.2.2.1))) then some ((vI (F.sealI (F.sclW z.1 z.2.1
 z.2.2.1 z.2.2.2))),[]) else none:=(runFR_val).symm.trans (by kernel_rfl)

def encRto1 (b:Int) (g:Int) (sc:Int):List AV:=[vI b,vI g,vI sc]

def encRto (a:Int×Int×Int):List AV:=encRto1 a.1 a.2.1 a.2.2

theorem encRto_inj (a a':Int×Int×Int) (h:encRto a=encRto a'):a=a':=by
 simp only[encRto,encRto1]at h
 try simp[]at h
 grind

theorem unRto (b:Int) (g:Int) (sc:Int):unenc encRto ([(vI b),(vI g),(vI sc)])=some (b,g,sc):=unenc_of encRto_inj (b,g,sc) rfl

noncomputable def resRto1 (b:Int) (g:Int) (sc:Int):AV×Heap:=(vI (F.rate b g sc),[])

def preRto1 (b:Int) (g:Int) (sc:Int):Bool:=decide (1≤g)&&(F.i64B g && !F.noScale sc)

noncomputable def oRto:Orc:=orc 109 true encRto (fun a=>preRto1 a.1 a.2.1 a.2.2) fun a=>resRto1 a.1 a.2.1 a.2.2

theorem okRto:OrcOK Tryz.prog noG oRto:=by
 refine mk_ok Tryz.f109 (keep:=false) (by kernel_rfl) (by kernel_rfl) enRto_ok mixed (no_loops (by kernel_rfl)) (by first | exact fun _ _=>⟨rfl,rfl⟩ | (intro h;cases h)) ?_
 rintro⟨b,g,sc⟩ hpre hok
 show(runF enRto false _ (encRto1 _ _ _)).val=some (resRto1 _ _ _)
 unfold encRto1 resRto1
 rw[evRto]
 simp only[preRto1,Bool.and_eq_true,decide_eq_true_eq]at hpre
 obtain⟨h1,h2,h3⟩:=hpre
 obtain⟨s1,s2,s3⟩:=F.noScale_ok (show F.noScale sc=false by simpa using h3)
 simp only[unScG,Option.bind_some,cond_true,F.wrap_i64B,decide_eq_true (show(0:Int)≤sc by omega),s3,decide_eq_true h1,h2,Bool.and_self]
 try rfl

noncomputable def stSto (r:Std) (l:List Seg) (c:Scr) (s:ByteArray) (k:Nat):St:=⟨[(27,vI k),(26,vI l.length),(25, .sl (l.map eSeg)),(11,vI (F.stG (l.take k))),(10,vI (F.stB (l.take k))),(9, .ptr 9 0 0),(8, .ptr 8 0 0),(4, .ptr 4 0 0)],[(9,⟨true,0,0,[[vS r.name,vS (F.lstN r.name),vI 0,vI (F.stP r.scale (l.take k)),vI c.width,vI c.height,vS s]]⟩),(8,⟨true,0,0,[[vS ⟨#[]⟩,vS ⟨#[]⟩,vI 0,vI 0,vI 0,vI 0,vS ⟨#[]⟩]]⟩),(4,⟨true,0,0,[eStd r]⟩)]⟩

noncomputable def stSto1 (a:Std×(List Seg)×Scr×ByteArray×Nat):St:=stSto a.1 a.2.1 a.2.2.1 a.2.2.2.1 a.2.2.2.2

theorem stSto_inj (a a':Std×(List Seg)×Scr×ByteArray×Nat) (h:stSto1 a=stSto1 a'):a=a':=by
 simp only[stSto1,stSto]at h
 (obtain⟨r,l,⟨w,q⟩,s,k⟩:=a;obtain⟨r',l',⟨w',q'⟩,s',k'⟩:=a';simp[eSegs_inj,eStd_iff]at h;grind)

noncomputable def outSto (r:Std) (l:List Seg) (c:Scr) (s:ByteArray) (k:Nat):T (Ex×St):= .ret (.exit 0,⟨[(11,vI (F.stG l)),(10,vI (F.stB l)),(9, .ptr 9 0 0),(8, .ptr 8 0 0),(4, .ptr 4 0 0)],[(9,⟨true,0,0,[[vS r.name,vS (F.lstN r.name),vI 0,vI (F.stP r.scale l),vI c.width,vI c.height,vS s]]⟩),(8,⟨true,0,0,[[vS ⟨#[]⟩,vS ⟨#[]⟩,vI 0,vI 0,vI 0,vI 0,vS ⟨#[]⟩]]⟩),(4,⟨true,0,0,[eStd r]⟩)]⟩)

noncomputable def prlSto (r:Std) (l:List Seg) (c:Scr) (s:ByteArray) (k:Nat):Bool:=F.sgsB l&&(!F.noScale r.scale&&decide (k≤l.length))

noncomputable def lpSto:Nat×(St→T (Ex×St)):=(4,lpo [27,26,25,11,10,9,8,4] [9,8,4] stSto1 (fun a=>prlSto a.1 a.2.1 a.2.2.1 a.2.2.2.1 a.2.2.2.2) fun a=>outSto a.1 a.2.1 a.2.2.1 a.2.2.2.1 a.2.2.2.2)

noncomputable def enSto:Env:=envH ty noG lks [oRto] [] [] [lpSto]

theorem enSto_ok:EnvOK Tryz.prog enSto:=by
 refine envH_ok lks_ok ty_ok ?_ ?_
 ·simp only[List.forall_mem_cons]
  exact⟨okRto,by simp⟩
 ·simp

theorem evStoL (r:Std) (l:List Seg) (c:Scr) (s:ByteArray) (k:Nat):((exec enSto (loopN Tryz.f58 0) (stSto r l c s k)).bind (lessX ([27,26,25,11,10,9,8,4],[9,8,4]) ([11,10,9,8,4],[9,8,4]) ([],[]))).val =
 (fun(q:AV)=>(fun(q_1:Seg)=>(fun(q_2:List AV)=>(fun(q_3:List (Nat×AV))=>(fun(q:List (Nat×Blk))=>bif decide ((↑k:Int)<(↑(List.length l) :
 Int)) then Option.bind (unenc (List.map eSeg) (List.map eSeg l)) fun z=>bif decide (k<List.length z) then Option.bind (unenc encRto [(vI (List.getD z k
 q_1).bytes),(vI (List.getD z k q_1).length),(vI r.scale)]) fun z_1=>bif decide ((1:Int)≤z_1.2.1)&&(F.i64B z_1.2.1 && !F.noScale
 z_1.2.2) then some (Ex.normal,St.mk ((27,(vI (IntKind.i64.wrap ((↑k:Int)+1))))::(26,(vI (↑(List.length l):Int)))::(25,AV.sl (List.map
 eSeg l))::(11,(vI (IntKind.i64.wrap (F.stG (List.take k l)+(List.getD z k q_1).length))))::(10,(vI (IntKind.i64.wrap (F.stB (List.take k l) +
 (List.getD z k q_1).bytes))))::q_3) ((9,Blk.mk true 0 0 [(vS r.name)::(vS (F.lstN r.name))::(vI 0)::(vI (max (F.stP r.scale (List.take k l)) (F.rate
 z_1.1 z_1.2.1 z_1.2.2)))::q_2])::q)) else none else none else some (Ex.exit (0:Nat),St.mk ((11,(vI (F.stG (List.take k l))))::(10,(vI (F.stB
 (List.take k l))))::q_3) ((9,Blk.mk true 0 0 [(vS r.name)::(vS (F.lstN r.name))::(vI 0)::(vI (F.stP r.scale (List.take k l)))::q_2])::q))) [(8,Blk.mk
 true 0 0 [[q,q,(vI 0),(vI 0),(vI 0),(vI 0),q]]),(4,Blk.mk true 0 0 [[(vS r.name),(vI r.scale),(vB r.sound),AV.sl (List.map eSmp
 r.samples)]])]) [(9, .ptr 9 0 0),(8, .ptr 8 0 0),(4, .ptr 4 0 0)]) [(vI c.width),(vI c.height),(vS s)]) (Seg.mk (0:Int) (0:Int) (0:Int) (0:Int) (0:Int) (0 :
 Int) (0:Int))) ((vS ⟨⟨[]⟩⟩)):=(execR_bind _ _ _).symm.trans (by kernel_rfl)

theorem lpSto_ok (r:Std) (l:List Seg) (c:Scr) (s:ByteArray) (k:Nat) (hp:prlSto r l c s k=true) : ∀ex s',(outSto r l c s k).val=some (ex,s')→LoopOK enSto (loopN Tryz.f58 0) (stSto r l c s k) ex s':=by
 simp only[prlSto,Bool.and_eq_true,decide_eq_true_eq]at hp
 obtain⟨h1,h2,h3⟩:=hp
 obtain⟨n1,n2,n3⟩:=F.sgsB_ok h1
 refine loop_gen (st:=fun k:Nat=>stSto r l c s k) (out:=fun k=>outSto r l c s k) (I:=fun k=>k≤l.length) (n:=([27,26,25,11,10,9,8,4],[9,8,4])) (e:=([11,10,9,8,4],[9,8,4])) (r:=([],[])) (fun k=>l.length - k) ?_ k h3
 clear h3 k
 intro k h3
 by_cases hlt:k<l.length
 ·right
  have hy:l[k]? = some l[k]:=List.getElem?_eq_getElem hlt
  have hN:=next_at hlt (by omega:l.length≤9223372036854775807)
  obtain⟨q1,q2⟩:=n3 _ (List.getElem_mem hlt)
  generalize l[k]=y at hy q1 q2
  have f1:IntKind.i64.wrap (F.stB (l.take k)+y.bytes)=F.stB (l.take (k+1)):=take_fold hy (fun n (s:Seg)=>IntKind.i64.wrap (n+s.bytes)) 0
  have f2:IntKind.i64.wrap (F.stG (l.take k)+y.length)=F.stG (l.take (k+1)):=take_fold hy (fun n (s:Seg)=>IntKind.i64.wrap (n+s.length)) 0
  have f3:max (F.stP r.scale (l.take k)) (F.rate y.bytes y.length r.scale)=F.stP r.scale (l.take (k+1)):=take_fold hy (fun n (s:Seg)=>max n (F.rate s.bytes s.length r.scale)) 0
  have b1:F.i64B y.length=true:=by unfold F.i64B;rw[decide_eq_true (by omega),decide_eq_true (by omega)];rfl
  refine⟨k+1,?_,rfl,hlt,by omega,rfl⟩
  rw[evStoL]
  simp only[unRto,Option.bind_some,unSegs,cond_true,Bool.and_true,cast_lt hlt,decide_eq_true hlt,hN,getD_at hy,decide_eq_true q1,b1,h2,Bool.and_self,f1,f2,f3]
  try rfl
 ·left
  have hk:k=l.length:=by omega
  subst hk
  refine⟨_,?_,rfl,by simp,rfl⟩
  rw[evStoL]
  simp only[unRto,Option.bind_some,unSegs,cond_false,cast_ge,List.take_length]
  try rfl

theorem evSto (r:Std) (l:List Seg) (c:Scr) (s:ByteArray):(runF enSto false Tryz.f58 [.agg (eStd r), .sl (l.map eSeg), .agg (eScr c),vS s]).val =
 bif Nat.ble (ByteArray.size r.name+ByteArray.size (ByteArray.mk (Array.mk [(46:UInt8),(108:UInt8),(105:UInt8),(115:UInt8),(116:UInt8)])))
 (9223372036854775807:Nat) then Option.bind (unenc stSto1 (St.mk [(27,(vI 0)),(26,(vI (↑(List.length (List.map eSeg l)):Int))),(25,AV.sl (List.map eSeg
 l)),(11,(vI 0)),(10,(vI 0)),(9, .ptr 9 0 0),(8, .ptr 8 0 0),(4, .ptr 4 0 0)] [(9,Blk.mk true 0 0 [[(vS r.name),(vS (r.name++ByteArray.mk
 (Array.mk [(46:UInt8),(108:UInt8),(105:UInt8),(115:UInt8),(116:UInt8)]))),(vI 0),(vI 0),(vI c.width),(vI c.height),(vS s)]]),(8,Blk.mk
 true 0 0 [[(vS ⟨⟨[]⟩⟩),(vS ⟨⟨[]⟩⟩),(vI 0),(vI 0),(vI 0),(vI 0),(vS (ByteArray.mk
 (Array.mk [])))]]),(4,Blk.mk true 0 0 [[(vS r.name),(vI r.scale),(vB r.sound),AV.sl (List.map eSmp r.samples)]])])) fun(z:Std×List Seg×Scr×ByteArray×Nat)
 =>bif F.sgsB z.2.1&&(!F.noScale z.1.scale&&decide (z.2.2.2.2≤List.length z.2.1))&&true then Option.bind (unenc encRto [(vI (F.stB z.2.1)),
 (vI (F.stG z.2.1)),(vI z.1.scale)]) fun z_1=>bif decide ((1:Int)≤z_1.2.1)&&(F.i64B z_1.2.1 && !F.noScale z_1.2.2) then some
 (AV.agg [(vS z.1.name),(vS (F.lstN z.1.name)),(vI (F.rate z_1.1 z_1.2.1 z_1.2.2)),(vI (F.stP z.1.scale z.2.1)),(vI z.2.2.1.width),(vI
 z.2.2.1.height),(vS z.2.2.2.1)],[]) else none else none else none:=(runFR_val).symm.trans (by kernel_rfl)

def encSto1 (r:Std) (l:List Seg) (c:Scr) (s:ByteArray):List AV:=[.agg (eStd r), .sl (l.map eSeg), .agg (eScr c),vS s]

def encSto (a:Std×(List Seg)×Scr×ByteArray):List AV:=encSto1 a.1 a.2.1 a.2.2.1 a.2.2.2

theorem encSto_inj (a a':Std×(List Seg)×Scr×ByteArray) (h:encSto a=encSto a'):a=a':=by
 simp only[encSto,encSto1]at h
 try simp[eSegs_inj,eStd_iff,eScr_iff]at h
 grind

theorem unSto (r:Std) (l:List Seg) (c:Scr) (s:ByteArray):unenc encSto ([AV.agg [(vS r.name),(vI r.scale),(vB r.sound),AV.sl (List.map eSmp r.samples)],AV.sl (List.map eSeg l),AV.agg [(vI c.width),(vI c.height)],(vS s)])=some (r,l,c,s):=unenc_of encSto_inj (r,l,c,s) rfl

theorem unStow (r_name:ByteArray) (r_scale:Int) (r_sound:Bool) (r_samples:List Smp) (l:List Seg) (c_width:Int) (c_height:Int) (s:ByteArray):unenc encSto ([AV.agg [(vS r_name),(vI r_scale),(vB r_sound),AV.sl (List.map eSmp r_samples)],AV.sl (List.map eSeg l),AV.agg [(vI c_width),(vI c_height)],(vS s)])=some ((Std.mk r_name r_scale r_sound r_samples),l,(Scr.mk c_width c_height),s):=unenc_of encSto_inj ((Std.mk r_name r_scale r_sound r_samples),l,(Scr.mk c_width c_height),s) rfl

noncomputable def resSto1 (r:Std) (l:List Seg) (c:Scr) (s:ByteArray):AV×Heap:=(.agg (eStrm (F.strO r l c s)),[])

def preSto1 (r:Std) (l:List Seg) (c:Scr) (s:ByteArray):Bool:=F.sgsB l&&(!F.noScale r.scale&&decide (r.name.size≤40))

noncomputable def oSto:Orc:=orc 58 true encSto (fun a=>preSto1 a.1 a.2.1 a.2.2.1 a.2.2.2) fun a=>resSto1 a.1 a.2.1 a.2.2.1 a.2.2.2

theorem okSto:OrcOK Tryz.prog noG oSto:=by
 refine mk_ok Tryz.f58 (keep:=false) (by kernel_rfl) (by kernel_rfl) enSto_ok mixed (one_loop (x0:=loopN Tryz.f58 0) (by kernel_rfl) (lpo_ok ?_)) (by first | exact fun _ _=>⟨rfl,rfl⟩ | (intro h;cases h)) ?_
 ·rintro⟨r,l,c,s,k⟩ hp
  exact lpSto_ok r l c s k hp
 rintro⟨r,l,c,s⟩ hpre hok
 show(runF enSto false _ (encSto1 _ _ _ _)).val=some (resSto1 _ _ _ _)
 unfold encSto1 resSto1
 rw[evSto]
 simp only[preSto1,Bool.and_eq_true,decide_eq_true_eq]at hpre
 obtain⟨h1,h2,h3⟩:=hpre
 obtain⟨g1,g2⟩:=F.stG_ok h1
 have z:unenc stSto1 (St.mk [(27,(vI 0)),(26,(vI (l.length:Int))),(25,AV.sl (List.map eSeg l)),(11,(vI 0)),(10,(vI 0)),(9, .ptr 9 0 0),(8, .ptr 8 0 0),(4, .ptr 4 0 0)] [(9,Blk.mk true 0 0 [[(vS r.name),(vS (r.name++⟨#[46,108,105,115,116]⟩)),(vI 0),(vI 0),(vI c.width),(vI c.height),(vS s)]]),(8,Blk.mk true 0 0 [[(vS ⟨#[]⟩),(vS ⟨#[]⟩),(vI 0),(vI 0),(vI 0),(vI 0),(vS ⟨#[]⟩)]]),(4,Blk.mk true 0 0 [[(vS r.name),(vI r.scale),(vB r.sound),AV.sl (List.map eSmp r.samples)]])])=some (r,l,c,s,0):=unenc_of stSto_inj (r,l,c,s,0) rfl
 have b1:Nat.ble (r.name.size+(⟨#[46,108,105,115,116]⟩:ByteArray).size) 9223372036854775807=true:=ble_t (by rw[show(⟨#[46,108,105,115,116]⟩:ByteArray).size=5 from rfl];omega)
 simp only[unRto,Option.bind_some,List.length_map,cond_true,Bool.and_true,List.length_map,b1]
 try rw[z]
 simp only[Option.bind_some,h1,h2,Nat.zero_le,decide_true,Bool.and_self,cond_true,decide_eq_true g1,g2]
 try rfl

end M

end Go.Proofs.YtpaeopnlblhpoaaGreatDoor
