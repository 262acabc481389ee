/- What is proved here: boundaries are chosen, on plain data (no statement of the seat). -/
import Derived.Test.YtpaeopnlblhpoaaGreatDoorT31X3

namespace Go.Proofs.YtpaeopnlblhpoaaGreatDoor
open Go Go.RowKit
set_option linter.unusedVariables false
set_option linter.unusedSimpArgs false
set_option maxHeartbeats 1000000

def F.noTm (n:Int):Bool:=F.out n (-1000000000000000) 1000000000000000

def F.smpB (s:Smp):Bool:=F.noTm s.time||(F.out s.step 0 1000000000||(F.out s.shift (-1000000000) 1000000000||F.out s.size 0 100000))

def F.smpE (l:List Smp) (k:Nat):Int:=IntKind.i64.wrap ((l.getD (k - 1) ⟨0,0,0,0,false⟩).time+(l.getD (k - 1) ⟨0,0,0,0,false⟩).step)

def F.smpF (l:List Smp) (p:Smp×Nat):Int:=bif F.smpB p.1 then 1 else bif decide (0<p.2)&&(p.1.time != F.smpE l p.2) then 8 else 0

def F.smpsF (l:List Smp):Int:=M.ffI (F.smpF l) l.zipIdx

def F.chkS (l:List Smp):Int:=bif F.lt 5000 l.length then 2 else bif F.smpsF l != 0 then F.smpsF l else bif decide (0<l.length)&&F.noTm (F.smpE l l.length) then 1 else 0

def F.pr (s:Smp):Int:=IntKind.i64.wrap (s.time+s.shift)

def F.prs (l:List Smp):List Int:=l.map F.pr

theorem F.zipIdx_at {α:Type} {l:List α} {k:Nat} {y:α×Nat} (h:l.zipIdx[k]? = some y):l[k]? = some y.1∧y.2=k:=by
 rw[List.getElem?_zipIdx]at h
 cases hl:l[k]? with
 | none=>rw[hl]at h;cases h
 | some x=>
  rw[hl]at h
  simp only[Option.map_some,Option.some.injEq]at h
  subst h
  simp

theorem F.chkS_len {l:List Smp} (h:F.chkS l=0):l.length≤5000:=by
 unfold F.chkS F.lt at h
 by_cases h1:(5000:Int)<l.length
 ·rw[decide_eq_true h1]at h;simp at h
 ·omega

theorem F.ffI_all {α:Type} {g:α→Int} : ∀ {l:List α},M.ffI g l=0 → ∀y∈l,g y=0
 | [],_,y,hy=>by cases hy
 | x::l,h,y,hy=>by
  simp only[M.ffI]at h
  by_cases h0:g x=0
  ·rw[if_pos h0]at h
   rcases List.mem_cons.1 hy with rfl | hy
   ·exact h0
   ·exact F.ffI_all h y hy
  ·rw[if_neg h0]at h;exact absurd h h0

theorem F.chkS_at {l:List Smp} (h:F.chkS l=0) {s:Smp} (hs:s∈l):F.smpB s=false:=by
 unfold F.chkS at h
 cases h1:F.lt 5000 l.length with
 | true=>rw[h1]at h;simp at h
 | false=>
  rw[h1]at h
  by_cases h2:F.smpsF l=0
  ·obtain⟨k,hk,rfl⟩:=List.mem_iff_getElem.1 hs
   have hm:(l[k],k)∈l.zipIdx:=List.mem_zipIdx_iff_getElem?.2 (List.getElem?_eq_getElem hk)
   have:=F.ffI_all h2 _ hm
   unfold F.smpF at this
   cases hb:F.smpB l[k]with
   | true=>rw[hb]at this;simp at this
   | false=>rfl
  ·have:(F.smpsF l != 0)=true:=by simp[h2]
   rw[this]at h
   exact absurd h h2

theorem F.smpB_ok {s:Smp} (h:F.smpB s=false):(-1000000000000000≤s.time∧s.time≤1000000000000000)∧(0≤s.step∧s.step≤1000000000)∧(-1000000000≤s.shift∧s.shift≤1000000000)∧(0≤s.size∧s.size≤100000)∧F.pr s=s.time+s.shift:=by
 unfold F.smpB F.noTm F.out at h
 simp only[Bool.or_eq_false_iff,decide_eq_false_iff_not]at h
 refine⟨by omega,by omega,by omega,by omega,?_⟩
 unfold F.pr
 exact M.wrap_id (by omega) (by omega)

namespace M

noncomputable def enNoTm:Env:=envH ty noG lks [oOut] [] [] []

theorem enNoTm_ok:EnvOK Tryz.prog enNoTm:=by
 refine envH_ok lks_ok ty_ok ?_ ?_
 ·simp only[List.forall_mem_cons]
  exact⟨okOut,by simp⟩
 ·simp

theorem evNoTm (n:Int):(runF enNoTm false Tryz.f99 [vI n]).val =
 Option.bind (unenc encOut [(vI n),(vI (-1000000000000000:Int)),(vI 1000000000000000)]) fun z=>some ((vB (F.out z.1 z.2.1
 z.2.2)),[]):=(runFR_val).symm.trans (by kernel_rfl)

def encNoTm1 (n:Int):List AV:=[vI n]

def encNoTm (a:Int):List AV:=encNoTm1 a

theorem encNoTm_inj (a a':Int) (h:encNoTm a=encNoTm a'):a=a':=by
 simp only[encNoTm,encNoTm1]at h
 try simp[]at h
 grind

theorem unNoTm (n:Int):unenc encNoTm ([(vI n)])=some (n):=unenc_of encNoTm_inj (n) rfl

def resNoTm1 (n:Int):AV×Heap:=(vB (F.noTm n),[])

def preNoTm1 (n:Int):Bool:=true

noncomputable def oNoTm:Orc:=orc 99 true encNoTm (fun a=>preNoTm1 a) fun a=>resNoTm1 a

theorem okNoTm:OrcOK Tryz.prog noG oNoTm:=by
 refine mk_ok Tryz.f99 (keep:=false) (by kernel_rfl) (by kernel_rfl) enNoTm_ok mixed (no_loops (by kernel_rfl)) (by first | exact fun _ _=>⟨rfl,rfl⟩ | (intro h;cases h)) ?_
 rintro n hpre hok
 show(runF enNoTm false _ (encNoTm1 _)).val=some (resNoTm1 _)
 unfold encNoTm1 resNoTm1
 rw[evNoTm]
 simp only[unOut,Option.bind_some,F.noTm]
 done

theorem idx_pred {k:Nat} (h:0<k) (hk:k≤9223372036854775807):idx (IntKind.i64.wrap ((k:Int) - 1))=some (k - 1):=by
 rw[wrap_id (by omega) (by omega),show(k:Int) - 1=((k - 1:Nat):Int) by omega]
 rfl

def stChS (l:List Smp) (k:Nat):St:=⟨[(11,vI k),(10,vI l.length),(9, .sl (l.map eSmp)),(0, .sl (l.map eSmp))],[]⟩

def stChS1 (a:(List Smp)×Nat):St:=stChS a.1 a.2

theorem stChS_inj (a a':(List Smp)×Nat) (h:stChS1 a=stChS1 a'):a=a':=by
 simp only[stChS1,stChS]at h
 try simp[eSmps_inj]at h
 grind

theorem unstChS0 (l:List Smp)  : unenc stChS1 (St.mk [(11,(vI (0:Int))),(10,(vI (↑(List.length l):Int))),(9,AV.sl (List.map eSmp l)),(0,AV.sl (List.map eSmp l))] [])=some (l,0):=unenc_of stChS_inj (l,0) rfl

def outChS (l:List Smp) (k:Nat):T (Ex×St):= .ifB (decide (M.ffI (F.smpF l) (l.zipIdx.drop k)=0)) (.ret (.exit 0,⟨[(0, .sl (l.map eSmp))],[]⟩)) (.ret (.ret,⟨[(2,vI (M.ffI (F.smpF l) (l.zipIdx.drop k)))],[]⟩))

noncomputable def prlChS (l:List Smp) (k:Nat):Bool:=decide (l.length≤5000)&&decide (k≤l.length)

noncomputable def lpChS:Nat×(St→T (Ex×St)):=(4,lpo [11,10,9,0] [] stChS1 (fun a=>prlChS a.1 a.2) fun a=>outChS a.1 a.2)

noncomputable def enChS:Env:=envH ty noG lks [oNoTm,oOut] [] [] [lpChS]

theorem enChS_ok:EnvOK Tryz.prog enChS:=by
 refine envH_ok lks_ok ty_ok ?_ ?_
 ·simp only[List.forall_mem_cons]
  exact⟨okNoTm,okOut,by simp⟩
 ·simp

theorem evChSL (l:List Smp) (k:Nat):((exec enChS (loopN Tryz.f94 0) (stChS l k)).bind (lessX ([11,10,9,0],[]) ([0],[]) ([2],[]))).val =
 (fun(q:Smp)=>(fun(q_1:Option (Ex×St))=>(fun(q_2:Option (Ex×St))=>bif decide ((↑k:Int)<(↑(List.length l):Int)) then Option.bind (unenc (List.map
 eSmp) (List.map eSmp l)) fun z=>bif decide (k<List.length z) then Option.bind (unenc encNoTm [(vI (List.getD z k q).time)]) fun z_1=>bif !F.noTm
 z_1 then Option.bind (unenc encOut [(vI (List.getD z k q).step),(vI 0),(vI 1000000000)]) fun z_2=>bif !F.out z_2.1 z_2.2.1
 z_2.2.2 then Option.bind (unenc encOut [(vI (List.getD z k q).shift),(vI (-1000000000:Int)),(vI 1000000000)]) fun z_3=>bif !F.out
 z_3.1 z_3.2.1 z_3.2.2 then Option.bind (unenc encOut [(vI (List.getD z k q).size),(vI 0),(vI 100000)]) fun z_4=>bif F.out
 z_4.1 z_4.2.1 z_4.2.2 then q_1 else bif decide ((0:Int)<(↑k:Int)) then Option.bind (idx (IntKind.i64.wrap ((↑k:Int) - (1:Int)))) fun(z_5 :
 Nat)=>Option.bind (unenc (List.map eSmp) (List.map eSmp l)) fun z_6=>bif decide (z_5<List.length z_6) then Option.bind (idx (IntKind.wrap IntKind.i64
 ((↑k:Int) - (1:Int)))) fun z_7=>Option.bind (unenc (List.map eSmp) (List.map eSmp l)) fun z_8=>bif decide (z_7<List.length z_8) then bif
 (List.getD z k q).time != IntKind.i64.wrap ((List.getD z_6 z_5 q).time+(List.getD z_8 z_7 q).step) then some (Ex.ret,St.mk [(2,(vI 8))] []) else q_2
 else none else none else q_2 else q_1 else q_1 else q_1 else none else some (Ex.exit (0:Nat),St.mk [(0,AV.sl (List.map eSmp l))] [])) (some (Ex.normal,St.mk [(11,(vI
 (IntKind.i64.wrap ((↑k:Int)+1)))),(10,(vI (↑(List.length l):Int))),(9,AV.sl (List.map eSmp l)),(0,AV.sl (List.map eSmp l))] []))) (some
 (Ex.ret,St.mk [(2,(vI 1))] []))) (Smp.mk (0:Int) (0:Int) (0:Int) (0:Int) false):=(execR_bind _ _ _).symm.trans (by kernel_rfl)

theorem lpChS_ok (l:List Smp) (k:Nat) (hp:prlChS l k=true) : ∀ex s',(outChS l k).val=some (ex,s')→LoopOK enChS (loopN Tryz.f94 0) (stChS l k) ex s':=by
 simp only[prlChS,Bool.and_eq_true,decide_eq_true_eq]at hp
 refine loop_code (xs:=l.zipIdx) (st:=stChS l) (g:=F.smpF l) (o:=fun c=>(.ret,⟨[(2,vI c)],[]⟩)) (n:=([11,10,9,0],[])) (e:=([0],[])) (r:=([2],[])) ?_ ⟨by simp,rfl⟩ (fun _=>⟨by simp,rfl⟩) (fun _=>rfl) ?_ k (by simp;exact hp.2)
 ·rw[evChSL];simp
 ·intro k y hy
  obtain⟨ha,hk⟩:=F.zipIdx_at hy
  have hlt:=lt_at ha
  have h1:=hp.1
  have hd:decide (k - 1<l.length)=true:=decide_eq_true (by omega)
  unfold F.smpF F.smpB F.smpE
  rw[hk]
  rw[evChSL]
  by_cases h0:0<k
  ·have hi:=idx_pred h0 (by omega:k≤9223372036854775807)
   simp only[unNoTm,unOut,Option.bind_some,unSmps,cond_true,Bool.true_and,cast_lt hlt,decide_eq_true hlt,next_at hlt (by omega:l.length≤9223372036854775807),getD_at ha,stChS,hi,hd,decide_eq_true h0,decide_eq_true (show(0:Int)<(k:Int) by omega)]
   generalize F.noTm y.1.time=a1
   generalize F.out y.1.step 0 1000000000=a2
   generalize F.out y.1.shift (-1000000000) 1000000000=a3
   generalize F.out y.1.size 0 100000=a4
   generalize (y.1.time != IntKind.i64.wrap ((l.getD (k - 1) ⟨0,0,0,0,false⟩).time+(l.getD (k - 1) ⟨0,0,0,0,false⟩).step))=a5
   cases a1<;>cases a2<;>cases a3<;>cases a4<;>cases a5<;>rfl
  ·simp only[unNoTm,unOut,Option.bind_some,unSmps,cond_true,cond_false,cast_lt hlt,decide_eq_true hlt,next_at hlt (by omega:l.length≤9223372036854775807),getD_at ha,stChS,decide_eq_false h0,decide_eq_false (show ¬(0:Int)<(k:Int) by omega)]
   generalize F.noTm y.1.time=a1
   generalize F.out y.1.step 0 1000000000=a2
   generalize F.out y.1.shift (-1000000000) 1000000000=a3
   generalize F.out y.1.size 0 100000=a4
   cases a1<;>cases a2<;>cases a3<;>cases a4<;>rfl

theorem evChS (l:List Smp):(runF enChS false Tryz.f94 [.sl (l.map eSmp)]).val =
 bif decide ((5000:Int)<(↑(List.length (List.map eSmp l)):Int)) then some ((vI 2),[]) else Option.bind (unenc stChS1 (St.mk [(11,(vI 0)),(10,(vI
 (↑(List.length (List.map eSmp l)):Int))),(9,AV.sl (List.map eSmp l)),(0,AV.sl (List.map eSmp l))] [])) fun z=>bif decide (List.length z.1 ≤
 (5000:Nat))&&decide (z.2≤List.length z.1)&&true then bif decide (ffI (F.smpF z.1) (List.drop z.2 (List.zipIdx z.1))=(0:Int)) then bif decide ((0 :
 Int)<(↑(List.length (List.map eSmp z.1)):Int)) then Option.bind (idx (IntKind.i64.wrap ((↑(List.length (List.map eSmp z.1)):Int) - (1:Int)))) fun(z_1
 : Nat)=>Option.bind (unenc (List.map eSmp) (List.map eSmp z.1)) fun z_2=>bif decide (z_1<List.length z_2) then Option.bind (idx (IntKind.wrap
 IntKind.i64 ((↑(List.length (List.map eSmp z.1)):Int) - (1:Int)))) fun z_3=>Option.bind (unenc (List.map eSmp) (List.map eSmp z.1)) fun z=>
 bif decide (z_3<List.length z) then Option.bind (unenc encNoTm [(vI (IntKind.i64.wrap ((List.getD z_2 z_1 (Smp.mk (0:Int) (0:Int) (0:Int) (0:Int)
 false)).time+(List.getD z z_3 (Smp.mk (0:Int) (0:Int) (0:Int) (0:Int) false)).step)))]) fun z=>bif F.noTm z then some ((vI 1),[]) else some
 ((vI 0),[]) else none else none else some ((vI 0),[]) else some ((vI (ffI (F.smpF z.1) (List.drop z.2 (List.zipIdx z.1)))),[]) else none:=(runFR_val).symm.trans (by kernel_rfl)

def encChS1 (l:List Smp):List AV:=[.sl (l.map eSmp)]

def encChS (a:(List Smp)):List AV:=encChS1 a

theorem encChS_inj (a a':(List Smp)) (h:encChS a=encChS a'):a=a':=by
 simp only[encChS,encChS1]at h
 try simp[eSmps_inj]at h
 grind

theorem unChS (l:List Smp):unenc encChS ([AV.sl (List.map eSmp l)])=some (l):=unenc_of encChS_inj (l) rfl

def resChS1 (l:List Smp):AV×Heap:=(vI (F.chkS l),[])

def preChS1 (l:List Smp):Bool:=true

noncomputable def oChS:Orc:=orc 94 true encChS (fun a=>preChS1 a) fun a=>resChS1 a

theorem okChS:OrcOK Tryz.prog noG oChS:=by
 refine mk_ok Tryz.f94 (keep:=false) (by kernel_rfl) (by kernel_rfl) enChS_ok mixed (one_loop (x0:=loopN Tryz.f94 0) (by kernel_rfl) (lpo_ok ?_)) (by first | exact fun _ _=>⟨rfl,rfl⟩ | (intro h;cases h)) ?_
 ·rintro⟨l,k⟩ hp
  exact lpChS_ok l k hp
 rintro l hpre hok
 show(runF enChS false _ (encChS1 _)).val=some (resChS1 _)
 unfold encChS1 resChS1
 rw[evChS]
 simp only[unNoTm,unstChS0,Option.bind_some,List.length_map,unSmps,Bool.and_true]
 unfold F.chkS F.lt F.smpsF F.smpE
 by_cases hl:(5000:Int)<(l.length:Int)
 ·rw[decide_eq_true hl];rfl
 ·rw[decide_eq_false hl]
  simp only[cond_false,decide_eq_true (show l.length≤5000 by omega),decide_eq_true (Nat.zero_le l.length),Bool.and_self,cond_true,List.drop_zero]
  by_cases hf:ffI (F.smpF l) l.zipIdx=0
  ·rw[hf]
   simp only[decide_true,cond_true,bne_self_eq_false,cond_false]
   by_cases h0:0<l.length
   ·have hi:=idx_pred h0 (by omega:l.length≤9223372036854775807)
    have hd:decide (l.length - 1<l.length)=true:=decide_eq_true (by omega)
    simp only[decide_eq_true h0,decide_eq_true (show(0:Int)<(l.length:Int) by omega),cond_true,hi,Option.bind_some,hd,Bool.true_and]
    generalize F.noTm _=b
    cases b<;>rfl
   ·simp only[decide_eq_false h0,decide_eq_false (show ¬(0:Int)<(l.length:Int) by omega),cond_false,Bool.false_and]
  ·rw[decide_eq_false hf,bne1 hf];rfl

def stPrs (l:List Smp) (acc:List Int) (k:Nat):St:=⟨[(8,vI k),(7,vI l.length),(6, .sl (l.map eSmp)),(3, .own 3)],[(3,⟨false,3,1,acc.map eI⟩)]⟩

def stPrs1 (a:(List Smp)×(List Int)×Nat):St:=stPrs a.1 a.2.1 a.2.2

theorem stPrs_inj (a a':(List Smp)×(List Int)×Nat) (h:stPrs1 a=stPrs1 a'):a=a':=by
 simp only[stPrs1,stPrs]at h
 try simp[ints_inj,eSmps_inj]at h
 grind

theorem unstPrs0 (l:List Smp)  : unenc stPrs1 (St.mk [(8,(vI (0:Int))),(7,(vI (↑(List.length l):Int))),(6,AV.sl (List.map eSmp l)),(3, .own 3)] [(3,Blk.mk false 3 1 [])])=some (l,[],0):=unenc_of stPrs_inj (l,[],0) rfl

def outPrs (l:List Smp) (acc:List Int) (k:Nat):T (Ex×St):= .ret (.exit 0,⟨[(3, .own 3)],[(3,⟨false,3,1,(acc++F.prs (l.drop k)).map eI⟩)]⟩)

noncomputable def prlPrs (l:List Smp) (acc:List Int) (k:Nat):Bool:=decide (l.length≤5000)&&decide (k≤l.length)&&decide (acc.length=k)

noncomputable def lpPrs:Nat×(St→T (Ex×St)):=(3,lpo [8,7,6,3] [3] stPrs1 (fun a=>prlPrs a.1 a.2.1 a.2.2) fun a=>outPrs a.1 a.2.1 a.2.2)

noncomputable def enPrs:Env:=envH ty noG lks [] [] [] [lpPrs]

theorem enPrs_ok:EnvOK Tryz.prog enPrs:=by
 refine envH_ok lks_ok ty_ok ?_ ?_
 ·simp
 ·simp

theorem evPrsL (l:List Smp) (acc:List Int) (k:Nat):((exec enPrs (loopN Tryz.f141 0) (stPrs l acc k)).bind (lessX ([8,7,6,3],[3]) ([3],[3]) ([],[]))).val =
 bif decide ((↑k:Int)<(↑(List.length l):Int)) then Option.bind (unenc (List.map eSmp) (List.map eSmp l)) fun z=>bif decide (k<List.length z) then bif
 Nat.ble ((List.length (List.map eI acc)+1)*8) 140737488355328&&true then some (Ex.normal,St.mk [(8,(vI (IntKind.i64.wrap ((↑k :
 Int)+1)))),(7,(vI (↑(List.length l):Int))),(6,AV.sl (List.map eSmp l)),(3, .own 3)] [(3,Blk.mk false 3 1 (List.map eI acc++[[(vI (IntKind.wrap
 IntKind.i64 ((List.getD z k (Smp.mk (0:Int) (0:Int) (0:Int) (0:Int) false)).time+(List.getD z k (Smp.mk (0:Int) (0:Int) (0:Int) (0:Int)
 false)).shift)))]]))]) else none else none else some (Ex.exit (0:Nat),St.mk [(3, .own 3)] [(3,Blk.mk false 3 1 (List.map eI acc))]):=(execR_bind _ _ _).symm.trans (by kernel_rfl)

theorem lpPrs_ok (l:List Smp) (acc:List Int) (k:Nat) (hp:prlPrs l acc k=true) : ∀ex s',(outPrs l acc k).val=some (ex,s')→LoopOK enPrs (loopN Tryz.f141 0) (stPrs l acc k) ex s':=by
 simp only[prlPrs,Bool.and_eq_true,decide_eq_true_eq]at hp
 obtain⟨⟨h1,h2⟩,h3⟩:=hp
 refine loop_gen (st:=fun a:List Int×Nat=>stPrs l a.1 a.2) (out:=fun a=>outPrs l a.1 a.2) (I:=fun a=>a.2≤l.length∧a.1.length=a.2) (n:=([8,7,6,3],[3])) (e:=([3],[3])) (r:=([],[])) (fun a=>l.length - a.2) ?_ (acc,k) ⟨h2,h3⟩
 clear h2 h3 acc k
 rintro⟨acc,k⟩ ⟨h2,h3⟩
 simp only at h2 h3
 by_cases hlt:k<l.length
 ·right
  have hy:l[k]? = some l[k]:=List.getElem?_eq_getElem hlt
  have hd:l.drop k=l[k]::l.drop (k+1):=List.drop_eq_getElem_cons hlt
  generalize l[k]=y at hy hd
  have hb:Nat.ble ((acc.length+1)*8) 140737488355328=true:=ble_t (by omega)
  refine⟨(acc++[F.pr y],k+1),?_,rfl,⟨hlt,by simp[h3]⟩,by simp only;omega,?_⟩
  ·rw[evPrsL]
   simp only[Option.bind_some,List.length_map,unSmps,cond_true,Bool.and_true,cast_lt hlt,decide_eq_true hlt,next_at hlt (by omega:l.length≤9223372036854775807),getD_at hy,hb,appInts',F.pr]
   try rfl
  ·simp only[outPrs,hd,F.prs,List.map_cons,List.append_assoc,List.singleton_append]
 ·left
  have hk:k=l.length:=by omega
  subst hk
  refine⟨_,?_,rfl,by simp,rfl⟩
  rw[evPrsL]
  simp only[Option.bind_some,List.length_map,unSmps,cond_false,Bool.and_true,cast_ge,List.drop_length]
  simp[F.prs]

theorem evPrs (l:List Smp):(runF enPrs false Tryz.f141 [.sl (l.map eSmp)]).val =
 Option.bind (unenc stPrs1 (St.mk [(8,(vI 0)),(7,(vI (↑(List.length (List.map eSmp l)):Int))),(6,AV.sl (List.map eSmp l)),(3, .own 3)] [(3,Blk.mk false 3 1
 [])])) fun z=>bif decide (List.length z.1≤5000)&&decide (z.2.2≤List.length z.1)&&decide (List.length z.2.1 =
 z.2.2)&&true then some (AV.sl (List.map eI (z.2.1++F.prs (List.drop z.2.2 z.1))),[]) else none:=(runFR_val).symm.trans (by kernel_rfl)

def encPrs1 (l:List Smp):List AV:=[.sl (l.map eSmp)]

def encPrs (a:(List Smp)):List AV:=encPrs1 a

theorem encPrs_inj (a a':(List Smp)) (h:encPrs a=encPrs a'):a=a':=by
 simp only[encPrs,encPrs1]at h
 try simp[eSmps_inj]at h
 grind

theorem unPrs (l:List Smp):unenc encPrs ([AV.sl (List.map eSmp l)])=some (l):=unenc_of encPrs_inj (l) rfl

def resPrs1 (l:List Smp):AV×Heap:=(.sl ((F.prs l).map eI),[])

def prePrs1 (l:List Smp):Bool:=decide (l.length≤5000)

noncomputable def oPrs:Orc:=orc 141 false encPrs (fun a=>prePrs1 a) fun a=>resPrs1 a

theorem okPrs:OrcOK Tryz.prog noG oPrs:=by
 refine mk_ok Tryz.f141 (keep:=false) (by kernel_rfl) (by kernel_rfl) enPrs_ok mixed (one_loop (x0:=loopN Tryz.f141 0) (by kernel_rfl) (lpo_ok ?_)) (by first | exact fun _ _=>⟨rfl,rfl⟩ | (intro h;cases h)) ?_
 ·rintro⟨l,acc,k⟩ hp
  exact lpPrs_ok l acc k hp
 rintro l hpre hok
 show(runF enPrs false _ (encPrs1 _)).val=some (resPrs1 _)
 unfold encPrs1 resPrs1
 rw[evPrs]
 have h1:l.length≤5000:=of_decide_eq_true hpre
 simp only[unstPrs0,Option.bind_some,List.length_map,cond_true,Bool.and_true,decide_eq_true h1,Nat.zero_le,decide_true,Bool.and_self,List.length_nil,List.drop_zero,List.nil_append]
 try rfl

end M

def F.findI {α:Type} (p:α→Bool) (k:Nat):List α→Option Nat
 | []=>none
 | y::l=>bif p y then some k else F.findI p (k+1) l

def F.idxI (o:Option Nat):Int:=bif F.found o then ((F.got o 0:Nat):Int) else -1

theorem F.idx_any {α:Type} (p:α→Bool) (k:Nat) (l:List α):decide (0≤F.idxI (F.findI p k l))=l.any p:=by
 have h:F.found (F.findI p k l)=l.any p:=by
  induction l generalizing k with
  | nil=>rfl
  | cons y l ih=>
   simp only[F.findI,List.any_cons]
   cases p y
   ·simp only[cond_false,Bool.false_or];exact ih (k+1)
   ·rfl
 unfold F.idxI
 rw[h]
 cases l.any p
 ·rfl
 ·simp only[cond_true];exact decide_eq_true (by omega)

def F.hasI (v:Int) (l:List Int):Bool:=l.any fun y=>v==y

theorem F.idxI_has (v:Int) : ∀(l:List Int) (k:Nat),decide ((0:Int)≤F.idxI (F.findI (fun y=>v==y) k l))=F.hasI v l
 | [],k=>rfl
 | y::l,k=>by
  have ih:=F.idxI_has v l (k+1)
  unfold F.hasI at ih ⊢
  rw[F.findI,List.any_cons]
  cases v==y
  ·exact ih
  ·simp[F.idxI,F.found,F.got]

def F.minF (a:Int) (l:List Int):Int:=l.foldl (fun a b=>min a b) a

def F.maxF (a:Int) (l:List Int):Int:=l.foldl (fun a b=>max a b) a

def F.minL (l:List Int):Int:=F.minF (l.headD 0) l.tail

def F.maxL (l:List Int):Int:=F.maxF (l.headD 0) l.tail

def F.cntL (x:Int) (l:List Int):Nat:=l.countP fun z=>decide (z<x)

def F.incI (l:List Int):Bool:=decide (l.Pairwise (· ≤ ·))

namespace M

theorem drop_at {α:Type} {l:List α} {k:Nat} {y:α} (h:l[k]? = some y):l.drop k=y::l.drop (k+1):=by
 have hlt:=lt_at h
 rw[List.drop_eq_getElem_cons hlt]
 congr 1
 exact(List.getElem?_eq_some_iff.1 h).2

noncomputable def rawF (E:Env) (fn:Func) (args:List AV):T AV:=
 match fn.body with
 | none=> .fail
 | some c=>match dstsOK fn.ntmps c with
  | true=>(exec E c ⟨numbered 0 (args.map noGd) [],[]⟩).bind fun p=>match p.1 with
   | .ret=>(ress E p.2 fn.results.toList).bind fun us=> .ret (resAV us)
   | _=> .fail
  | false=> .fail

theorem rawF_e0 {P:Program} {E:Env} (ok:EnvOK P E) (hm:P.follows .mixedOrders=true) {f:FuncId} {fn:Func} (hf:P.funcs[f]? = some fn) (hlp : ∀x∈Func.loops fn,∀s e s',(E.lp (lid x) s).val=some (e,s')→LoopOK E x s e s')
  {args:List AV} {ty n:Nat} (hr:(rawF E fn args).val=some .e0):SpecP P E.glob f args (.own 0) [(0,⟨false,ty,n,[]⟩)]:=by
 intro w S cargs hlt hglob hargs
 unfold rawF at hr
 split at hr
 ·rw[T.fail_some]at hr;exact hr.elim
 ·rename_i c hc
  split at hr
  ·rename_i hd
   rw[T.bind_some]at hr
   obtain⟨⟨e,s2⟩,h1,h2⟩:=hr
   simp only[]at h2
   cases e with
   | normal=>rw[T.fail_some]at h2;exact h2.elim
   | exit i=>rw[T.fail_some]at h2;exact h2.elim
   | ret=>
    rw[T.bind_some]at h2
    obtain⟨xs,h3,h4⟩:=h2
    have inv0:Inv E (fun b=>b<w.heap.size) w S noKeys []:=⟨fun _ h=>h,hlt,(fun _ _ _ _ h=>by cases h),(fun _ _ h=>by cases h),(fun _ _ h=>by cases h),(fun k bl hk=>by simp[mget]at hk),hglob⟩
    refine run_start ok hm hf hlp hc hd inv0 hargs h1 h3 fun w' S2 β2 a' u rel hu2=>?_
    have inv:=rel.inv
    refine⟨u,?_⟩
    rw[T.ret_some]at h4
    rw[h4]at hu2
    obtain⟨A,rfl⟩ : ∃A,u = .slice A 0 0:=hu2
    refine⟨S2,fun k=>if k=0 then some ⟨false,0,0,0,0⟩ else none,rfl,rel.below.below,rel.sub,fun b hb=>(rel.news b hb).imp id (fun h=>by omega),inv.lt,?_,?_,?_,?_,?_⟩
    ·intro k k' x x' hx hx' hr
     by_cases hk:k=0
     ·simp only[hk,if_true,Option.some.injEq]at hx
      subst hx;cases hr
     ·simp[hk]at hx
    ·intro k x hx hr
     by_cases hk:k=0
     ·simp only[hk,if_true,Option.some.injEq]at hx
      subst hx;cases hr
     ·simp[hk]at hx
    ·intro k x hx
     by_cases hk:k=0
     ·simp only[hk,if_true,Option.some.injEq]at hx
      subst hx
      exact⟨⟨false,ty,n,[]⟩,by subst hk;rfl,rfl,(fun hr=>by cases hr),fun _=>rfl⟩
     ·simp[hk]at hx
    ·intro k bl hk
     by_cases hk0:k=0
     ·exact⟨⟨false,0,0,0,0⟩,by simp[hk0]⟩
     ·exfalso
      revert hk
      cases k with
      | zero=>exact absurd rfl hk0
      | succ k=>intro hk;cases hk
    ·exact⟨⟨false,0,0,0,0⟩,rfl,(fun hr=>by cases hr),fun _=>⟨A,rfl⟩⟩
  ·rw[T.fail_some]at hr;exact hr.elim

def stIx (l:List Int) (v:Int) (k:Nat):St:=⟨[(8,vI k),(7,vI l.length),(1,vI v),(0, .sl (l.map eI))],[]⟩

def stIx1 (a:(List Int)×Int×Nat):St:=stIx a.1 a.2.1 a.2.2

theorem stIx_inj (a a':(List Int)×Int×Nat) (h:stIx1 a=stIx1 a'):a=a':=by
 simp only[stIx1,stIx]at h
 try simp[ints_inj]at h
 grind

theorem unstIx0 (l:List Int) (v:Int)  : unenc stIx1 (St.mk [(8,(vI (0:Int))),(7,(vI (↑(List.length l):Int))),(1,(vI v)),(0,AV.sl (List.map eI l))] [])=some (l,v,0):=unenc_of stIx_inj (l,v,0) rfl

def outIx (l:List Int) (v:Int) (k:Nat):T (Ex×St):= .ifB (F.found (F.findI (fun y=>v==y) k (l.drop k))) (.ret (.ret,⟨[(4,vI ((F.got (F.findI (fun y=>v==y) k (l.drop k)) 0:Nat):Int))],[]⟩)) (.ret (.exit 0,⟨[],[]⟩))

noncomputable def prlIx (l:List Int) (v:Int) (k:Nat):Bool:=decide (l.length≤9223372036854775807)&&decide (k≤l.length)

noncomputable def lpIx:Nat×(St→T (Ex×St)):=(2,lpo [8,7,1,0] [] stIx1 (fun a=>prlIx a.1 a.2.1 a.2.2) fun a=>outIx a.1 a.2.1 a.2.2)

noncomputable def enIx:Env:=envH ty noG lks [] [] [] [lpIx]

theorem enIx_ok:EnvOK Tryz.prog enIx:=by
 refine envH_ok lks_ok ty_ok ?_ ?_
 ·simp
 ·simp

theorem evIxL (l:List Int) (v:Int) (k:Nat):((exec enIx (loopN Tryz.f221 0) (stIx l v k)).bind (lessX ([8,7,1,0],[]) ([],[]) ([4],[]))).val =
 bif decide ((↑k:Int)<(↑(List.length l):Int)) then Option.bind (unenc (List.map eI) (List.map eI l)) fun z=>bif decide (k<List.length z) then bif v
 == List.getD z k 0 then some (Ex.ret,St.mk [(4,(vI (↑k:Int)))] []) else some (Ex.normal,St.mk [(8,(vI (IntKind.i64.wrap ((↑k:Int)+1)))),
 (7,(vI (↑(List.length l):Int))),(1,(vI v)),(0,AV.sl (List.map eI l))] []) else none else some (Ex.exit (0:Nat),St.mk [] []):=(execR_bind _ _ _).symm.trans (by kernel_rfl)

theorem lpIx_ok (l:List Int) (v:Int) (k:Nat) (hp:prlIx l v k=true) : ∀ex s',(outIx l v k).val=some (ex,s')→LoopOK enIx (loopN Tryz.f221 0) (stIx l v k) ex s':=by
 simp only[prlIx,Bool.and_eq_true,decide_eq_true_eq]at hp
 refine loop_gen (st:=stIx l v) (out:=outIx l v) (I:=fun k=>k≤l.length) (n:=([8,7,1,0],[])) (e:=([],[])) (r:=([4],[])) (fun k=>l.length - k) ?_ k hp.2
 intro k hk
 by_cases hlt:k<l.length
 ·have hy:l[k]? = some l[k]:=List.getElem?_eq_getElem hlt
  generalize l[k]=y at hy
  have hd:=drop_at hy
  cases hc:(v==y)
  ·right
   refine⟨k+1,?_,rfl,hlt,by omega,?_⟩
   ·rw[evIxL]
    simp only[Option.bind_some,unInts,cond_true,cond_false,cast_lt hlt,decide_eq_true hlt,next_at hlt hp.1,getD_at hy,hc,stIx]
    try rfl
   ·simp only[outIx,hd,F.findI,hc,cond_false]
  ·left
   refine⟨(.ret,⟨[(4,vI k)],[]⟩),?_,?_,by simp,rfl⟩
   ·rw[evIxL]
    simp only[Option.bind_some,unInts,cond_true,cast_lt hlt,decide_eq_true hlt,next_at hlt hp.1,getD_at hy,hc]
   ·simp only[outIx,hd,F.findI,hc,cond_true,F.found,F.got]
    rfl
 ·have:k=l.length:=by omega
  subst this
  left
  refine⟨(.exit 0,⟨[],[]⟩),?_,?_,by simp,rfl⟩
  ·rw[evIxL];simp
  ·simp[outIx,F.findI,F.found,T.val]

theorem evIx (l:List Int) (v:Int):(runF enIx false Tryz.f221 [.sl (l.map eI),vI v]).val =
 Option.bind (unenc stIx1 (St.mk [(8,(vI 0)),(7,(vI (↑(List.length (List.map eI l)):Int))),(1,(vI v)),(0,AV.sl (List.map eI l))] [])) fun z=>bif decide (List.length z.1≤9223372036854775807)&&decide (z.2.2≤List.length z.1)&&true then bif F.found (F.findI (fun(y:Int)=>
 z.2.1==y) z.2.2 (List.drop z.2.2 z.1)) then some ((vI (↑(F.got (F.findI (fun(y:Int)=>z.2.1==y) z.2.2 (List.drop z.2.2 z.1)) (0:Nat))
 : Int)),[]) else some ((vI (-1:Int)),[]) else none:=(runFR_val).symm.trans (by kernel_rfl)

def encIx1 (l:List Int) (v:Int):List AV:=[.sl (l.map eI),vI v]

def encIx (a:(List Int)×Int):List AV:=encIx1 a.1 a.2

theorem encIx_inj (a a':(List Int)×Int) (h:encIx a=encIx a'):a=a':=by
 simp only[encIx,encIx1]at h
 try simp[ints_inj]at h
 grind

theorem unIx (l:List Int) (v:Int):unenc encIx ([AV.sl (List.map eI l),(vI v)])=some (l,v):=unenc_of encIx_inj (l,v) rfl

def resIx1 (l:List Int) (v:Int):AV×Heap:=(vI (F.idxI (F.findI (fun y=>v==y) 0 l)),[])

def preIx1 (l:List Int) (v:Int):Bool:=true

noncomputable def oIx:Orc:=orc 221 true encIx (fun a=>preIx1 a.1 a.2) fun a=>resIx1 a.1 a.2

theorem okIx:OrcOK Tryz.prog noG oIx:=by
 refine mk_ok Tryz.f221 (keep:=false) (by kernel_rfl) (by kernel_rfl) enIx_ok mixed (one_loop (x0:=loopN Tryz.f221 0) (by kernel_rfl) (lpo_ok ?_)) (by first | exact fun _ _=>⟨rfl,rfl⟩ | (intro h;cases h)) ?_
 ·rintro⟨l,v,k⟩ hp
  exact lpIx_ok l v k hp
 rintro⟨l,v⟩ hpre hok
 show(runF enIx false _ (encIx1 _ _)).val=some (resIx1 _ _)
 unfold encIx1 resIx1
 rw[evIx]
 have hx:l.length≤9223372036854775807:=by simpa using(okA_sl (hok _ (List.mem_cons_self ..))).1
 simp only[unstIx0,Option.bind_some,List.length_map,cond_true,Bool.and_true,hx,List.drop_zero,Nat.zero_le,decide_true,F.idxI]
 cases F.found (F.findI (fun y=>v==y) 0 l)<;>rfl

noncomputable def enHas:Env:=envH ty noG lks [oIx] [] [] []

theorem enHas_ok:EnvOK Tryz.prog enHas:=by
 refine envH_ok lks_ok ty_ok ?_ ?_
 ·simp only[List.forall_mem_cons]
  exact⟨okIx,by simp⟩
 ·simp

theorem evHas (l:List Int) (v:Int):(runF enHas false Tryz.f193 [.sl (l.map eI),vI v]).val =
 Option.bind (unenc encIx [AV.sl (List.map eI l),(vI v)]) fun z=>some ((vB (decide ((0:Int)≤F.idxI (F.findI (fun(y:Int)=>z.2==y) (0 :
 Nat) z.1)))),[]):=(runFR_val).symm.trans (by kernel_rfl)

def encHas1 (l:List Int) (v:Int):List AV:=[.sl (l.map eI),vI v]

def encHas (a:(List Int)×Int):List AV:=encHas1 a.1 a.2

theorem encHas_inj (a a':(List Int)×Int) (h:encHas a=encHas a'):a=a':=by
 simp only[encHas,encHas1]at h
 try simp[ints_inj]at h
 grind

theorem unHas (l:List Int) (v:Int):unenc encHas ([AV.sl (List.map eI l),(vI v)])=some (l,v):=unenc_of encHas_inj (l,v) rfl

def resHas1 (l:List Int) (v:Int):AV×Heap:=(vB (F.hasI v l),[])

def preHas1 (l:List Int) (v:Int):Bool:=true

noncomputable def oHas:Orc:=orc 193 true encHas (fun a=>preHas1 a.1 a.2) fun a=>resHas1 a.1 a.2

theorem okHas:OrcOK Tryz.prog noG oHas:=by
 refine mk_ok Tryz.f193 (keep:=false) (by kernel_rfl) (by kernel_rfl) enHas_ok mixed (no_loops (by kernel_rfl)) (by first | exact fun _ _=>⟨rfl,rfl⟩ | (intro h;cases h)) ?_
 rintro⟨l,v⟩ hpre hok
 show(runF enHas false _ (encHas1 _ _)).val=some (resHas1 _ _)
 unfold encHas1 resHas1
 rw[evHas]
 simp only[unIx,Option.bind_some,F.idxI_has,F.hasI]

def stMn (l:List Int) (a:Int) (k:Nat):St:=⟨[(4,vI k),(3,vI a),(0, .sl (l.map eI))],[]⟩

def stMn1 (a:(List Int)×Int×Nat):St:=stMn a.1 a.2.1 a.2.2

theorem stMn_inj (a a':(List Int)×Int×Nat) (h:stMn1 a=stMn1 a'):a=a':=by
 simp only[stMn1,stMn]at h
 try simp[ints_inj]at h
 grind

theorem unstMn0 (l:List Int) (a:Int)  : unenc stMn1 (St.mk [(4,(vI (1:Int))),(3,(vI a)),(0,AV.sl (List.map eI l))] [])=some (l,a,1):=unenc_of stMn_inj (l,a,1) rfl

def outMn (l:List Int) (a:Int) (k:Nat):T (Ex×St):= .ret (.exit 0,⟨[(3,vI (F.minF a (l.drop k)))],[]⟩)

noncomputable def prlMn (l:List Int) (a:Int) (k:Nat):Bool:=decide (l.length≤5000)&&decide (k≤l.length)

noncomputable def lpMn:Nat×(St→T (Ex×St)):=(5,lpo [4,3,0] [] stMn1 (fun a=>prlMn a.1 a.2.1 a.2.2) fun a=>outMn a.1 a.2.1 a.2.2)

noncomputable def enMn:Env:=envH ty noG lks [] [] [] [lpMn]

theorem enMn_ok:EnvOK Tryz.prog enMn:=by
 refine envH_ok lks_ok ty_ok ?_ ?_
 ·simp
 ·simp

theorem evMnL (l:List Int) (a:Int) (k:Nat):((exec enMn (loopN Tryz.f192 0) (stMn l a k)).bind (lessX ([4,3,0],[]) ([3],[]) ([],[]))).val =
 bif decide ((↑k:Int)<(↑(List.length (List.map eI l)):Int)) then Option.bind (unenc (List.map eI) (List.map eI l)) fun z=>bif decide (k<List.length
 z) then some (Ex.normal,St.mk [(4,(vI (IntKind.i64.wrap ((↑k:Int)+1)))),(3,(vI (min a (List.getD z k 0)))),(0,AV.sl (List.map eI l))] [])
 else none else some (Ex.exit (0:Nat),St.mk [(3,(vI a))] []):=(execR_bind _ _ _).symm.trans (by kernel_rfl)

theorem lpMn_ok (l:List Int) (a:Int) (k:Nat) (hp:prlMn l a k=true) : ∀ex s',(outMn l a k).val=some (ex,s')→LoopOK enMn (loopN Tryz.f192 0) (stMn l a k) ex s':=by
 simp only[prlMn,Bool.and_eq_true,decide_eq_true_eq]at hp
 refine loop_fold (xs:=l) (st:=stMn l) (f:=fun a b=>min a b) (fin:=fun a=>(.exit 0,⟨[(3,vI a)],[]⟩)) (I:=fun _ _=>True) (n:=([4,3,0],[])) (e:=([3],[])) (r:=([],[])) ?_ (fun _=>⟨by simp,rfl⟩) (fun _ _=>rfl) ?_ a k hp.2 trivial
 ·intro a _
  rw[evMnL];simp
 ·intro a k y hy _
  have hlt:=lt_at hy
  have h1:=hp.1
  rw[evMnL]
  simp only[Option.bind_some,List.length_map,unInts,cond_true,cast_lt hlt,decide_eq_true hlt,next_at hlt (by omega:l.length≤9223372036854775807),getD_at hy,stMn]
  simp

theorem evMn (l:List Int):(runF enMn false Tryz.f192 [.sl (l.map eI)]).val =
 bif decide ((↑(List.length (List.map eI l)):Int)<1) then none else Option.bind (unenc (List.map eI) (List.map eI l)) fun z=>bif decide ((0 :
 Nat)<List.length z) then Option.bind (unenc stMn1 (St.mk [(4,(vI 1)),(3,(vI (List.getD z (0:Nat) (0:Int)))),(0,AV.sl (List.map eI l))] [])) fun(z :
 List Int×Int×Nat)=>bif decide (List.length z.1≤5000)&&decide (z.2.2≤List.length z.1)&&true then some ((vI (F.minF z.2.1 (List.drop
 z.2.2 z.1))),[]) else none else none:=(runFR_val).symm.trans (by kernel_rfl)

def encMn1 (l:List Int):List AV:=[.sl (l.map eI)]

def encMn (a:(List Int)):List AV:=encMn1 a

theorem encMn_inj (a a':(List Int)) (h:encMn a=encMn a'):a=a':=by
 simp only[encMn,encMn1]at h
 try simp[ints_inj]at h
 grind

theorem unMn (l:List Int):unenc encMn ([AV.sl (List.map eI l)])=some (l):=unenc_of encMn_inj (l) rfl

def resMn1 (l:List Int):AV×Heap:=(vI (F.minL l),[])

def preMn1 (l:List Int):Bool:=decide (l.length≤5000)&&decide (1≤l.length)

noncomputable def oMn:Orc:=orc 192 true encMn (fun a=>preMn1 a) fun a=>resMn1 a

theorem okMn:OrcOK Tryz.prog noG oMn:=by
 refine mk_ok Tryz.f192 (keep:=false) (by kernel_rfl) (by kernel_rfl) enMn_ok mixed (one_loop (x0:=loopN Tryz.f192 0) (by kernel_rfl) (lpo_ok ?_)) (by first | exact fun _ _=>⟨rfl,rfl⟩ | (intro h;cases h)) ?_
 ·rintro⟨l,a,k⟩ hp
  exact lpMn_ok l a k hp
 rintro l hpre hok
 show(runF enMn false _ (encMn1 _)).val=some (resMn1 _)
 unfold encMn1 resMn1
 rw[evMn]
 simp only[preMn1,Bool.and_eq_true,decide_eq_true_eq]at hpre
 obtain⟨h1,h2⟩:=hpre
 cases l with
 | nil=>simp at h2
 | cons x l=>
  have h3 : ¬(((x::l).length:Int)<1):=by simp;omega
  have h4:0<(x::l).length:=by simp
  simp only[unstMn0,Option.bind_some,List.length_map,unInts,cond_true,cond_false,Bool.and_true,F.minL,decide_eq_false h3,decide_eq_true h1,decide_eq_true h2,decide_eq_true h4]
  rfl

def stMx (l:List Int) (a:Int) (k:Nat):St:=⟨[(4,vI k),(3,vI a),(0, .sl (l.map eI))],[]⟩

def stMx1 (a:(List Int)×Int×Nat):St:=stMx a.1 a.2.1 a.2.2

theorem stMx_inj (a a':(List Int)×Int×Nat) (h:stMx1 a=stMx1 a'):a=a':=by
 simp only[stMx1,stMx]at h
 try simp[ints_inj]at h
 grind

theorem unstMx0 (l:List Int) (a:Int)  : unenc stMx1 (St.mk [(4,(vI (1:Int))),(3,(vI a)),(0,AV.sl (List.map eI l))] [])=some (l,a,1):=unenc_of stMx_inj (l,a,1) rfl

def outMx (l:List Int) (a:Int) (k:Nat):T (Ex×St):= .ret (.exit 0,⟨[(3,vI (F.maxF a (l.drop k)))],[]⟩)

noncomputable def prlMx (l:List Int) (a:Int) (k:Nat):Bool:=decide (l.length≤5000)&&decide (k≤l.length)

noncomputable def lpMx:Nat×(St→T (Ex×St)):=(5,lpo [4,3,0] [] stMx1 (fun a=>prlMx a.1 a.2.1 a.2.2) fun a=>outMx a.1 a.2.1 a.2.2)

noncomputable def enMx:Env:=envH ty noG lks [] [] [] [lpMx]

theorem enMx_ok:EnvOK Tryz.prog enMx:=by
 refine envH_ok lks_ok ty_ok ?_ ?_
 ·simp
 ·simp

theorem evMxL (l:List Int) (a:Int) (k:Nat):((exec enMx (loopN Tryz.f53 0) (stMx l a k)).bind (lessX ([4,3,0],[]) ([3],[]) ([],[]))).val =
 bif decide ((↑k:Int)<(↑(List.length (List.map eI l)):Int)) then Option.bind (unenc (List.map eI) (List.map eI l)) fun z=>bif decide (k<List.length
 z) then some (Ex.normal,St.mk [(4,(vI (IntKind.i64.wrap ((↑k:Int)+1)))),(3,(vI (max a (List.getD z k 0)))),(0,AV.sl (List.map eI l))] [])
 else none else some (Ex.exit (0:Nat),St.mk [(3,(vI a))] []):=(execR_bind _ _ _).symm.trans (by kernel_rfl)

theorem lpMx_ok (l:List Int) (a:Int) (k:Nat) (hp:prlMx l a k=true) : ∀ex s',(outMx l a k).val=some (ex,s')→LoopOK enMx (loopN Tryz.f53 0) (stMx l a k) ex s':=by
 simp only[prlMx,Bool.and_eq_true,decide_eq_true_eq]at hp
 refine loop_fold (xs:=l) (st:=stMx l) (f:=fun a b=>max a b) (fin:=fun a=>(.exit 0,⟨[(3,vI a)],[]⟩)) (I:=fun _ _=>True) (n:=([4,3,0],[])) (e:=([3],[])) (r:=([],[])) ?_ (fun _=>⟨by simp,rfl⟩) (fun _ _=>rfl) ?_ a k hp.2 trivial
 ·intro a _
  rw[evMxL];simp
 ·intro a k y hy _
  have hlt:=lt_at hy
  have h1:=hp.1
  rw[evMxL]
  simp only[Option.bind_some,List.length_map,unInts,cond_true,cast_lt hlt,decide_eq_true hlt,next_at hlt (by omega:l.length≤9223372036854775807),getD_at hy,stMx]
  simp

theorem evMx (l:List Int):(runF enMx false Tryz.f53 [.sl (l.map eI)]).val =
 bif decide ((↑(List.length (List.map eI l)):Int)<1) then none else Option.bind (unenc (List.map eI) (List.map eI l)) fun z=>bif decide ((0 :
 Nat)<List.length z) then Option.bind (unenc stMx1 (St.mk [(4,(vI 1)),(3,(vI (List.getD z (0:Nat) (0:Int)))),(0,AV.sl (List.map eI l))] [])) fun(z :
 List Int×Int×Nat)=>bif decide (List.length z.1≤5000)&&decide (z.2.2≤List.length z.1)&&true then some ((vI (F.maxF z.2.1 (List.drop
 z.2.2 z.1))),[]) else none else none:=(runFR_val).symm.trans (by kernel_rfl)

def encMx1 (l:List Int):List AV:=[.sl (l.map eI)]

def encMx (a:(List Int)):List AV:=encMx1 a

theorem encMx_inj (a a':(List Int)) (h:encMx a=encMx a'):a=a':=by
 simp only[encMx,encMx1]at h
 try simp[ints_inj]at h
 grind

theorem unMx (l:List Int):unenc encMx ([AV.sl (List.map eI l)])=some (l):=unenc_of encMx_inj (l) rfl

def resMx1 (l:List Int):AV×Heap:=(vI (F.maxL l),[])

def preMx1 (l:List Int):Bool:=decide (l.length≤5000)&&decide (1≤l.length)

noncomputable def oMx:Orc:=orc 53 true encMx (fun a=>preMx1 a) fun a=>resMx1 a

theorem okMx:OrcOK Tryz.prog noG oMx:=by
 refine mk_ok Tryz.f53 (keep:=false) (by kernel_rfl) (by kernel_rfl) enMx_ok mixed (one_loop (x0:=loopN Tryz.f53 0) (by kernel_rfl) (lpo_ok ?_)) (by first | exact fun _ _=>⟨rfl,rfl⟩ | (intro h;cases h)) ?_
 ·rintro⟨l,a,k⟩ hp
  exact lpMx_ok l a k hp
 rintro l hpre hok
 show(runF enMx false _ (encMx1 _)).val=some (resMx1 _)
 unfold encMx1 resMx1
 rw[evMx]
 simp only[preMx1,Bool.and_eq_true,decide_eq_true_eq]at hpre
 obtain⟨h1,h2⟩:=hpre
 cases l with
 | nil=>simp at h2
 | cons x l=>
  have h3 : ¬(((x::l).length:Int)<1):=by simp;omega
  have h4:0<(x::l).length:=by simp
  simp only[unstMx0,Option.bind_some,List.length_map,unInts,cond_true,cond_false,Bool.and_true,F.maxL,decide_eq_false h3,decide_eq_true h1,decide_eq_true h2,decide_eq_true h4]
  rfl

theorem evClN1 (xs:List Int):(runF en0 true Tryz.f142 [.nz false (xs.map eI)]).val =
 bif Nat.ble (((0:Nat)+List.length (List.map eI xs))*8) 140737488355328&&List.all (List.map eI xs) fun(r:Row)=>Nat.beq (List.length r) (TI.mk
 false (1:Nat) [] [AV.e0] (3:Nat) (1:Nat) (8:Nat) [(vI 0)] none (4:Nat) []).esize then some (.own 0,[(0,Blk.mk false 3 1 (List.map eI xs))]) else none:=(runFR_val).symm.trans (by kernel_rfl)

theorem evClN0:(rawF en0 Tryz.f142 [.nz true []]).val=some .e0:=by kernel_rfl

def encClN1 (xs:List Int):List AV:=[.sl (xs.map eI)]

def encClN (a:(List Int)):List AV:=encClN1 a

theorem encClN_inj (a a':(List Int)) (h:encClN a=encClN a'):a=a':=by
 simp only[encClN,encClN1]at h
 try simp[ints_inj]at h
 grind

theorem unClN (xs:List Int):unenc encClN ([AV.sl (List.map eI xs)])=some (xs):=unenc_of encClN_inj (xs) rfl

def resClN1 (xs:List Int):AV×Heap:=(.own 0,[(0,⟨false,3,1,xs.map eI⟩)])

def preClN1 (xs:List Int):Bool:=decide (xs.length≤100000)

noncomputable def oClN:Orc:=orc 142 true encClN (fun a=>preClN1 a) fun a=>resClN1 a

theorem okClN:OrcOK Tryz.prog noG oClN:=by
 refine orc_ok ⟨Tryz.f142,by kernel_rfl,by kernel_rfl,by kernel_rfl⟩ (fun xs hp _=>?_) (fun _ xs=>⟨?_,rfl⟩)
 ·simp only[preClN1,decide_eq_true_eq]at hp
  have hb:Nat.ble (xs.length*8) 140737488355328=true:=ble_t (by omega)
  show SpecP _ _ _ [.sl (xs.map eI)] (.own 0) [(0,⟨false,3,1,xs.map eI⟩)]
  refine SpecP.nil (fun e=>?_) ?_
  ·have:xs=[]:=by simpa using e
   subst this
   exact rawF_e0 (E:=en0) en0_ok mixed (fn:=Tryz.f142) (by kernel_rfl) (no_loops (by kernel_rfl)) evClN0
  ·refine runF_sound (E:=en0) en0_ok mixed (fn:=Tryz.f142) (by kernel_rfl) (no_loops (by kernel_rfl)) (keep:=true) ?_
   rw[evClN1]
   simp only[List.length_map,Nat.zero_add,hb,all_ints,Bool.and_true,cond_true]
 ·show frsH [(0,⟨false,3,1,xs.map eI⟩)]=true
  simp[frsH,eI,flat0]

theorem getD_of {xs:List Int} {j:Nat} (h:j<xs.length):xs[j]? = some (xs.getD j 0):=by
 rw[List.getElem?_eq_getElem h]
 simp[List.getD,h]

theorem below_grow0 (w:World) (k:Nat):Below w.heap.size w (w.drewN k):=by
 have:=below_grow w k #[]
 rwa[Go.Sort.grow_empty]at this

def encBs1 (l:List Int) (x:Int):List AV:=[.sl (l.map eI),vI x]

def encBs (a:(List Int)×Int):List AV:=encBs1 a.1 a.2

theorem encBs_inj (a a':(List Int)×Int) (h:encBs a=encBs a'):a=a':=by
 simp only[encBs,encBs1]at h
 try simp[ints_inj]at h
 grind

theorem unBs (l:List Int) (x:Int):unenc encBs ([AV.sl (List.map eI l),(vI x)])=some (l,x):=unenc_of encBs_inj (l,x) rfl

def resBs1 (l:List Int) (x:Int):AV×Heap:=(.tup [vI (F.cntL x l:Nat),vB (l.contains x)],[])

def preBs1 (l:List Int) (x:Int):Bool:=F.incI l&&(decide (1≤l.length)&&decide (l.length≤100000))

noncomputable def oBs:Orc:=orc 145 true encBs (fun a=>preBs1 a.1 a.2) fun a=>resBs1 a.1 a.2

theorem okBs:OrcOK Tryz.prog noG oBs:=by
 refine orc_ok ⟨Tryz.f145,by kernel_rfl,by kernel_rfl,by kernel_rfl⟩ (fun x hp _=>?_) (fun _ _=>⟨rfl,rfl⟩)
 obtain⟨xs,x⟩:=x
 simp only[preBs1,F.incI,Bool.and_eq_true,decide_eq_true_eq]at hp
 obtain⟨hp1,hp2,hp3⟩:=hp
 have hcl:F.cntL x xs≤xs.length:=List.countP_le_length
 intro w S cargs hlt hg hargs
 match cargs,hargs with
 | [u,v],⟨h1,h2,_⟩=>
  obtain⟨rfl,k2⟩:=rv_v h2
  have h1':R0 w S (.sl (xs.map eI)) u:=rv_sl h1
  cases h1' with
  | @sl _ A cap size b off vals hc hm hA hl hcell hr=>
   have hlen:(xs.map eI).length=xs.length:=by simp
   rw[hlen]at hc ⊢
   have hx:xs≠[]:=by intro e;rw[e]at hp2;simp at hp2
   obtain⟨hA1,hSb⟩:=hA (by simpa using hx)
   subst hA1
   have hsz:size=1:=by
    obtain⟨y,l,rfl⟩:=List.exists_cons_of_ne_nil hx
    have:=hl 0 (eI y) rfl
    simpa[eI]using this.symm
   subst hsz
   refine(Tryz.slices_BinarySearch_int b off xs.length cap xs x w (Nat.le_refl _) (by omega) (fun j hj=>?_) (by have e:=List.take_length (l:=xs);exact e.symm▸hp1)).mono ?_
   ·have hrow:(xs.map eI)[j]? = some (eI (xs.getD j 0)):=by rw[List.getElem?_map,getD_of hj];rfl
    have h3:=hcell j 0 _ _ hrow rfl
    have h4:=hr j 0 _ _ hrow rfl
    have h5:RV w S noKeys (vI (xs.getD j 0)) (vals j 0):=h4
    obtain⟨e,_⟩:=rv_v h5
    rw[show off+j*1+0=off+j by omega,e]at h3
    exact h3
   ·rintro e w' ⟨rfl,q,rfl⟩
    rw[List.take_length]
    have hb:Below w.heap.size w (w.drewN q):=below_grow0 w q
    refine⟨_,S,noKeys,rfl,hb,fun _ h=>h,fun _ h=> .inl h,fun b h=>Nat.lt_of_lt_of_le (hlt b h) hb.size,(fun _ _ _ _ h=>by cases h),(fun _ _ h=>by cases h),(fun _ _ h=>by cases h),(fun _ _ h=>by cases h),?_⟩
    refine⟨[.int .i64 (F.cntL x xs:Nat), .bool (xs.contains x)],rfl,R0.v (w:=_) (S:=S) ?_,R0.v (w:=_) (S:=S) ?_,trivial⟩
    ·show IntKind.i64.min≤_∧_≤IntKind.i64.max
     simp only[IntKind.min,IntKind.max,IntKind.signed,IntKind.bits]
     simp
     omega
    ·trivial

end M

theorem F.cmpI_mem {xs:List Int} {y:Int}:y∈F.cmpI xs↔y∈xs:=by
 refine⟨M.mem_cmpI,fun h=>?_⟩
 obtain⟨i,hi,e,hmin⟩ : ∃i,i<xs.length∧xs.toArray[i]! = y ∧ ∀j,j<i→xs.toArray[j]! ≠ y:=by
  obtain⟨k,hk⟩:=List.getElem?_of_mem h
  have hkl:=(List.getElem?_eq_some_iff.1 hk).1
  have hky:xs.toArray[k]! = y:=M.getD_ints xs k y hk
  clear hk
  induction k using Nat.strongRecOn with
  | ind k ih=>
   by_cases hj : ∃j,j<k∧xs.toArray[j]! = y
   ·obtain⟨j,h1,h2⟩:=hj
    exact ih j h1 (by omega) h2
   ·exact⟨k,hkl,hky,fun j h1 h2=>hj ⟨j,h1,h2⟩⟩
 unfold F.cmpI Lib.compact Lib.compactUpTo
 refine List.mem_map.2 ⟨i,List.mem_filter.2 ⟨List.mem_range.2 hi,?_⟩,e⟩
 unfold Lib.keeps
 refine decide_eq_true ?_
 rcases Nat.eq_zero_or_pos i with h0 | h0
 ·exact .inl h0
 ·exact .inr fun e2=>hmin (i - 1) (by omega) (by rw[←e2];exact e)

theorem F.cmpI_lt {xs:List Int} (h:xs.Pairwise (· ≤ ·)):(F.cmpI xs).Pairwise (· < ·):=by
 have hle : ∀i j,i≤j→j<xs.length→xs.toArray[i]! ≤ xs.toArray[j]!:=fun i j hij hj=>by
  rw[getElem!_pos _ i (by simp;omega),getElem!_pos _ j (by simpa using hj)]
  rcases Nat.lt_or_ge i j with hlt | hge
  ·simpa using List.pairwise_iff_getElem.1 h i j (by omega) hj hlt
  ·have:i=j:=by omega
   subst this;exact Int.le_refl _
 unfold F.cmpI Lib.compact Lib.compactUpTo
 rw[List.pairwise_map]
 refine List.Pairwise.imp_of_mem ?_ (List.Pairwise.filter _ List.pairwise_lt_range)
 intro i j hi hj hij
 have hj1:=List.mem_range.1 (List.mem_filter.1 hj).1
 have hj2:=(List.mem_filter.1 hj).2
 unfold Lib.keeps at hj2
 have hj2:=of_decide_eq_true hj2
 rcases hj2 with h0 | hne
 ·omega
 ·have a1:=hle i (j - 1) (by omega) (by omega)
  have a2:=hle (j - 1) j (by omega) hj1
  have:=Ne.symm hne
  omega

theorem F.srtI_pw (xs:List Int):(F.srtI xs).Pairwise (· ≤ ·):=by
 have:=List.pairwise_mergeSort (le:=fun x y:Int=>decide (x≤y)) (by intro a b c h1 h2;simp at *;omega) (by intro a b;simp;omega) xs
 exact this.imp fun h=>by simpa using h

def F.endG (ts:List Int) (s:Smp):Int:=bif decide (F.cntL (IntKind.i64.wrap (F.pr s+1)) ts<ts.length) then ts.getD (F.cntL (IntKind.i64.wrap (F.pr s+1)) ts) 0 else IntKind.i64.wrap (F.pr s+s.step)

def F.tms (l:List Smp):List Int:=F.cmpI (F.srtI (F.prs l))

def F.endsL (l:List Smp):List Int:=l.map (F.endG (F.tms l))

theorem F.tms_ok (l:List Smp):F.incI (F.tms l)=true∧(F.tms l).length≤l.length∧(1≤l.length→1≤(F.tms l).length):=by
 refine⟨decide_eq_true ((F.cmpI_lt (F.srtI_pw _)).imp fun h=>by omega),?_,fun h=>?_⟩
 ·have:=F.cmpI_len (F.srtI (F.prs l))
  rw[F.srtI_len]at this
  unfold F.prs at this
  rw[List.length_map]at this
  exact this
 ·cases l with
  | nil=>simp at h
  | cons s r=>
   have:F.pr s∈F.tms (s::r):=F.cmpI_mem.2 ((List.mergeSort_perm ..).mem_iff.2 (by simp[F.prs]))
   exact List.length_pos_of_mem this

theorem F.endsL_len (l:List Smp):(F.endsL l).length=l.length:=by simp[F.endsL]

theorem F.prs_len (l:List Smp):(F.prs l).length=l.length:=by simp[F.prs]

namespace M

theorem appI1 (xs:List Int) (y:Int):xs.map eI++[[vI y]]=(xs++[y]).map eI:=by simp[eI]

def stEns (l:List Smp) (rows:List Int) (n:Nat) (acc:List Int) (k:Nat):St:=⟨[(20,vI k),(19,vI l.length),(18, .sl (l.map eSmp)),(5, .own 5),(4, .win 14000 0 n),(3, .sl ((F.prs l).map eI))],[(14000,⟨false,3,1,rows.map eI⟩),(5,⟨false,3,1,acc.map eI⟩)]⟩

def stEns1 (a:(List Smp)×(List Int)×Nat×(List Int)×Nat):St:=stEns a.1 a.2.1 a.2.2.1 a.2.2.2.1 a.2.2.2.2

theorem stEns_inj (a a':(List Smp)×(List Int)×Nat×(List Int)×Nat) (h:stEns1 a=stEns1 a'):a=a':=by
 simp only[stEns1,stEns]at h
 try simp[ints_inj,eSmps_inj]at h
 grind

theorem unstEns0 (l:List Smp) (rows:List Int) (n:Nat)  : unenc stEns1 (St.mk [(20,(vI (0:Int))),(19,(vI (↑(List.length l):Int))),(18,AV.sl (List.map eSmp l)),(5, .own 5),(4,AV.win (14000:Nat) (0:Nat) n),(3,AV.sl (List.map eI
 (F.prs l)))] [(14000,Blk.mk false 3 1 (List.map eI rows)),(5,Blk.mk false 3 1 [])])=some (l,rows,n,[],0):=unenc_of stEns_inj (l,rows,n,[],0) rfl

def outEns (l:List Smp) (rows:List Int) (n:Nat) (acc:List Int) (k:Nat):T (Ex×St):= .ret (.exit 0,⟨[(5, .own 5)],[(5,⟨false,3,1,(acc++(l.drop k).map (F.endG (rows.take n))).map eI⟩)]⟩)

noncomputable def prlEns (l:List Smp) (rows:List Int) (n:Nat) (acc:List Int) (k:Nat):Bool:=decide (l.length≤5000)&&(decide (k≤l.length)&&(decide (acc.length=k)&&(F.incI (rows.take n)&&(decide (n≤rows.length)&&(decide (rows.length≤100000)&&decide (1≤l.length→1≤n))))))

noncomputable def lpEns:Nat×(St→T (Ex×St)):=(7,lpo [20,19,18,5,4,3] [14000,5] stEns1 (fun a=>prlEns a.1 a.2.1 a.2.2.1 a.2.2.2.1 a.2.2.2.2) fun a=>outEns a.1 a.2.1 a.2.2.1 a.2.2.2.1 a.2.2.2.2)

noncomputable def enEns:Env:=envH ty noG lks [oPrs,oClN,oBs] [oSo,oCpt] [] [lpEns]

theorem enEns_ok:EnvOK Tryz.prog enEns:=by
 refine envH_ok lks_ok ty_ok ?_ ?_
 ·simp only[List.forall_mem_cons]
  exact⟨okPrs,okClN,okBs,by simp⟩
 ·simp only[List.forall_mem_cons]
  exact⟨okSo,okCpt,by simp⟩

theorem evEnsL (l:List Smp) (rows:List Int) (n:Nat) (acc:List Int) (k:Nat):((exec enEns (loopN Tryz.f97 0) (stEns l rows n acc k)).bind (lessX ([20,19,18,5,4,3],[14000,5]) ([5],[5]) ([],[]))).val =
 (fun(q:Bool)=>(fun(q_1:List (Nat×AV))=>bif decide ((↑k:Int)<(↑(List.length l):Int)) then Option.bind (unenc (List.map eSmp) (List.map eSmp l)) fun(z :
 List Smp)=>bif decide (k<List.length z) then Option.bind (unenc (List.map eI) (List.map eI (F.prs l))) fun z_1=>bif decide (k<List.length z_1) then
 Option.bind (unenc encBs [AV.sl (List.take n (List.map eI rows)),(vI (IntKind.i64.wrap (List.getD z_1 k 0+1)))]) fun z_2=>
 (fun(q_2:Nat)=>bif F.incI z_2.1&&(decide ((1:Nat)≤List.length z_2.1)&&decide (List.length z_2.1≤100000)) then bif decide ((↑q_2:Int)<(↑n :
 Int)) then bif decide (q_2<n) then Option.bind (unenc (List.map eI) (List.map eI rows)) fun z=>bif decide ((0:Nat)+q_2<List.length z) then bif q
 then some (Ex.normal,St.mk q_1 [(14000,Blk.mk false 3 1 (List.map eI rows)),(5,Blk.mk false 3 1 (List.map eI acc++[[(vI (List.getD z ((0:Nat)+q_2) (0 :
 Int)))]]))]) else none else none else none else Option.bind (unenc (List.map eI) (List.map eI (F.prs l))) fun z_3=>bif decide (k<List.length z_3) then bif
 q then some (Ex.normal,St.mk q_1 [(14000,Blk.mk false 3 1 (List.map eI rows)),(5,Blk.mk false 3 1 (List.map eI acc++[[(vI (IntKind.i64.wrap (List.getD z_3 k
 (0:Int)+(List.getD z k (Smp.mk (0:Int) (0:Int) (0:Int) (0:Int) false)).step)))]]))]) else none else none else none) (F.cntL z_2.2 z_2.1) else none else
 none else some (Ex.exit (0:Nat),St.mk [(5, .own 5)] [(5,Blk.mk false 3 1 (List.map eI acc))])) [(20,(vI (IntKind.i64.wrap ((↑k:Int)+1)))),(19,
 (vI (↑(List.length l):Int))),(18,AV.sl (List.map eSmp l)),(5, .own 5),(4,AV.win (14000:Nat) (0:Nat) n),(3,AV.sl (List.map eI (F.prs l)))]) (Nat.ble
 ((List.length (List.map eI acc)+1)*8) (140737488355328:Nat)&&true):=(execR_bind _ _ _).symm.trans (by kernel_rfl)

theorem lpEns_ok (l:List Smp) (rows:List Int) (n:Nat) (acc:List Int) (k:Nat) (hp:prlEns l rows n acc k=true) : ∀ex s',(outEns l rows n acc k).val=some (ex,s')→LoopOK enEns (loopN Tryz.f97 0) (stEns l rows n acc k) ex s':=by
 simp only[prlEns,Bool.and_eq_true,decide_eq_true_eq]at hp
 obtain⟨h1,h2,h3,h4,h5,h6,h7⟩:=hp
 refine loop_gen (st:=fun a:List Int×Nat=>stEns l rows n a.1 a.2) (out:=fun a=>outEns l rows n a.1 a.2) (I:=fun a=>a.2≤l.length∧a.1.length=a.2) (n:=([20,19,18,5,4,3],[14000,5])) (e:=([5],[5])) (r:=([],[])) (fun a=>l.length - a.2) ?_ (acc,k) ⟨h2,h3⟩
 clear h2 h3 acc k
 rintro⟨acc,k⟩ ⟨h2,h3⟩
 simp only at h2 h3
 by_cases hlt:k<l.length
 ·right
  have hy:l[k]? = some l[k]:=List.getElem?_eq_getElem hlt
  have hd:l.drop k=l[k]::l.drop (k+1):=List.drop_eq_getElem_cons hlt
  generalize l[k]=y at hy hd
  have hp:(F.prs l)[k]? = some (F.pr y):=by unfold F.prs;rw[List.getElem?_map,hy];rfl
  have hpl:decide (k<(F.prs l).length)=true:=decide_eq_true (by rw[F.prs_len];exact hlt)
  have hb:Nat.ble ((acc.length+1)*8) 140737488355328=true:=ble_t (by omega)
  have hnl:(rows.take n).length=n:=by rw[List.length_take];omega
  have hn1:=h7 (by omega)
  refine⟨(acc++[F.endG (rows.take n) y],k+1),?_,rfl,⟨hlt,by simp[h3]⟩,by simp only;omega,?_⟩
  ·rw[evEnsL]
   simp only[unBs,Option.bind_some,List.length_map,unInts,unSmps,cond_true,Bool.and_true,cast_lt hlt,decide_eq_true hlt,next_at hlt (by omega:l.length≤9223372036854775807),getD_at hy,getD_at hp,hpl,hb,←List.map_take,h4,hnl,decide_eq_true hn1,decide_eq_true (show n≤100000 by omega),Nat.zero_add,appI1]
   unfold F.endG
   rw[hnl]
   generalize hc:F.cntL (IntKind.i64.wrap (F.pr y+1)) (rows.take n)=c
   by_cases hcn:c<n
   ·have e1:decide (c<rows.length)=true:=decide_eq_true (by omega)
    have e2:(rows.take n).getD c 0=rows.getD c 0:=by simp[List.getD,hcn]
    rw[cast_lt hcn,decide_eq_true hcn,e2]
    simp only[cond_true,e1]
    rfl
   ·rw[decide_eq_false hcn,decide_eq_false (show ¬((c:Int)<(n:Int)) by omega)]
    rfl
  ·simp only[outEns,hd,List.map_cons,List.append_assoc,List.singleton_append]
 ·left
  have hk:k=l.length:=by omega
  subst hk
  refine⟨_,?_,rfl,by simp,rfl⟩
  rw[evEnsL]
  simp only[Option.bind_some,List.length_map,unInts,unSmps,cond_false,Bool.and_true,cast_ge,List.drop_length,List.map_nil,List.append_nil]
  try rfl

theorem evEns (l:List Smp):(runF enEns false Tryz.f97 [.sl (l.map eSmp)]).val =
 Option.bind (unenc encPrs [AV.sl (List.map eSmp l)]) fun z=>bif decide (List.length z≤5000) then Option.bind (unenc encClN [AV.sl (List.map eI
 (F.prs z))]) fun z_1=>bif decide (List.length z_1≤100000) then Option.bind (unenc encSo ([.own 900],[(900,Blk.mk false 3 1 (List.map eI z_1))]))
 fun z_2=>bif decide (List.length z_2≤100000) then Option.bind (unenc encCpt ([.own 900],[(900,Blk.mk false 3 1 (List.map eI (F.srtI z_2)))]))
 fun z_3=>bif decide (List.length z_3≤100000) then Option.bind (unenc stEns1 (St.mk [(20,(vI 0)),(19,(vI (↑(List.length (List.map eSmp
 l)):Int))),(18,AV.sl (List.map eSmp l)),(5, .own 5),(4,AV.win (14000:Nat) (0:Nat) (List.length (F.cmpI z_3))),(3,AV.sl (List.map eI (F.prs z)))] [(14000,
 Blk.mk false 3 1 (List.map eI (F.cmpI z_3++List.replicate (List.length z_3 - List.length (F.cmpI z_3)) (0:Int)))),(5,Blk.mk false 3 1 [])])) fun z=>bif decide (List.length z.1≤5000)&&(decide (z.2.2.2.2≤List.length z.1)&&(decide (List.length z.2.2.2.1 =
 z.2.2.2.2)&&(F.incI (List.take z.2.2.1 z.2.1)&&(decide (z.2.2.1≤List.length z.2.1)&&(decide (List.length z.2.1≤100000) &&
 decide ((1:Nat)≤List.length z.1→(1:Nat)≤z.2.2.1))))))&&true then some (AV.sl (List.map eI (z.2.2.2.1++List.map (F.endG (List.take
 z.2.2.1 z.2.1)) (List.drop z.2.2.2.2 z.1))),[]) else none else none else none else none else none:=(runFR_val).symm.trans (by kernel_rfl)

def encEns1 (l:List Smp):List AV:=[.sl (l.map eSmp)]

def encEns (a:(List Smp)):List AV:=encEns1 a

theorem encEns_inj (a a':(List Smp)) (h:encEns a=encEns a'):a=a':=by
 simp only[encEns,encEns1]at h
 try simp[eSmps_inj]at h
 grind

theorem unEns (l:List Smp):unenc encEns ([AV.sl (List.map eSmp l)])=some (l):=unenc_of encEns_inj (l) rfl

def resEns1 (l:List Smp):AV×Heap:=(.sl ((F.endsL l).map eI),[])

def preEns1 (l:List Smp):Bool:=decide (l.length≤5000)

noncomputable def oEns:Orc:=orc 97 false encEns (fun a=>preEns1 a) fun a=>resEns1 a

theorem okEns:OrcOK Tryz.prog noG oEns:=by
 refine mk_ok Tryz.f97 (keep:=false) (by kernel_rfl) (by kernel_rfl) enEns_ok mixed (one_loop (x0:=loopN Tryz.f97 0) (by kernel_rfl) (lpo_ok ?_)) (by first | exact fun _ _=>⟨rfl,rfl⟩ | (intro h;cases h)) ?_
 ·rintro⟨l,rows,n,acc,k⟩ hp
  exact lpEns_ok l rows n acc k hp
 rintro l hpre hok
 show(runF enEns false _ (encEns1 _)).val=some (resEns1 _)
 unfold encEns1 resEns1
 rw[evEns]
 have h1:l.length≤5000:=of_decide_eq_true hpre
 obtain⟨t1,t2,t3⟩:=F.tms_ok l
 have e1:=F.prs_len l
 have e2:=F.srtI_len (F.prs l)
 have e3:((F.tms l)++List.replicate ((F.srtI (F.prs l)).length - (F.tms l).length) 0).take (F.tms l).length=F.tms l:=by rw[List.take_append_of_le_length (Nat.le_refl _),List.take_of_length_le (Nat.le_refl _)]
 have e4:((F.tms l)++List.replicate ((F.srtI (F.prs l)).length - (F.tms l).length) 0).length≤100000∧(F.tms l).length≤((F.tms l)++List.replicate ((F.srtI (F.prs l)).length - (F.tms l).length) 0).length:=by rw[List.length_append,List.length_replicate];omega
 have et:F.cmpI (F.srtI (F.prs l))=F.tms l:=rfl
 simp only[unPrs,unClN,unSo,unCpt,unstEns0,Option.bind_some,List.length_map,cond_true,Bool.and_true,Bool.true_and,decide_eq_true h1,et]
 rw[decide_eq_true (show(F.prs l).length≤100000 by omega),decide_eq_true (show(F.srtI (F.prs l)).length≤100000 by omega)]
 simp only[cond_true]
 generalize (F.tms l)++List.replicate ((F.srtI (F.prs l)).length - (F.tms l).length) 0=rows at *
 simp only[Nat.zero_le,decide_true,List.length_nil,e3,t1,decide_eq_true e4.1,decide_eq_true e4.2,decide_eq_true t3,Bool.and_self,cond_true,List.drop_zero,List.nil_append]
 rfl

end M

def F.nkL:List Smp→Nat
 | []=>0
 | s::r=>bif s.key then 0 else F.nkL r+1

def F.toK (l:List Smp) (k:Nat):Nat:=k+F.nkL (l.drop k)

theorem F.nkL_le : ∀l:List Smp,F.nkL l≤l.length
 | []=>Nat.le_refl _
 | s::r=>by
  have:=F.nkL_le r
  unfold F.nkL
  cases s.key
  ·simp only[cond_false,List.length_cons];omega
  ·simp

theorem F.toK_le {l:List Smp} {k:Nat} (h:k≤l.length):k≤F.toK l k∧F.toK l k≤l.length:=by
 have:=F.nkL_le (l.drop k)
 rw[List.length_drop]at this
 unfold F.toK
 omega

def F.slI (p:List Int) (a b:Nat):List Int:=(p.take b).drop a

def F.grp (l:List Smp) (k te:Nat) (last:Int):Grp:=
 ⟨k,te,(l.getD k ⟨0,0,0,0,false⟩).key,(l.getD k ⟨0,0,0,0,false⟩).key&&((F.minL (F.slI (F.prs l) k te)==(F.prs l).getD k 0)&&(!F.hasI (F.minL (F.slI (F.prs l) k te)) (F.slI (F.prs l) (k+1) te)&&(decide (k=0)||decide (last<F.minL (F.slI (F.prs l) k te))))),F.minL (F.slI (F.prs l) k te),F.maxL (F.slI (F.endsL l) k te)⟩

def F.lstK (l:List Smp) (k te:Nat) (last:Int):Int:=max (bif decide (k=0) then (F.prs l).getD 0 0 else last) (F.maxL (F.slI (F.prs l) k te))

def F.grps (l:List Smp):Nat→Nat→Int→List Grp
 | 0,_,_=>[]
 | n+1,k,last=>if k<l.length then F.grp l k (F.toK l (k+1)) last::F.grps l n (F.toK l (k+1)) (F.lstK l k (F.toK l (k+1)) last) else []

theorem F.grps_fuel (l:List Smp) : ∀(n m k:Nat) (last:Int),l.length≤k+n→l.length≤k+m→F.grps l n k last=F.grps l m k last
 | 0,0,_,_,_,_=>rfl
 | 0,m+1,k,last,h1,h2=>by unfold F.grps;rw[if_neg (by omega)]
 | n+1,0,k,last,h1,h2=>by unfold F.grps;rw[if_neg (by omega)]
 | n+1,m+1,k,last,h1,h2=>by
  unfold F.grps
  by_cases h:k<l.length
  ·rw[if_pos h,if_pos h]
   have:=(F.toK_le (l:=l) (k:=k+1) h).1
   rw[F.grps_fuel l n m _ _ (by omega) (by omega)]
  ·rw[if_neg h,if_neg h]

def F.grpL (l:List Smp):List Grp:=F.grps l l.length 0 0

theorem F.grps_go {l:List Smp} {k:Nat} (last:Int) (h:k<l.length):F.grps l l.length k last=F.grp l k (F.toK l (k+1)) last::F.grps l l.length (F.toK l (k+1)) (F.lstK l k (F.toK l (k+1)) last):=by
 have:=(F.toK_le (l:=l) (k:=k+1) h).1
 obtain⟨n,hn⟩ : ∃n,l.length=n+1:=⟨l.length - 1,by omega⟩
 rw[F.grps_fuel l l.length (n+1) k last (by omega) (by omega)]
 conv=>lhs;unfold F.grps
 rw[if_pos h,F.grps_fuel l n l.length _ _ (by omega) (by omega)]

theorem F.grps_end (l:List Smp) (n:Nat) (last:Int):F.grps l n l.length last=[]:=by
 cases n with
 | zero=>rfl
 | succ n=>unfold F.grps;rw[if_neg (by omega)]

namespace M

def stGps (l:List Smp) (last:Int) (acc:List Grp) (k:Nat):St:=⟨[(7,vI k),(6,vI last),(5, .own 5),(4, .sl ((F.endsL l).map eI)),(3, .sl ((F.prs l).map eI)),(0, .sl (l.map eSmp))],[(5,⟨false,182,6,acc.map eGrp⟩)]⟩

def stGps1 (a:(List Smp)×Int×(List Grp)×Nat):St:=stGps a.1 a.2.1 a.2.2.1 a.2.2.2

theorem stGps_inj (a a':(List Smp)×Int×(List Grp)×Nat) (h:stGps1 a=stGps1 a'):a=a':=by
 simp only[stGps1,stGps]at h
 try simp[ints_inj,eSmps_inj,eGrps_inj]at h
 grind

theorem unstGps0 (l:List Smp)  : unenc stGps1 (St.mk [(7,(vI (0:Int))),(6,(vI (0:Int))),(5, .own 5),(4,AV.sl (List.map eI (F.endsL l))),(3,AV.sl (List.map eI (F.prs l))),(0,AV.sl (List.map eSmp l))] [(5,
 Blk.mk false 182 6 [])])=some (l,0,[],0):=unenc_of stGps_inj (l,0,[],0) rfl

def outGps (l:List Smp) (last:Int) (acc:List Grp) (k:Nat):T (Ex×St):= .ret (.exit 0,⟨[(5, .own 5)],[(5,⟨false,182,6,(acc++F.grps l l.length k last).map eGrp⟩)]⟩)

noncomputable def prlGps (l:List Smp) (last:Int) (acc:List Grp) (k:Nat):Bool:=decide (l.length≤5000)&&(decide (k≤l.length)&&decide (acc.length≤k))

noncomputable def lpGps:Nat×(St→T (Ex×St)):=(5,lpo [7,6,5,4,3,0] [5] stGps1 (fun a=>prlGps a.1 a.2.1 a.2.2.1 a.2.2.2) fun a=>outGps a.1 a.2.1 a.2.2.1 a.2.2.2)

def stGp2 (l:List Smp) (last:Int) (acc:List Grp) (k:Nat) (te:Nat):St:=⟨[(8,vI te),(7,vI k),(6,vI last),(5, .own 5),(4, .sl ((F.endsL l).map eI)),(3, .sl ((F.prs l).map eI)),(0, .sl (l.map eSmp))],[(5,⟨false,182,6,acc.map eGrp⟩)]⟩

def stGp21 (a:(List Smp)×Int×(List Grp)×Nat×Nat):St:=stGp2 a.1 a.2.1 a.2.2.1 a.2.2.2.1 a.2.2.2.2

theorem stGp2_inj (a a':(List Smp)×Int×(List Grp)×Nat×Nat) (h:stGp21 a=stGp21 a'):a=a':=by
 simp only[stGp21,stGp2]at h
 try simp[ints_inj,eSmps_inj,eGrps_inj]at h
 grind

theorem unstGp2 (l:List Smp) (last:Int) (acc:List Grp) (k:Nat) (te:Nat):unenc stGp21 (St.mk [(8,(vI (↑te:Int))),(7,(vI (↑k:Int))),(6,(vI last)),(5, .own 5),(4,AV.sl (List.map eI (F.endsL l))),(3,AV.sl (List.map eI (F.prs l))),(0,AV.sl
 (List.map eSmp l))] [(5,Blk.mk false 182 6 (List.map eGrp acc))])=some (l,last,acc,k,te):=unenc_of stGp2_inj (l,last,acc,k,te) rfl

def outGp2 (l:List Smp) (last:Int) (acc:List Grp) (k:Nat) (te:Nat):T (Ex×St):= .ret (.exit 2,⟨[(8,vI (F.toK l te:Nat)),(7,vI k),(6,vI last),(5, .own 5),(4, .sl ((F.endsL l).map eI)),(3, .sl ((F.prs l).map eI)),(0, .sl (l.map eSmp))],[(5,⟨false,182,6,acc.map eGrp⟩)]⟩)

noncomputable def prlGp2 (l:List Smp) (last:Int) (acc:List Grp) (k:Nat) (te:Nat):Bool:=decide (l.length≤5000)&&decide (te≤l.length)

noncomputable def lpGp2:Nat×(St→T (Ex×St)):=(7,lpo [8,7,6,5,4,3,0] [5] stGp21 (fun a=>prlGp2 a.1 a.2.1 a.2.2.1 a.2.2.2.1 a.2.2.2.2) fun a=>outGp2 a.1 a.2.1 a.2.2.1 a.2.2.2.1 a.2.2.2.2)

noncomputable def enGps:Env:=envH ty noG lks [oPrs,oEns,oMn,oMx,oHas] [] [] [lpGps,lpGp2]

theorem enGps_ok:EnvOK Tryz.prog enGps:=by
 refine envH_ok lks_ok ty_ok ?_ ?_
 ·simp only[List.forall_mem_cons]
  exact⟨okPrs,okEns,okMn,okMx,okHas,by simp⟩
 ·simp

theorem evGp2L (l:List Smp) (last:Int) (acc:List Grp) (k:Nat) (te:Nat):((exec enGps (loopN Tryz.f170 1) (stGp2 l last acc k te)).bind (lessX ([8,7,6,5,4,3,0],[5]) ([8,7,6,5,4,3,0],[5]) ([],[]))).val =
 bif decide ((↑te:Int)<(↑(List.length (List.map eSmp l)):Int)) then Option.bind (unenc (List.map eSmp) (List.map eSmp l)) fun z=>bif decide (te <
 List.length z) then bif !(List.getD z te (Smp.mk (0:Int) (0:Int) (0:Int) (0:Int) false)).key then some (Ex.normal,St.mk [(8,(vI (IntKind.i64.wrap ((↑te :
 Int)+1)))),(7,(vI (↑k:Int))),(6,(vI last)),(5, .own 5),(4,AV.sl (List.map eI (F.endsL l))),(3,AV.sl (List.map eI (F.prs l))),(0,AV.sl (List.map eSmp
 l))] [(5,Blk.mk false 182 6 (List.map eGrp acc))]) else some (Ex.exit (2:Nat),St.mk [(8,(vI (↑te:Int))),(7,(vI (↑k:Int))),(6,(vI last)),(5, .own 5),(4,
 AV.sl (List.map eI (F.endsL l))),(3,AV.sl (List.map eI (F.prs l))),(0,AV.sl (List.map eSmp l))] [(5,Blk.mk false 182 6 (List.map eGrp acc))]) else none else some
 (Ex.exit (2:Nat),St.mk [(8,(vI (↑te:Int))),(7,(vI (↑k:Int))),(6,(vI last)),(5, .own 5),(4,AV.sl (List.map eI (F.endsL l))),(3,AV.sl (List.map eI (F.prs
 l))),(0,AV.sl (List.map eSmp l))] [(5,Blk.mk false 182 6 (List.map eGrp acc))]):=(execR_bind _ _ _).symm.trans (by kernel_rfl)

theorem lpGp2_ok (l:List Smp) (last:Int) (acc:List Grp) (k:Nat) (te:Nat) (hp:prlGp2 l last acc k te=true) : ∀ex s',(outGp2 l last acc k te).val=some (ex,s')→LoopOK enGps (loopN Tryz.f170 1) (stGp2 l last acc k te) ex s':=by
 simp only[prlGp2,Bool.and_eq_true,decide_eq_true_eq]at hp
 obtain⟨h1,h2⟩:=hp
 refine loop_gen (st:=fun te:Nat=>stGp2 l last acc k te) (out:=fun te=>outGp2 l last acc k te) (I:=fun te=>te≤l.length) (n:=([8,7,6,5,4,3,0],[5])) (e:=([8,7,6,5,4,3,0],[5])) (r:=([],[])) (fun te=>l.length - te) ?_ te h2
 clear h2 te
 intro te h2
 by_cases hlt:te<l.length
 ·have hy:l[te]? = some l[te]:=List.getElem?_eq_getElem hlt
  have hd:l.drop te=l[te]::l.drop (te+1):=List.drop_eq_getElem_cons hlt
  generalize l[te]=y at hy hd
  cases hk:y.key
  ·right
   refine⟨te+1,?_,rfl,hlt,by omega,?_⟩
   ·rw[evGp2L]
    simp only[Option.bind_some,List.length_map,unSmps,cond_true,cast_lt hlt,decide_eq_true hlt,next_at hlt (by omega:l.length≤9223372036854775807),getD_at hy,hk,Bool.not_false]
    try rfl
   ·have e:F.toK l (te+1)=F.toK l te:=by
     unfold F.toK
     rw[hd]
     conv=>rhs;unfold F.nkL
     rw[hk]
     simp only[cond_false]
     omega
    simp only[outGp2,e]
  ·left
   have e:F.toK l te=te:=by
    unfold F.toK
    rw[hd]
    unfold F.nkL
    rw[hk]
    rfl
   refine⟨_,?_,rfl,by simp,rfl⟩
   rw[evGp2L]
   simp only[Option.bind_some,List.length_map,unSmps,cond_true,cond_false,cast_lt hlt,decide_eq_true hlt,getD_at hy,hk,Bool.not_true,e]
   try rfl
 ·left
  have hk:te=l.length:=by omega
  subst hk
  have e:F.toK l l.length=l.length:=by
   unfold F.toK
   rw[List.drop_length]
   rfl
  refine⟨_,?_,rfl,by simp,rfl⟩
  rw[evGp2L]
  simp only[Option.bind_some,List.length_map,unSmps,cond_false,cast_ge,e]
  try rfl

theorem int_nat0 (k:Nat):((k:Int)==0)=decide (k=0):=by
 by_cases h:k=0
 ·rw[h];rfl
 ·rw[decide_eq_false h,beq_eq_false_iff_ne];omega

theorem appGrp (xs:List Grp) (a b:Int) (c d:Bool) (e f:Int):xs.map eGrp++[[vI a,vI b,vB c,vB d,vI e,vI f]]=(xs++[(⟨a,b,c,d,e,f⟩:Grp)]).map eGrp:=by simp[eGrp]

theorem evGpsL (l:List Smp) (last:Int) (acc:List Grp) (k:Nat):((exec enGps (loopN Tryz.f170 0) (stGps l last acc k)).bind (lessX ([7,6,5,4,3,0],[5]) ([5],[5]) ([],[]))).val =
 (fun(q:Smp)=>bif decide ((↑k:Int)<(↑(List.length (List.map eSmp l)):Int)) then Option.bind (unenc stGp21 (St.mk [(8,(vI (IntKind.i64.wrap ((↑k:Int) +
 (1:Int))))),(7,(vI (↑k:Int))),(6,(vI last)),(5, .own 5),(4,AV.sl (List.map eI (F.endsL l))),(3,AV.sl (List.map eI (F.prs l))),(0,AV.sl (List.map eSmp l))]
 [(5,Blk.mk false 182 6 (List.map eGrp acc))])) fun z=>(fun(q_1:List (List AV))=>(fun(q_2:Nat)=>(fun(q_3:List Row)
 =>(fun(q_4:Option (List Int))=>(fun(q_5:Bool)=>(fun(q_6:Nat)=>(fun(q_7:AV)=>(fun(q_8:AV)=>(fun(q_9:Bool)=>(fun(q_10:Nat×AV)=>(fun
 (q_11:Bool)=>(fun(q_12:Bool)=>(fun(q_13:List AV)=>(fun(q_14:Option (List Int))=>(fun(q_15:List (Nat×AV))=>(fun(q_16:Bool)=>bif decide
 (List.length z.1≤5000)&&decide (z.2.2.2.2≤List.length z.1)&&true then Option.bind (unenc (List.map eSmp) (List.map eSmp z.1)) fun z_1=>(fun(q_17:AV)=>bif decide (q_2<List.length z_1) then bif q_16 then Option.bind (unenc encMn q_13) fun z_2=>(fun(q_18:AV)=>bif decide
 (List.length z_2≤5000)&&decide ((1:Nat)≤List.length z_2) then bif Nat.ble q_2 q_6&&Nat.ble q_6 (List.length (List.map eI (F.endsL z.1)))&&List.all
 (List.map eI (F.endsL z.1)) fun(r:Row)=>Nat.beq (List.length r) (1:Nat) then Option.bind (unenc encMx [AV.sl (List.drop q_2 (List.take q_6 (List.map eI (F.endsL
 z.1))))]) fun z_3=>(fun(q_19:List AV)=>(fun(q_20:List (Nat×Blk))=>(fun(q_21:Option (Ex×St))=>bif decide (List.length z_3≤5000)&&decide ((1:Nat)≤List.length z_3) then bif (List.getD z_1 q_2 q).key then Option.bind q_4 fun z_4=>bif decide (q_2<List.length z_4) then bif
 F.minL z_2==List.getD z_4 q_2 0 then Option.bind (idx (IntKind.i64.wrap ((↑q_2:Int)+1))) fun z_5=>bif Nat.ble z_5 q_6&&q_11 &&
 q_9 then Option.bind (unenc encHas [AV.sl (List.drop z_5 (List.take q_6 q_1)),q_18]) fun z_6=>(fun(q:List (Nat×Blk))=>bif q_5 then Option.bind
 q_4 fun z=>bif decide ((0:Nat)<List.length z) then bif q_16 then Option.bind q_14 fun z_7=>bif decide (List.length z_7≤5000) &&
 decide ((1:Nat)≤List.length z_7) then bif q_12 then some (Ex.normal,St.mk (q_10::(6,(vI (max (List.getD z (0:Nat) (0:Int)) (F.maxL z_7))))::q_15) q) else
 none else none else none else none else bif q_16 then Option.bind q_14 fun z_7=>bif decide (List.length z_7≤5000)&&decide ((1:Nat) ≤
 List.length z_7) then bif q_12 then some (Ex.normal,St.mk (q_10::(6,(vI (max z.2.1 (F.maxL z_7))))::q_15) q) else none else none else none) [(5,Blk.mk false 182
 6 (q_3++[q_7::q_8::q_17::(vB (bif !F.hasI z_6.2 z_6.1 then bif q_5 then true else decide (z.2.1<F.minL z_2) else false))::q_19]))] else none else q_21
 else none else q_21 else none) (bif q_5 then Option.bind q_4 fun z=>bif decide ((0:Nat)<List.length z) then bif q_16 then Option.bind q_14 fun(z_4 :
 List Int)=>bif decide (List.length z_4≤5000)&&decide ((1:Nat)≤List.length z_4) then bif q_12 then some (Ex.normal,St.mk (q_10::(6,(vI (max (List.getD
 z (0:Nat) (0:Int)) (F.maxL z_4))))::q_15) q_20) else none else none else none else none else bif q_16 then Option.bind q_14 fun z_4=>bif decide
 (List.length z_4≤5000)&&decide ((1:Nat)≤List.length z_4) then bif q_12 then some (Ex.normal,St.mk (q_10::(6,(vI (max z.2.1 (F.maxL z_4))))::q_15)
 q_20) else none else none else none)) [(5,Blk.mk false 182 6 (q_3++[q_7::q_8::q_17::(vB false)::q_19]))]) [q_18,(vI (F.maxL z_3))] else none else none) ((vI
 (F.minL z_2))) else none else none) ((vB (List.getD z_1 q_2 q).key)) else none) (Nat.ble q_2 q_6&&q_11&&q_9)) [(5, .own 5),(4,AV.sl (List.map eI (F.endsL z.1))),
 (3,AV.sl q_1),(0,AV.sl (List.map eSmp z.1))]) (unenc encMx q_13)) [AV.sl (List.drop q_2 (List.take q_6 q_1))]) (Nat.ble ((List.length q_3+1)*40)
 (140737488355328:Nat)&&true)) (Nat.ble q_6 (List.length q_1))) (7,q_8)) (List.all q_1 fun(r:Row)=>Nat.beq (List.length r) (1:Nat))) ((vI (↑q_6:Int)))) ((vI
 (↑q_2:Int)))) (F.toK z.1 z.2.2.2.2)) ((↑q_2:Int)==0)) (unenc (List.map eI) q_1)) (List.map eGrp z.2.2.1)) z.2.2.2.1) (List.map eI
 (F.prs z.1)) else some (Ex.exit (0:Nat),St.mk [(5, .own 5)] [(5,Blk.mk false 182 6 (List.map eGrp acc))])) (Smp.mk (0:Int) (0:Int) (0:Int) (0:Int) false):=(execR_bind _ _ _).symm.trans (by kernel_rfl)

theorem lpGps_ok (l:List Smp) (last:Int) (acc:List Grp) (k:Nat) (hp:prlGps l last acc k=true) : ∀ex s',(outGps l last acc k).val=some (ex,s')→LoopOK enGps (loopN Tryz.f170 0) (stGps l last acc k) ex s':=by
 simp only[prlGps,Bool.and_eq_true,decide_eq_true_eq]at hp
 obtain⟨h1,h2,h3⟩:=hp
 refine loop_gen (st:=fun a:List Grp×Int×Nat=>stGps l a.2.1 a.1 a.2.2) (out:=fun a=>outGps l a.2.1 a.1 a.2.2) (I:=fun a=>a.2.2≤l.length∧a.1.length≤a.2.2) (n:=([7,6,5,4,3,0],[5])) (e:=([5],[5])) (r:=([],[])) (fun a=>l.length - a.2.2) ?_ (acc,last,k) ⟨h2,h3⟩
 clear h2 h3 acc k last
 rintro⟨acc,last,k⟩ ⟨h2,h3⟩
 simp only at h2 h3
 by_cases hlt:k<l.length
 ·right
  have hy:l[k]? = some l[k]:=List.getElem?_eq_getElem hlt
  generalize l[k]=y at hy
  have hgo:=F.grps_go (l:=l) (k:=k) last hlt
  have ht:=F.toK_le (l:=l) (k:=k+1) hlt
  have hpl:=F.prs_len l
  have hel:=F.endsL_len l
  refine⟨(acc++[F.grp l k (F.toK l (k+1)) last],F.lstK l k (F.toK l (k+1)) last,F.toK l (k+1)),?_,rfl,⟨ht.2,by simp;omega⟩,by simp only;omega,?_⟩
  ·have hb:Nat.ble ((acc.length+1)*40) 140737488355328=true:=ble_t (by omega)
   have hN:=next_at hlt (by omega:l.length≤9223372036854775807)
   have hi:idx ((k+1:Nat):Int)=some (k+1):=rfl
   have b1:Nat.ble k (F.toK l (k+1))=true:=ble_t (by omega)
   have b2:Nat.ble (F.toK l (k+1)) (F.prs l).length=true:=ble_t (by omega)
   have b3:Nat.ble (F.toK l (k+1)) (F.endsL l).length=true:=ble_t (by omega)
   have b4:Nat.ble (k+1) (F.toK l (k+1))=true:=ble_t (by omega)
   have l1:(List.drop k (List.take (F.toK l (k+1)) (F.prs l))).length=F.toK l (k+1) - k:=by rw[List.length_drop,List.length_take];omega
   have l2:(List.drop k (List.take (F.toK l (k+1)) (F.endsL l))).length=F.toK l (k+1) - k:=by rw[List.length_drop,List.length_take];omega
   have d1:decide (F.toK l (k+1) - k≤5000)=true:=decide_eq_true (by omega)
   have d2:decide (1≤F.toK l (k+1) - k)=true:=decide_eq_true (by omega)
   have d3:decide (k<(F.prs l).length)=true:=decide_eq_true (by omega)
   have d4:decide (0<(F.prs l).length)=true:=decide_eq_true (by omega)
   have d5:decide (k+1≤l.length)=true:=decide_eq_true (by omega)
   rw[evGpsL]
   simp only[unMn,unMx,unHas,unstGp2,Option.bind_some,List.length_map,unInts,unSmps,cond_true,Bool.and_true,cast_lt hlt,decide_eq_true hlt,hN,decide_eq_true h1,d5,Bool.and_self,getD_at hy,b1,b2,b3,b4,all_ints,←List.map_take,←List.map_drop,l1,l2,d1,d2,d3,d4,hi,hb,int_nat0,appGrp]
   unfold F.grp F.lstK F.slI
   rw[getD_at hy]
   generalize F.minL _=mn
   generalize F.maxL (List.drop k (List.take (F.toK l (k+1)) (F.prs l)))=mx
   generalize F.maxL (List.drop k (List.take (F.toK l (k+1)) (F.endsL l)))=me
   generalize F.hasI mn _=hh
   generalize (F.prs l).getD k 0=pk
   generalize (F.prs l).getD 0 0=p0
   generalize F.toK l (k+1)=te
   cases y.key
   ·by_cases hk:k=0
    ·subst hk;rfl
    ·rw[decide_eq_false hk];rfl
   ·cases(mn==pk)
    ·by_cases hk:k=0
     ·subst hk;rfl
     ·rw[decide_eq_false hk];rfl
    ·by_cases hk:k=0
     ·subst hk;cases hh<;>rfl
     ·rw[decide_eq_false hk];cases hh<;>rfl
  ·simp only[outGps,hgo,List.append_assoc,List.singleton_append]
 ·left
  have hk:k=l.length:=by omega
  subst hk
  refine⟨_,?_,rfl,by simp,rfl⟩
  rw[evGpsL]
  simp only[Option.bind_some,List.length_map,unInts,unSmps,cond_false,Bool.and_true,cast_ge,F.grps_end,List.append_nil]
  try rfl

theorem evGps (l:List Smp):(runF enGps false Tryz.f170 [.sl (l.map eSmp)]).val =
 Option.bind (unenc encPrs [AV.sl (List.map eSmp l)]) fun z=>bif decide (List.length z≤5000) then Option.bind (unenc encEns [AV.sl (List.map eSmp
 l)]) fun z_1=>bif decide (List.length z_1≤5000) then Option.bind (unenc stGps1 (St.mk [(7,(vI 0)),(6,(vI 0)),(5, .own 5),(4,
 AV.sl (List.map eI (F.endsL z_1))),(3,AV.sl (List.map eI (F.prs z))),(0,AV.sl (List.map eSmp l))] [(5,Blk.mk false 182 6 [])])) fun z=>bif decide (List.length z.1≤5000)&&(decide (z.2.2.2≤List.length z.1)&&decide (List.length z.2.2.1≤z.2.2.2))&&true then
 some (AV.sl (List.map eGrp (z.2.2.1++F.grps z.1 (List.length z.1) z.2.2.2 z.2.1)),[]) else none else none else none:=(runFR_val).symm.trans (by kernel_rfl)

def encGps1 (l:List Smp):List AV:=[.sl (l.map eSmp)]

def encGps (a:(List Smp)):List AV:=encGps1 a

theorem encGps_inj (a a':(List Smp)) (h:encGps a=encGps a'):a=a':=by
 simp only[encGps,encGps1]at h
 try simp[eSmps_inj]at h
 grind

theorem unGps (l:List Smp):unenc encGps ([AV.sl (List.map eSmp l)])=some (l):=unenc_of encGps_inj (l) rfl

def resGps1 (l:List Smp):AV×Heap:=(.sl ((F.grpL l).map eGrp),[])

def preGps1 (l:List Smp):Bool:=decide (l.length≤5000)

noncomputable def oGps:Orc:=orc 170 false encGps (fun a=>preGps1 a) fun a=>resGps1 a

theorem okGps:OrcOK Tryz.prog noG oGps:=by
 refine mk_ok Tryz.f170 (keep:=false) (by kernel_rfl) (by kernel_rfl) enGps_ok mixed (two_loops (x0:=loopN Tryz.f170 0) (x1:=loopN Tryz.f170 1) (by kernel_rfl) (lpo_ok ?_) (lpo_ok ?_)) (by first | exact fun _ _=>⟨rfl,rfl⟩ | (intro h;cases h)) ?_
 ·rintro⟨l,last,acc,k⟩ hp
  exact lpGps_ok l last acc k hp
 ·rintro⟨l,last,acc,k,te⟩ hp
  exact lpGp2_ok l last acc k te hp
 rintro l hpre hok
 show(runF enGps false _ (encGps1 _)).val=some (resGps1 _)
 unfold encGps1 resGps1
 rw[evGps]
 have h1:l.length≤5000:=of_decide_eq_true hpre
 simp only[unPrs,unEns,unstGps0,Option.bind_some,cond_true,Bool.and_true,decide_eq_true h1,Nat.zero_le,decide_true,Bool.and_self,List.length_nil,List.nil_append]
 rfl

end M

theorem F.minF_le : ∀(l:List Int) (a:Int),F.minF a l≤a∧(F.minF a l=a∨F.minF a l∈l)
 | [],a=>⟨Int.le_refl _, .inl rfl⟩
 | y::l,a=>by
  have:=F.minF_le l (min a y)
  unfold F.minF at this ⊢
  rw[List.foldl_cons]
  refine⟨by omega,?_⟩
  rcases this.2 with h | h
  ·rw[h]
   by_cases hm:a≤y
   ·left;omega
   ·right;rw[show min a y=y by omega];exact List.mem_cons_self ..
  ·right;exact List.mem_cons_of_mem _ h

theorem F.maxF_ge : ∀(l:List Int) (a:Int),a≤F.maxF a l∧(F.maxF a l=a∨F.maxF a l∈l)
 | [],a=>⟨Int.le_refl _, .inl rfl⟩
 | y::l,a=>by
  have:=F.maxF_ge l (max a y)
  unfold F.maxF at this ⊢
  rw[List.foldl_cons]
  refine⟨by omega,?_⟩
  rcases this.2 with h | h
  ·rw[h]
   by_cases hm:y≤a
   ·left;omega
   ·right;rw[show max a y=y by omega];exact List.mem_cons_self ..
  ·right;exact List.mem_cons_of_mem _ h

theorem F.minL_mem {l:List Int} (h:l≠[]):F.minL l∈l:=by
 cases l with
 | nil=>exact absurd rfl h
 | cons y l=>
  have:=(F.minF_le l y).2
  show F.minF y l∈y::l
  rcases this with h | h
  ·rw[h];exact List.mem_cons_self ..
  ·exact List.mem_cons_of_mem _ h

theorem F.min_max (l:List Int):F.minL l≤F.maxL l:=by
 have h1:=(F.minF_le l.tail (l.headD 0)).1
 have h2:=(F.maxF_ge l.tail (l.headD 0)).1
 unfold F.minL F.maxL
 omega

def F.plcs (l:List Smp):List Plc:=((F.grpL l).filter (·.closed)).map fun g=>⟨g.begin,g.fr⟩

theorem F.grp_closed {l:List Smp} {k te:Nat} {last:Int} (h:(F.grp l k te last).closed=true):k=0∨last<(F.grp l k te last).begin:=by
 unfold F.grp at h ⊢
 simp only[Bool.and_eq_true,Bool.or_eq_true,decide_eq_true_eq]at h ⊢
 exact h.2.2.2

theorem F.grps_ok (l:List Smp) : ∀(n k:Nat) (last:Int),∀g∈F.grps l n k last,((k:Int)≤g.fr∧g.fr<l.length)∧(g.closed=true→k≠0→last<g.begin) ∧ ∃a b,a<b∧b≤l.length∧g.begin=F.minL (F.slI (F.prs l) a b)
 | 0,k,last,g,hg=>by cases hg
 | n+1,k,last,g,hg=>by
  unfold F.grps at hg
  by_cases hk:k<l.length
  ·rw[if_pos hk]at hg
   have ht:=F.toK_le (l:=l) (k:=k+1) hk
   rcases List.mem_cons.1 hg with rfl | hg
   ·refine⟨⟨Int.le_refl _,by show(k:Int)<l.length;omega⟩,fun hc h0=>(F.grp_closed hc).resolve_left h0,k,F.toK l (k+1),by omega,ht.2,rfl⟩
   ·obtain⟨⟨h1,h2⟩,h3,h4⟩:=F.grps_ok l n _ _ g hg
    refine⟨⟨by omega,h2⟩,fun hc h0=>?_,h4⟩
    have:=h3 hc (by omega)
    unfold F.lstK at this
    rw[decide_eq_false h0]at this
    simp only[cond_false]at this
    omega
  ·rw[if_neg hk]at hg;cases hg

theorem F.grps_inc (l:List Smp) : ∀(n k:Nat) (last:Int),((F.grps l n k last).filter (·.closed)).Pairwise fun a b=>a.begin<b.begin∧a.fr<b.fr
 | 0,k,last=>List.Pairwise.nil
 | n+1,k,last=>by
  unfold F.grps
  by_cases hk:k<l.length
  ·rw[if_pos hk]
   have ht:=F.toK_le (l:=l) (k:=k+1) hk
   have ih:=F.grps_inc l n (F.toK l (k+1)) (F.lstK l k (F.toK l (k+1)) last)
   cases hc:(F.grp l k (F.toK l (k+1)) last).closed
   ·rw[List.filter_cons_of_neg (by simp[hc])];exact ih
   ·rw[List.filter_cons_of_pos hc]
    refine List.Pairwise.cons (fun b hb=>?_) ih
    obtain⟨hb1,hb2⟩:=List.mem_filter.1 hb
    obtain⟨⟨h1,_⟩,h3,_⟩:=F.grps_ok l n _ _ b hb1
    have h4:=h3 hb2 (by omega)
    have h5:=F.min_max (F.slI (F.prs l) k (F.toK l (k+1)))
    unfold F.lstK at h4
    refine⟨?_,?_⟩
    ·show F.minL (F.slI (F.prs l) k (F.toK l (k+1)))<_
     omega
    ·show(k:Int)<_
     omega
  ·rw[if_neg hk];exact List.Pairwise.nil

def F.plB (l:List Plc):Bool:=decide (l.Pairwise fun a b=>a.time<b.time∧a.sample<b.sample)&&(l.all fun p=>F.i64B p.time)&&decide (l.length≤5000)

theorem F.grps_len (l:List Smp) : ∀(n k:Nat) (last:Int),(F.grps l n k last).length≤n
 | 0,k,last=>Nat.le_refl _
 | n+1,k,last=>by
  unfold F.grps
  by_cases hk:k<l.length
  ·rw[if_pos hk,List.length_cons]
   have:=F.grps_len l n (F.toK l (k+1)) (F.lstK l k (F.toK l (k+1)) last)
   omega
  ·rw[if_neg hk];exact Nat.zero_le _

theorem F.grpL_len (l:List Smp):(F.grpL l).length≤l.length:=F.grps_len l _ _ _

theorem F.plcs_len (l:List Smp):(F.plcs l).length≤l.length:=by
 unfold F.plcs
 rw[List.length_map]
 exact Nat.le_trans (List.length_filter_le _ _) (F.grpL_len l)

theorem F.plcs_at {l:List Smp} (h:F.chkS l=0) {p:Plc} (hp:p∈F.plcs l):(0≤p.sample∧p.sample<l.length)∧(-1000001000000000≤p.time∧p.time≤1000001000000000):=by
 unfold F.plcs at hp
 obtain⟨g,hg,rfl⟩:=List.mem_map.1 hp
 obtain⟨⟨h1,h2⟩,_,a,b,hab,hb,he⟩:=F.grps_ok l _ _ _ g (List.mem_filter.1 hg).1
 refine⟨⟨by simp only;omega,h2⟩,?_⟩
 have hpl:=F.prs_len l
 have hm:F.minL (F.slI (F.prs l) a b)∈F.slI (F.prs l) a b:=F.minL_mem (fun e=>by
  have:=congrArg List.length e
  unfold F.slI at this
  rw[List.length_drop,List.length_take]at this
  simp at this
  omega)
 rw[←he]at hm
 have hm2:g.begin∈F.prs l:=List.mem_of_mem_take (List.mem_of_mem_drop hm)
 obtain⟨s,hs,e⟩:=List.mem_map.1 hm2
 obtain⟨q1,q2,q3,q4,q5⟩:=F.smpB_ok (F.chkS_at h hs)
 simp only
 omega

theorem F.plcs_ok {l:List Smp} (h:F.chkS l=0):F.plB (F.plcs l)=true:=by
 unfold F.plB
 simp only[Bool.and_eq_true,decide_eq_true_eq]
 refine⟨⟨?_,List.all_eq_true.2 fun p hp=>?_⟩,?_⟩
 ·unfold F.plcs
  rw[List.pairwise_map]
  exact F.grps_inc l _ _ _
 ·have:=(F.plcs_at h hp).2
  unfold F.i64B
  rw[decide_eq_true (by omega),decide_eq_true (by omega)]
  rfl
 ·have:=F.plcs_len l
  have:=F.chkS_len h
  omega

def F.cntP (sc v:Int) (l:List Plc):Nat:=l.countP fun p=>decide (p.time*sc<v)

def F.fnd (l:List Plc) (own t sc:Int):Plc×Bool:=
 bif decide (F.cntP sc (t*own) l=l.length)||(F.cmp ((l.getD (F.cntP sc (t*own) l) ⟨0,0⟩).time*sc) (t*own) != 0) then (⟨0,0⟩,false) else (l.getD (F.cntP sc (t*own) l) ⟨0,0⟩,true)

theorem F.cntP_at {sc v:Int} (hsc:1≤sc) : ∀ {l:List Plc} (_:l.Pairwise fun a b=>a.time<b.time∧a.sample<b.sample) {i:Nat} {p:Plc} (_:l[i]? = some p),p.time*sc<v↔i<F.cntP sc v l
 | [],_,i,p,hi=>by simp at hi
 | q::l,hpw,i,p,hi=>by
  have hpw2:=List.pairwise_cons.1 hpw
  unfold F.cntP
  rw[List.countP_cons]
  by_cases hq:q.time*sc<v
  ·rw[decide_eq_true hq]
   cases i with
   | zero=>
    simp only[List.getElem?_cons_zero,Option.some.injEq]at hi
    subst hi
    simp[hq]
   | succ i=>
    simp only[List.getElem?_cons_succ]at hi
    have:=F.cntP_at (v:=v) hsc hpw2.2 hi
    unfold F.cntP at this
    rw[this]
    simp
  ·have hz:List.countP (fun p:Plc=>decide (p.time*sc<v)) l=0:=by
    rw[List.countP_eq_zero]
    intro b hb
    have hlt:=(hpw2.1 b hb).1
    have:q.time*sc≤b.time*sc:=Int.mul_le_mul_of_nonneg_right (by omega) (by omega)
    simp
    omega
   rw[decide_eq_false hq,hz]
   simp only[Bool.false_eq_true,if_false,Nat.add_zero,Nat.not_lt_zero,iff_false]
   cases i with
   | zero=>
    simp only[List.getElem?_cons_zero,Option.some.injEq]at hi
    subst hi;exact hq
   | succ i=>
    simp only[List.getElem?_cons_succ]at hi
    have hlt:=(hpw2.1 p (List.mem_of_getElem? hi)).1
    have:q.time*sc≤p.time*sc:=Int.mul_le_mul_of_nonneg_right (by omega) (by omega)
    omega

theorem F.cntP_le (sc v:Int) (l:List Plc):F.cntP sc v l≤l.length:=List.countP_le_length

theorem F.fnd_mem {l:List Plc} {own t sc:Int} (h:(F.fnd l own t sc).2=true):(F.fnd l own t sc).1∈l∧(F.fnd l own t sc).1.time*sc=t*own:=by
 unfold F.fnd at h ⊢
 have hc:=F.cntP_le sc (t*own) l
 generalize F.cntP sc (t*own) l=c at *
 by_cases h1:c=l.length
 ·rw[decide_eq_true h1]at h;simp at h
 ·rw[decide_eq_false h1]at h ⊢
  have hl:l[c]? = some (l[c]'(by omega)):=List.getElem?_eq_getElem (by omega)
  rw[M.getD_at hl]at h ⊢
  cases h2:(F.cmp ((l[c]'(by omega)).time*sc) (t*own) != 0)with
  | true=>rw[h2]at h;simp at h
  | false=>
   refine⟨List.getElem_mem (by omega),?_⟩
   simp only[Bool.or_self,cond_false]
   have h3:F.cmp ((l[c]'(by omega)).time*sc) (t*own)=0:=by simpa using h2
   unfold F.cmp at h3
   by_cases a1:(l[c]'(by omega)).time*sc<t*own
   ·rw[decide_eq_true a1]at h3;simp at h3
   ·rw[decide_eq_false a1]at h3
    by_cases a2:t*own<(l[c]'(by omega)).time*sc
    ·rw[decide_eq_true a2]at h3;simp at h3
    ·omega

def F.grpC (l:List Smp):List Grp×Int:=bif F.chkS l != 0 then ([],F.chkS l) else (F.grpL l,0)

namespace M

noncomputable def enGpc:Env:=envH ty noG lks [oChS,oGps] [] [] []

theorem enGpc_ok:EnvOK Tryz.prog enGpc:=by
 refine envH_ok lks_ok ty_ok ?_ ?_
 ·simp only[List.forall_mem_cons]
  exact⟨okChS,okGps,by simp⟩
 ·simp

theorem evGpc (l:List Smp):(runF enGpc false Tryz.f139 [.sl (l.map eSmp)]).val =
 Option.bind (unenc encChS [AV.sl (List.map eSmp l)]) fun z=>bif F.chkS z != 0 then some (AV.tup [AV.sl [],(vI (F.chkS z))],[]) else Option.bind
 (unenc encGps [AV.sl (List.map eSmp l)]) fun z=>bif decide (List.length z≤5000) then some (AV.tup [AV.sl (List.map eGrp (F.grpL z)),(vI 0)],[]) else none:=(runFR_val).symm.trans (by kernel_rfl)

def encGpc1 (l:List Smp):List AV:=[.sl (l.map eSmp)]

def encGpc (a:(List Smp)):List AV:=encGpc1 a

theorem encGpc_inj (a a':(List Smp)) (h:encGpc a=encGpc a'):a=a':=by
 simp only[encGpc,encGpc1]at h
 try simp[eSmps_inj]at h
 grind

theorem unGpc (l:List Smp):unenc encGpc ([AV.sl (List.map eSmp l)])=some (l):=unenc_of encGpc_inj (l) rfl

def resGpc1 (l:List Smp):AV×Heap:=(.tup [.sl ((F.grpC l).1.map eGrp),vI (F.grpC l).2],[])

def preGpc1 (l:List Smp):Bool:=true

noncomputable def oGpc:Orc:=orc 139 false encGpc (fun a=>preGpc1 a) fun a=>resGpc1 a

theorem okGpc:OrcOK Tryz.prog noG oGpc:=by
 refine mk_ok Tryz.f139 (keep:=false) (by kernel_rfl) (by kernel_rfl) enGpc_ok mixed (no_loops (by kernel_rfl)) (by first | exact fun _ _=>⟨rfl,rfl⟩ | (intro h;cases h)) ?_
 rintro l hpre hok
 show(runF enGpc false _ (encGpc1 _)).val=some (resGpc1 _)
 unfold encGpc1 resGpc1
 rw[evGpc]
 unfold F.grpC
 simp only[unChS,unGps,Option.bind_some]
 by_cases h:F.chkS l=0
 ·rw[bne0 h]
  simp only[cond_false,decide_eq_true (F.chkS_len h),cond_true]
 ·rw[bne1 h];rfl

noncomputable def enCmw:Env:=envH ty noG lks [oTim,oCmp] [] [] []

theorem enCmw_ok:EnvOK Tryz.prog enCmw:=by
 refine envH_ok lks_ok ty_ok ?_ ?_
 ·simp only[List.forall_mem_cons]
  exact⟨okTim,okCmp,by simp⟩
 ·simp

theorem evCmw (a:Int) (b:Int) (c:Int) (d:Int):(runF enCmw false Tryz.f140 [vI a,vI b,vI c,vI d]).val =
 Option.bind (unenc encTim [(vI a),(vI d)]) fun z=>bif F.i64B z.1&&F.i64B z.2 then Option.bind (unenc encTim [(vI c),(vI b)]) fun(z_1:Int×Int)
 =>bif F.i64B z_1.1&&F.i64B z_1.2 then Option.bind (unenc encCmp [AV.agg [(vI (F.whi (z.1*z.2))),AV.v (Value.int IntKind.u64 (F.wlo (z.1*z.2)))],AV.agg
 [(vI (F.whi (z_1.1*z_1.2))),AV.v (Value.int IntKind.u64 (F.wlo (z_1.1*z_1.2)))]]) fun z=>some ((vI (F.cmp z.1 z.2)),[]) else none else
 none:=(runFR_val).symm.trans (by kernel_rfl)

def encCmw1 (a:Int) (b:Int) (c:Int) (d:Int):List AV:=[vI a,vI b,vI c,vI d]

def encCmw (a:Int×Int×Int×Int):List AV:=encCmw1 a.1 a.2.1 a.2.2.1 a.2.2.2

theorem encCmw_inj (a a':Int×Int×Int×Int) (h:encCmw a=encCmw a'):a=a':=by
 simp only[encCmw,encCmw1]at h
 try simp[]at h
 grind

theorem unCmw (a:Int) (b:Int) (c:Int) (d:Int):unenc encCmw ([(vI a),(vI b),(vI c),(vI d)])=some (a,b,c,d):=unenc_of encCmw_inj (a,b,c,d) rfl

def resCmw1 (a:Int) (b:Int) (c:Int) (d:Int):AV×Heap:=(vI (F.cmp (a*d) (c*b)),[])

def preCmw1 (a:Int) (b:Int) (c:Int) (d:Int):Bool:=F.i64B a&&(F.i64B b&&(F.i64B c&&F.i64B d))

noncomputable def oCmw:Orc:=orc 140 true encCmw (fun a=>preCmw1 a.1 a.2.1 a.2.2.1 a.2.2.2) fun a=>resCmw1 a.1 a.2.1 a.2.2.1 a.2.2.2

theorem okCmw:OrcOK Tryz.prog noG oCmw:=by
 refine mk_ok Tryz.f140 (keep:=false) (by kernel_rfl) (by kernel_rfl) enCmw_ok mixed (no_loops (by kernel_rfl)) (by first | exact fun _ _=>⟨rfl,rfl⟩ | (intro h;cases h)) ?_
 rintro⟨a,b,c,d⟩ hpre hok
 show(runF enCmw false _ (encCmw1 _ _ _ _)).val=some (resCmw1 _ _ _ _)
 unfold encCmw1 resCmw1
 rw[evCmw]
 simp only[preCmw1,Bool.and_eq_true]at hpre
 obtain⟨h1,h2,h3,h4⟩:=hpre
 simp only[unTim,unCmp,Option.bind_some,cond_true,h1,h2,h3,h4,Bool.and_self]
 try rfl

theorem cmp_lt (x y:Int):decide (F.cmp x y<(0:Int))=decide (x<y):=by
 unfold F.cmp
 by_cases h1:x<y
 ·rw[decide_eq_true h1];rfl
 ·rw[decide_eq_false h1]
  cases decide (y<x)<;>rfl

theorem mid_at {lo hi:Nat} (h:hi≤5000) (hl:lo≤hi):IntKind.i64.wrap (Int.tdiv (IntKind.i64.wrap ((lo:Int)+(hi:Int))) 2)=(((lo+hi) / 2:Nat):Int):=by
 rw[wrap_id (n:=(lo:Int)+(hi:Int)) (by omega) (by omega)]
 have e:Int.tdiv ((lo:Int)+(hi:Int)) 2=(((lo+hi) / 2:Nat):Int):=rfl
 rw[e,wrap_id (by omega) (by omega)]

theorem plB_ok {l:List Plc} (h:F.plB l=true):l.Pairwise (fun a b=>a.time<b.time∧a.sample<b.sample)∧(∀p∈l,F.i64B p.time=true)∧l.length≤5000:=by
 unfold F.plB at h
 simp only[Bool.and_eq_true,decide_eq_true_eq,List.all_eq_true]at h
 exact⟨h.1.1,h.1.2,h.2⟩

def stFnd (l:List Plc) (own t sc:Int) (lo hi:Nat):St:=⟨[(11,vI hi),(10,vI lo),(8, .ptr 8 0 0),(3,vI sc),(2,vI t),(1,vI own),(0, .sl (l.map ePlc))],[(8,⟨true,0,0,[[vI 0,vI 0]]⟩)]⟩

def stFnd1 (a:(List Plc)×Int×Int×Int×Nat×Nat):St:=stFnd a.1 a.2.1 a.2.2.1 a.2.2.2.1 a.2.2.2.2.1 a.2.2.2.2.2

theorem stFnd_inj (a a':(List Plc)×Int×Int×Int×Nat×Nat) (h:stFnd1 a=stFnd1 a'):a=a':=by
 simp only[stFnd1,stFnd]at h
 try simp[ePlcs_inj]at h
 grind

theorem unstFnd0 (l:List Plc) (own:Int) (t:Int) (sc:Int) (hi:Nat)  : unenc stFnd1 (St.mk [(11,(vI (↑hi:Int))),(10,(vI (0:Int))),(8, .ptr 8 0 0),(3,(vI sc)),(2,(vI t)),(1,(vI own)),(0,AV.sl (List.map ePlc l))] [(8,Blk.mk true 0 0 [[(vI (0
 : Int)),(vI (0:Int))]])])=some (l,own,t,sc,0,hi):=unenc_of stFnd_inj (l,own,t,sc,0,hi) rfl

def outFnd (l:List Plc) (own t sc:Int) (lo hi:Nat):T (Ex×St):= .ret (.exit 0,⟨[(10,vI (F.cntP sc (t*own) l:Nat)),(8, .ptr 8 0 0),(3,vI sc),(2,vI t),(1,vI own),(0, .sl (l.map ePlc))],[(8,⟨true,0,0,[[vI 0,vI 0]]⟩)]⟩)

noncomputable def prlFnd (l:List Plc) (own t sc:Int) (lo hi:Nat):Bool:=F.plB l&&(F.i64B own&&(F.i64B t&&(decide (1≤sc)&&(F.i64B sc&&(decide (lo≤F.cntP sc (t*own) l)&&(decide (F.cntP sc (t*own) l≤hi)&&decide (hi≤l.length)))))))

noncomputable def lpFnd:Nat×(St→T (Ex×St)):=(2,lpo [11,10,8,3,2,1,0] [8] stFnd1 (fun a=>prlFnd a.1 a.2.1 a.2.2.1 a.2.2.2.1 a.2.2.2.2.1 a.2.2.2.2.2) fun a=>outFnd a.1 a.2.1 a.2.2.1 a.2.2.2.1 a.2.2.2.2.1 a.2.2.2.2.2)

noncomputable def enFnd:Env:=envH ty noG lks [oCmw] [] [] [lpFnd]

theorem enFnd_ok:EnvOK Tryz.prog enFnd:=by
 refine envH_ok lks_ok ty_ok ?_ ?_
 ·simp only[List.forall_mem_cons]
  exact⟨okCmw,by simp⟩
 ·simp

theorem evFndL (l:List Plc) (own t sc:Int) (lo hi:Nat):((exec enFnd (loopN Tryz.f96 0) (stFnd l own t sc lo hi)).bind (lessX ([11,10,8,3,2,1,0],[8]) ([10,8,3,2,1,0],[8]) ([],[]))).val =
 bif decide ((↑lo:Int)<(↑hi:Int)) then Option.bind (idx (IntKind.i64.wrap (Int.tdiv (IntKind.i64.wrap ((↑lo:Int)+(↑hi:Int))) (2:Int)))) fun(z
 : Nat)=>Option.bind (unenc (List.map ePlc) (List.map ePlc l)) fun z_1=>bif decide (z<List.length z_1) then Option.bind (unenc encCmw [(vI (List.getD z_1
 z (Plc.mk (0:Int) (0:Int))).time),(vI own),(vI t),(vI sc)]) fun z=>bif F.i64B z.1&&(F.i64B z.2.1&&(F.i64B z.2.2.1 &&
 F.i64B z.2.2.2)) then bif decide (F.cmp (z.1*z.2.2.2) (z.2.2.1*z.2.1)<0) then some (Ex.normal,St.mk [(11,(vI (↑hi:Int))),(10,
 (vI (IntKind.i64.wrap (IntKind.i64.wrap (Int.tdiv (IntKind.i64.wrap ((↑lo:Int)+(↑hi:Int))) (2:Int))+1)))),(8, .ptr 8 0 0),(3,
 (vI sc)),(2,(vI t)),(1,(vI own)),(0,AV.sl (List.map ePlc l))] [(8,Blk.mk true 0 0 [[(vI 0),(vI 0)]])]) else some (Ex.normal,St.mk [(11,(vI
 (IntKind.i64.wrap (Int.tdiv (IntKind.i64.wrap ((↑lo:Int)+(↑hi:Int))) (2:Int))))),(10,(vI (↑lo:Int))),(8, .ptr 8 0 0),(3,(vI sc)),(2,(vI
 t)),(1,(vI own)),(0,AV.sl (List.map ePlc l))] [(8,Blk.mk true 0 0 [[(vI 0),(vI 0)]])]) else none else none else some (Ex.exit (0:Nat),St.mk [(10,
 (vI (↑lo:Int))),(8, .ptr 8 0 0),(3,(vI sc)),(2,(vI t)),(1,(vI own)),(0,AV.sl (List.map ePlc l))] [(8,Blk.mk true 0 0 [[(vI 0),(vI 0)]])]):=(execR_bind _ _ _).symm.trans (by kernel_rfl)

theorem lpFnd_ok (l:List Plc) (own t sc:Int) (lo hi:Nat) (hp:prlFnd l own t sc lo hi=true) : ∀ex s',(outFnd l own t sc lo hi).val=some (ex,s')→LoopOK enFnd (loopN Tryz.f96 0) (stFnd l own t sc lo hi) ex s':=by
 simp only[prlFnd,Bool.and_eq_true,decide_eq_true_eq]at hp
 obtain⟨h1,h2,h3,h4,h5,h6,h7,h8⟩:=hp
 obtain⟨g1,g2,g3⟩:=plB_ok h1
 refine loop_gen (st:=fun a:Nat×Nat=>stFnd l own t sc a.1 a.2) (out:=fun a=>outFnd l own t sc a.1 a.2) (I:=fun a=>a.1≤F.cntP sc (t*own) l∧F.cntP sc (t*own) l≤a.2∧a.2≤l.length) (n:=([11,10,8,3,2,1,0],[8])) (e:=([10,8,3,2,1,0],[8])) (r:=([],[])) (fun a=>a.2 - a.1) ?_ (lo,hi) ⟨h6,h7,h8⟩
 clear h6 h7 h8 lo hi
 rintro⟨lo,hi⟩ ⟨h6,h7,h8⟩
 simp only at h6 h7 h8
 by_cases hlt:lo<hi
 ·right
  have hm:(lo+hi) / 2<l.length:=by omega
  have hy:l[(lo+hi) / 2]? = some l[(lo+hi) / 2]:=List.getElem?_eq_getElem hm
  have hat:=F.cntP_at (v:=t*own) h4 g1 hy
  have hb:=g2 _ (List.mem_of_getElem? hy)
  have hmid:=mid_at (lo:=lo) (hi:=hi) (by omega) (by omega)
  have hi1:idx (((lo+hi) / 2:Nat):Int)=some ((lo+hi) / 2):=rfl
  have hN:=next_at hm (by omega:l.length≤9223372036854775807)
  generalize l[(lo+hi) / 2]=y at hy hat hb
  by_cases hc:y.time*sc<t*own
  ·refine⟨((lo+hi) / 2+1,hi),?_,rfl,⟨hat.1 hc,h7,h8⟩,by simp only;omega,rfl⟩
   rw[evFndL]
   simp only[unCmw,Option.bind_some,unPlcs,cond_true,Bool.and_true,cast_lt hlt,hmid,hi1,decide_eq_true hm,getD_at hy,hb,h2,h3,h5,Bool.and_self,cmp_lt,decide_eq_true hc,hN]
   try rfl
  ·refine⟨(lo,(lo+hi) / 2),?_,rfl,⟨h6,Nat.le_of_not_lt fun h=>hc (hat.2 h),by omega⟩,by simp only;omega,rfl⟩
   rw[evFndL]
   simp only[unCmw,Option.bind_some,unPlcs,cond_true,cond_false,Bool.and_true,cast_lt hlt,hmid,hi1,decide_eq_true hm,getD_at hy,hb,h2,h3,h5,Bool.and_self,cmp_lt,decide_eq_false hc]
   try rfl
 ·left
  have e:F.cntP sc (t*own) l=lo:=by omega
  refine⟨_,?_,rfl,by simp,rfl⟩
  rw[evFndL]
  rw[decide_eq_false (show ¬((lo:Int)<(hi:Int)) by omega)]
  simp only[cond_false,e]
  try rfl

theorem evFnd (l:List Plc) (own:Int) (t:Int) (sc:Int):(runF enFnd false Tryz.f96 [.sl (l.map ePlc),vI own,vI t,vI sc]).val =
 (fun(q:List AV)=>(fun(q_1:Option (AV×Heap))=>Option.bind (unenc stFnd1 (St.mk [(11,(vI (↑(List.length (List.map ePlc l)):Int))),(10,(vI 0)),(8,
 .ptr 8 0 0),(3,(vI sc)),(2,(vI t)),(1,(vI own)),(0,AV.sl (List.map ePlc l))] [(8,Blk.mk true 0 0 [q])])) fun z=>(fun
 (q:Nat)=>bif F.plB z.1&&(F.i64B z.2.1&&(F.i64B z.2.2.1&&(decide ((1:Int)≤z.2.2.2.1)&&(F.i64B z.2.2.2.1&&(decide
 (z.2.2.2.2.1≤q)&&(decide (q≤z.2.2.2.2.2)&&decide (z.2.2.2.2.2≤List.length z.1)))))))&&true then bif !(↑q:Int) ==
 (↑(List.length (List.map ePlc z.1)):Int) then Option.bind (unenc (List.map ePlc) (List.map ePlc z.1)) fun z_1=>bif decide (q<List.length z_1) then
 Option.bind (unenc encCmw [(vI (List.getD z_1 q (Plc.mk (0:Int) (0:Int))).time),(vI z.2.1),(vI z.2.2.1),(vI z.2.2.2.1)]) fun z_2=>bif F.i64B z_2.1&&(F.i64B z_2.2.1&&(F.i64B z_2.2.2.1&&F.i64B z_2.2.2.2)) then bif F.cmp (z_2.1*z_2.2.2.2) (z_2.2.2.1
 * z_2.2.1) != 0 then q_1 else Option.bind (unenc (List.map ePlc) (List.map ePlc z.1)) fun z=>bif decide (q<List.length z) then some (AV.tup
 [AV.agg [(vI (List.getD z q (Plc.mk (0:Int) (0:Int))).time),(vI (List.getD z q (Plc.mk (0:Int) (0:Int))).sample)],(vB true)],[]) else none else none else none
 else q_1 else none) (F.cntP z.2.2.2.1 (z.2.2.1*z.2.1) z.1)) (some (AV.tup [AV.agg q,(vB false)],[]))) [(vI 0),(vI 0)]:=(runFR_val).symm.trans (by kernel_rfl)

def encFnd1 (l:List Plc) (own:Int) (t:Int) (sc:Int):List AV:=[.sl (l.map ePlc),vI own,vI t,vI sc]

def encFnd (a:(List Plc)×Int×Int×Int):List AV:=encFnd1 a.1 a.2.1 a.2.2.1 a.2.2.2

theorem encFnd_inj (a a':(List Plc)×Int×Int×Int) (h:encFnd a=encFnd a'):a=a':=by
 simp only[encFnd,encFnd1]at h
 try simp[ePlcs_inj]at h
 grind

theorem unFnd (l:List Plc) (own:Int) (t:Int) (sc:Int):unenc encFnd ([AV.sl (List.map ePlc l),(vI own),(vI t),(vI sc)])=some (l,own,t,sc):=unenc_of encFnd_inj (l,own,t,sc) rfl

def resFnd1 (l:List Plc) (own:Int) (t:Int) (sc:Int):AV×Heap:=(.tup [.agg (ePlc (F.fnd l own t sc).1),vB (F.fnd l own t sc).2],[])

def preFnd1 (l:List Plc) (own:Int) (t:Int) (sc:Int):Bool:=F.plB l&&(F.i64B own&&(F.i64B t&&(decide (1≤sc)&&F.i64B sc)))

noncomputable def oFnd:Orc:=orc 96 true encFnd (fun a=>preFnd1 a.1 a.2.1 a.2.2.1 a.2.2.2) fun a=>resFnd1 a.1 a.2.1 a.2.2.1 a.2.2.2

theorem okFnd:OrcOK Tryz.prog noG oFnd:=by
 refine mk_ok Tryz.f96 (keep:=false) (by kernel_rfl) (by kernel_rfl) enFnd_ok mixed (one_loop (x0:=loopN Tryz.f96 0) (by kernel_rfl) (lpo_ok ?_)) (by first | exact fun _ _=>⟨rfl,rfl⟩ | (intro h;cases h)) ?_
 ·rintro⟨l,own,t,sc,lo,hi⟩ hp
  exact lpFnd_ok l own t sc lo hi hp
 rintro⟨l,own,t,sc⟩ hpre hok
 show(runF enFnd false _ (encFnd1 _ _ _ _)).val=some (resFnd1 _ _ _ _)
 unfold encFnd1 resFnd1
 rw[evFnd]
 simp only[preFnd1,Bool.and_eq_true,decide_eq_true_eq]at hpre
 obtain⟨h1,h2,h3,h4,h5⟩:=hpre
 obtain⟨g1,g2,g3⟩:=plB_ok h1
 have hc:=F.cntP_le sc (t*own) l
 have z:unenc stFnd1 (St.mk [(11,(vI (l.length:Int))),(10,(vI 0)),(8, .ptr 8 0 0),(3,(vI sc)),(2,(vI t)),(1,(vI own)),(0,AV.sl (List.map ePlc l))] [(8,Blk.mk true 0 0 [[vI 0,vI 0]])])=some (l,own,t,sc,0,l.length):=unstFnd0 l own t sc l.length
 simp only[List.length_map]
 rw[z]
 simp only[unCmw,Option.bind_some,unPlcs,cond_true,Bool.and_true,h1,h2,h3,decide_eq_true h4,h5,decide_eq_true hc,Nat.zero_le,Nat.le_refl,decide_true,Bool.and_self]
 unfold F.fnd
 generalize F.cntP sc (t*own) l=c at *
 by_cases hcl:c=l.length
 ·subst hcl
  rw[decide_eq_true rfl,show(!((l.length:Int)==(l.length:Int)))=false by simp]
  rfl
 ·have e1:(!((c:Int)==(l.length:Int)))=true:=by
   rw[Bool.not_eq_true',beq_eq_false_iff_ne];omega
  have hlt:c<l.length:=by omega
  have hy:l[c]? = some l[c]:=List.getElem?_eq_getElem hlt
  have hb:=g2 _ (List.mem_of_getElem? hy)
  generalize l[c]=y at hy hb
  rw[decide_eq_false hcl,e1]
  simp only[cond_true,decide_eq_true hlt,getD_at hy,hb,Bool.false_or]
  cases(F.cmp (y.time*sc) (t*own) != 0)<;>rfl

end M

def F.grpP (g:Grp):Plc:=⟨g.begin,g.fr⟩

def F.plcG (gs:List Grp):List Plc:=(gs.filter (·.closed)).map F.grpP

def F.strdF (r:Std) (l:List Std):Int:=
 bif !F.isName r.name then 5 else bif l.any (fun o=>F.seq o.name r.name) then 7 else bif F.noScale r.scale then 1 else
 bif F.chkS r.samples != 0 then F.chkS r.samples else bif decide (r.samples.length=0) then 9 else 0

def F.stdsF (l:List Std):Int:=M.ffI (fun p:Std×Nat=>F.strdF p.1 (l.take p.2)) l.zipIdx

def F.chkR4 (l:List Std):Int:=bif decide (l.length=0) then 9 else bif F.lt 12 l.length then 2 else bif F.stdsF l != 0 then F.stdsF l else bif (l.getD 0 ⟨⟨#[]⟩,0,false,[]⟩).sound then 4 else 0

def F.pics (l:List Std):Nat:=l.countP fun r=> !r.sound

def F.scrB (s:Scr):Bool:=F.out s.width 1 20000||F.out s.height 1 20000

def F.scrF (l:List Std) (s:List Scr):Int:=bif !decide (s.length=F.pics l) then 3 else bif s.any F.scrB then 1 else 0

theorem F.strdF_ok {r:Std} {l:List Std} (h:F.strdF r l=0):F.noScale r.scale=false∧F.chkS r.samples=0∧1≤r.samples.length:=by
 unfold F.strdF at h
 cases h1 : !F.isName r.name with
 | true=>rw[h1]at h;simp at h
 | false=>
  cases h2:l.any (fun o=>F.seq o.name r.name)with
  | true=>rw[h1,h2]at h;simp at h
  | false=>
   cases h3:F.noScale r.scale with
   | true=>rw[h1,h2,h3]at h;simp at h
   | false=>
    rw[h1,h2,h3]at h
    simp only[cond_false]at h
    by_cases h4:F.chkS r.samples=0
    ·rw[M.bne0 h4]at h
     simp only[cond_false]at h
     by_cases h5:r.samples.length=0
     ·rw[decide_eq_true h5]at h;simp at h
     ·exact⟨rfl,h4,by omega⟩
    ·rw[M.bne1 h4]at h;exact absurd h h4

theorem F.chkR4_ok {l:List Std} (h:F.chkR4 l=0):(1≤l.length∧l.length≤12) ∧ ∀r∈l,F.noScale r.scale=false∧F.chkS r.samples=0∧1≤r.samples.length:=by
 unfold F.chkR4 F.lt at h
 by_cases h1:l.length=0
 ·rw[decide_eq_true h1]at h;simp at h
 ·rw[decide_eq_false h1]at h
  simp only[cond_false]at h
  by_cases h2:(12:Int)<l.length
  ·rw[decide_eq_true h2]at h;simp at h
  ·rw[decide_eq_false h2]at h
   simp only[cond_false]at h
   by_cases h3:F.stdsF l=0
   ·refine⟨⟨by omega,by omega⟩,fun r hr=>?_⟩
    obtain⟨k,hk,rfl⟩:=List.mem_iff_getElem.1 hr
    have hm:(l[k],k)∈l.zipIdx:=List.mem_zipIdx_iff_getElem?.2 (List.getElem?_eq_getElem hk)
    exact F.strdF_ok (F.ffI_all h3 _ hm)
   ·rw[M.bne1 h3]at h;exact absurd h h3

namespace M

def stPlf (gs:List Grp) (acc:List Plc) (k:Nat):St:=⟨[(16,vI k),(15,vI gs.length),(14, .sl (gs.map eGrp)),(3, .own 3)],[(3,⟨false,149,2,acc.map ePlc⟩)]⟩

def stPlf1 (a:(List Grp)×(List Plc)×Nat):St:=stPlf a.1 a.2.1 a.2.2

theorem stPlf_inj (a a':(List Grp)×(List Plc)×Nat) (h:stPlf1 a=stPlf1 a'):a=a':=by
 simp only[stPlf1,stPlf]at h
 try simp[eGrps_inj,ePlcs_inj]at h
 grind

theorem unstPlf0 (gs:List Grp)  : unenc stPlf1 (St.mk [(16,(vI (0:Int))),(15,(vI (↑(List.length gs):Int))),(14,AV.sl (List.map eGrp gs)),(3, .own 3)] [(3,Blk.mk false 149 2 [])])=some (gs,[],0):=unenc_of stPlf_inj (gs,[],0) rfl

def outPlf (gs:List Grp) (acc:List Plc) (k:Nat):T (Ex×St):= .ret (.exit 0,⟨[(3, .own 3)],[(3,⟨false,149,2,(acc++F.plcG (gs.drop k)).map ePlc⟩)]⟩)

noncomputable def prlPlf (gs:List Grp) (acc:List Plc) (k:Nat):Bool:=decide (gs.length≤5000)&&(decide (k≤gs.length)&&decide (acc.length≤k))

noncomputable def lpPlf:Nat×(St→T (Ex×St)):=(4,lpo [16,15,14,3] [3] stPlf1 (fun a=>prlPlf a.1 a.2.1 a.2.2) fun a=>outPlf a.1 a.2.1 a.2.2)

noncomputable def enPlf:Env:=envH ty noG lks [oGpc] [] [] [lpPlf]

theorem enPlf_ok:EnvOK Tryz.prog enPlf:=by
 refine envH_ok lks_ok ty_ok ?_ ?_
 ·simp only[List.forall_mem_cons]
  exact⟨okGpc,by simp⟩
 ·simp

theorem evPlfL (gs:List Grp) (acc:List Plc) (k:Nat):((exec enPlf (loopN Tryz.f95 0) (stPlf gs acc k)).bind (lessX ([16,15,14,3],[3]) ([3],[3]) ([],[]))).val =
 bif decide ((↑k:Int)<(↑(List.length gs):Int)) then Option.bind (unenc (List.map eGrp) (List.map eGrp gs)) fun z=>bif decide (k<List.length z) then
 bif (List.getD z k (Grp.mk (0:Int) (0:Int) false false (0:Int) (0:Int))).closed then bif Nat.ble ((List.length (List.map ePlc acc)+1)*16)
 (140737488355328:Nat)&&true then some (Ex.normal,St.mk [(16,(vI (IntKind.i64.wrap ((↑k:Int)+1)))),(15,(vI (↑(List.length gs):Int))),(14,
 AV.sl (List.map eGrp gs)),(3, .own 3)] [(3,Blk.mk false 149 2 (List.map ePlc acc++[[(vI (List.getD z k (Grp.mk (0:Int) (0:Int) false false (0:Int) (0 :
 Int))).begin),(vI (List.getD z k (Grp.mk (0:Int) (0:Int) false false (0:Int) (0:Int))).fr)]]))]) else none else some (Ex.normal,St.mk [(16,(vI (IntKind.wrap
 IntKind.i64 ((↑k:Int)+1)))),(15,(vI (↑(List.length gs):Int))),(14,AV.sl (List.map eGrp gs)),(3, .own 3)] [(3,Blk.mk false 149 2 (List.map ePlc acc))])
 else none else some (Ex.exit (0:Nat),St.mk [(3, .own 3)] [(3,Blk.mk false 149 2 (List.map ePlc acc))]):=(execR_bind _ _ _).symm.trans (by kernel_rfl)

theorem lpPlf_ok (gs:List Grp) (acc:List Plc) (k:Nat) (hp:prlPlf gs acc k=true) : ∀ex s',(outPlf gs acc k).val=some (ex,s')→LoopOK enPlf (loopN Tryz.f95 0) (stPlf gs acc k) ex s':=by
 simp only[prlPlf,Bool.and_eq_true,decide_eq_true_eq]at hp
 obtain⟨h1,h2,h3⟩:=hp
 refine loop_gen (st:=fun a:List Plc×Nat=>stPlf gs a.1 a.2) (out:=fun a=>outPlf gs a.1 a.2) (I:=fun a=>a.2≤gs.length∧a.1.length≤a.2) (n:=([16,15,14,3],[3])) (e:=([3],[3])) (r:=([],[])) (fun a=>gs.length - a.2) ?_ (acc,k) ⟨h2,h3⟩
 clear h2 h3 acc k
 rintro⟨acc,k⟩ ⟨h2,h3⟩
 simp only at h2 h3
 by_cases hlt:k<gs.length
 ·right
  have hy:gs[k]? = some gs[k]:=List.getElem?_eq_getElem hlt
  have hd:=drop_at hy
  generalize gs[k]=y at hy hd
  have hb:Nat.ble ((acc.length+1)*16) 140737488355328=true:=ble_t (by omega)
  have hN:=next_at hlt (by omega:gs.length≤9223372036854775807)
  have ea:acc.map ePlc++[[vI y.begin,vI y.fr]]=(acc++[F.grpP y]).map ePlc:=by simp[ePlc,F.grpP]
  cases hc:y.closed
  ·refine⟨(acc,k+1),?_,rfl,⟨hlt,by simp only;omega⟩,by simp only;omega,?_⟩
   ·rw[evPlfL]
    simp only[Option.bind_some,List.length_map,unGrps,cond_true,cond_false,Bool.and_true,cast_lt hlt,decide_eq_true hlt,hN,getD_at hy,hc]
    try rfl
   ·simp only[outPlf,hd,F.plcG,List.filter_cons,hc,Bool.false_eq_true,if_false]
  ·refine⟨(acc++[F.grpP y],k+1),?_,rfl,⟨hlt,by simp;omega⟩,by simp only;omega,?_⟩
   ·rw[evPlfL]
    simp only[Option.bind_some,List.length_map,unGrps,cond_true,Bool.and_true,cast_lt hlt,decide_eq_true hlt,hN,getD_at hy,hc,hb,ea]
    try rfl
   ·simp only[outPlf,hd,F.plcG,List.filter_cons,hc,if_true,List.map_cons,List.append_assoc,List.singleton_append]
 ·left
  have hk:k=gs.length:=by omega
  subst hk
  refine⟨_,?_,rfl,by simp,rfl⟩
  rw[evPlfL]
  simp only[Option.bind_some,List.length_map,unGrps,cond_false,Bool.and_true,cast_ge,List.drop_length]
  simp[F.plcG]

theorem evPlf (r:Std):(runF enPlf false Tryz.f95 [.agg (eStd r)]).val =
 Option.bind (unenc encGpc [AV.sl (List.map eSmp r.samples)]) fun z=>Option.bind (unenc stPlf1 (St.mk [(16,(vI 0)),(15,(vI (↑(List.length
 (List.map eGrp (F.grpC z).fst)):Int))),(14,AV.sl (List.map eGrp (F.grpC z).fst)),(3, .own 3)] [(3,Blk.mk false 149 2 [])])) fun z=>
 bif decide (List.length z.1≤5000)&&(decide (z.2.2≤List.length z.1)&&decide (List.length z.2.1≤z.2.2))&&true then some (AV.sl (List.map
 ePlc (z.2.1++F.plcG (List.drop z.2.2 z.1))),[]) else none:=(runFR_val).symm.trans (by kernel_rfl)

def encPlf1 (r:Std):List AV:=[.agg (eStd r)]

def encPlf (a:Std):List AV:=encPlf1 a

theorem encPlf_inj (a a':Std) (h:encPlf a=encPlf a'):a=a':=by
 simp only[encPlf,encPlf1]at h
 try simp[eStd_iff]at h
 grind

theorem unPlf (r:Std):unenc encPlf ([AV.agg [(vS r.name),(vI r.scale),(vB r.sound),AV.sl (List.map eSmp r.samples)]])=some (r):=unenc_of encPlf_inj (r) rfl

theorem unPlfw (r_name:ByteArray) (r_scale:Int) (r_sound:Bool) (r_samples:List Smp):unenc encPlf ([AV.agg [(vS r_name),(vI r_scale),(vB r_sound),AV.sl (List.map eSmp r_samples)]])=some ((Std.mk r_name r_scale r_sound r_samples)):=unenc_of encPlf_inj ((Std.mk r_name r_scale r_sound r_samples)) rfl

def resPlf1 (r:Std):AV×Heap:=(.sl ((F.plcs r.samples).map ePlc),[])

def prePlf1 (r:Std):Bool:=decide (F.chkS r.samples=0)

noncomputable def oPlf:Orc:=orc 95 false encPlf (fun a=>prePlf1 a) fun a=>resPlf1 a

theorem okPlf:OrcOK Tryz.prog noG oPlf:=by
 refine mk_ok Tryz.f95 (keep:=false) (by kernel_rfl) (by kernel_rfl) enPlf_ok mixed (one_loop (x0:=loopN Tryz.f95 0) (by kernel_rfl) (lpo_ok ?_)) (by first | exact fun _ _=>⟨rfl,rfl⟩ | (intro h;cases h)) ?_
 ·rintro⟨gs,acc,k⟩ hp
  exact lpPlf_ok gs acc k hp
 rintro r hpre hok
 show(runF enPlf false _ (encPlf1 _)).val=some (resPlf1 _)
 unfold encPlf1 resPlf1
 rw[evPlf]
 have h1:F.chkS r.samples=0:=of_decide_eq_true hpre
 have h2:=F.chkS_len h1
 have h3:=F.grpL_len r.samples
 have e:F.grpC r.samples=(F.grpL r.samples,0):=by unfold F.grpC;rw[bne0 h1];rfl
 simp only[unGpc,unstPlf0,Option.bind_some,List.length_map,cond_true,Bool.and_true,e,decide_eq_true (show(F.grpL r.samples).length≤5000 by omega),Nat.zero_le,decide_true,Bool.and_self,List.length_nil,List.drop_zero,List.nil_append]
 rfl

def stSdf (r:Std) (l:List Std) (k:Nat):St:=⟨[(14,vI k),(13,vI l.length),(12, .sl (l.map eStd)),(2, .ptr 2 0 0)],[(2,⟨true,0,0,[eStd r]⟩)]⟩

def stSdf1 (a:Std×(List Std)×Nat):St:=stSdf a.1 a.2.1 a.2.2

theorem stSdf_inj (a a':Std×(List Std)×Nat) (h:stSdf1 a=stSdf1 a'):a=a':=by
 simp only[stSdf1,stSdf]at h
 try simp[eStds_inj,eStd_iff]at h
 grind

theorem unstSdf0 (r:Std) (l:List Std)  : unenc stSdf1 (St.mk [(14,(vI (0:Int))),(13,(vI (↑(List.length l):Int))),(12,AV.sl (List.map eStd l)),(2, .ptr 2 0 0)] [(2,Blk.mk true 0 0 [[(vS r.name),(vI r.scale),(vB
 r.sound),AV.sl (List.map eSmp r.samples)]])])=some (r,l,0):=unenc_of stSdf_inj (r,l,0) rfl

def outSdf (r:Std) (l:List Std) (k:Nat):T (Ex×St):= .ifB ((l.drop k).all fun o=> !F.seq o.name r.name) (.ret (.exit 0,⟨[(2, .ptr 2 0 0)],[(2,⟨true,0,0,[eStd r]⟩)]⟩)) (.ret (.ret,⟨[(4,vI 7)],[]⟩))

noncomputable def prlSdf (r:Std) (l:List Std) (k:Nat):Bool:=decide (l.length≤9223372036854775807)&&decide (k≤l.length)

noncomputable def lpSdf:Nat×(St→T (Ex×St)):=(4,lpo [14,13,12,2] [2] stSdf1 (fun a=>prlSdf a.1 a.2.1 a.2.2) fun a=>outSdf a.1 a.2.1 a.2.2)

noncomputable def enSdf:Env:=envH ty noG lks [oName,oNoS,oChS] [] [] [lpSdf]

theorem enSdf_ok:EnvOK Tryz.prog enSdf:=by
 refine envH_ok lks_ok ty_ok ?_ ?_
 ·simp only[List.forall_mem_cons]
  exact⟨okName,okNoS,okChS,by simp⟩
 ·simp

theorem evSdfL (r:Std) (l:List Std) (k:Nat):((exec enSdf (loopN Tryz.f48 0) (stSdf r l k)).bind (lessX ([14,13,12,2],[2]) ([2],[2]) ([4],[]))).val =
 bif decide ((↑k:Int)<(↑(List.length l):Int)) then Option.bind (unenc (List.map eStd) (List.map eStd l)) fun z=>bif decide (k<List.length z) then bif
 ByteArray.toList (List.getD z k (Std.mk (ByteArray.mk (Array.mk [])) (0:Int) false [])).name==ByteArray.toList r.name then some (Ex.ret,St.mk [(4,(vI 7))]
 []) else some (Ex.normal,St.mk [(14,(vI (IntKind.i64.wrap ((↑k:Int)+1)))),(13,(vI (↑(List.length l):Int))),(12,AV.sl (List.map eStd l)),(2,
 .ptr 2 0 0)] [(2,Blk.mk true 0 0 [[(vS r.name),(vI r.scale),(vB r.sound),AV.sl (List.map eSmp r.samples)]])]) else none else some (Ex.exit (0:Nat),St.mk [(2, .ptr 2
 0 0)] [(2,Blk.mk true 0 0 [[(vS r.name),(vI r.scale),(vB r.sound),AV.sl (List.map eSmp r.samples)]])]):=(execR_bind _ _ _).symm.trans (by kernel_rfl)

theorem lpSdf_ok (r:Std) (l:List Std) (k:Nat) (hp:prlSdf r l k=true) : ∀ex s',(outSdf r l k).val=some (ex,s')→LoopOK enSdf (loopN Tryz.f48 0) (stSdf r l k) ex s':=by
 simp only[prlSdf,Bool.and_eq_true,decide_eq_true_eq]at hp
 refine loop_all (xs:=l) (st:=stSdf r l) (p:=fun o=> !F.seq o.name r.name) (n:=([14,13,12,2],[2])) (e:=([2],[2])) (r:=([4],[])) ?_ ⟨by simp,rfl⟩ ⟨by simp,rfl⟩ (fun _=>rfl) ?_ k hp.2
 ·rw[evSdfL];simp[eStd]
 ·intro k y hy
  have hlt:=lt_at hy
  rw[evSdfL]
  simp only[Option.bind_some,unStds,cond_true,cast_lt hlt,decide_eq_true hlt,next_at hlt hp.1,getD_at hy,stSdf,eStd,F.seq]
  cases(y.name.toList==r.name.toList)<;>rfl

theorem evSdf (r:Std) (l:List Std):(runF enSdf false Tryz.f48 [.agg (eStd r), .sl (l.map eStd)]).val =
 Option.bind (unenc encName [(vS r.name)]) fun z=>bif !F.isName z then some ((vI 5),[]) else Option.bind (unenc stSdf1 (St.mk [(14,(vI 0)),(13,(vI (↑(List.length (List.map eStd l)):Int))),(12,AV.sl (List.map eStd l)),(2, .ptr 2 0 0)] [(2,Blk.mk true 0 0 [[(vS r.name),(vI r.scale),(vB
 r.sound),AV.sl (List.map eSmp r.samples)]])])) fun z=>bif decide (List.length z.2.1≤9223372036854775807)&&decide (z.2.2 ≤
 List.length z.2.1)&&true then bif List.all (List.drop z.2.2 z.2.1) fun(o:Std)=> !F.seq o.name z.1.name then Option.bind (unenc encNoS [(vI
 z.1.scale)]) fun z_1=>bif F.noScale z_1 then some ((vI 1),[]) else Option.bind (unenc encChS [AV.sl (List.map eSmp z.1.samples)]) fun z_2=>bif F.chkS z_2 != 0 then some ((vI (F.chkS z_2)),[]) else bif (↑(List.length (List.map eSmp z.1.samples)):Int)==0 then some ((vI 9),
 []) else some ((vI 0),[]) else some ((vI 7),[]) else none:=(runFR_val).symm.trans (by kernel_rfl)

def encSdf1 (r:Std) (l:List Std):List AV:=[.agg (eStd r), .sl (l.map eStd)]

def encSdf (a:Std×(List Std)):List AV:=encSdf1 a.1 a.2

theorem encSdf_inj (a a':Std×(List Std)) (h:encSdf a=encSdf a'):a=a':=by
 simp only[encSdf,encSdf1]at h
 try simp[eStds_inj,eStd_iff]at h
 grind

theorem unSdfw (r_name:ByteArray) (r_scale:Int) (r_sound:Bool) (r_samples:List Smp) (l:List Std):unenc encSdf ([AV.agg [(vS r_name),(vI r_scale),(vB r_sound),AV.sl (List.map eSmp r_samples)],AV.sl (List.map eStd l)])=some ((Std.mk r_name r_scale r_sound r_samples),l):=unenc_of encSdf_inj ((Std.mk r_name r_scale r_sound r_samples),l) rfl

def resSdf1 (r:Std) (l:List Std):AV×Heap:=(vI (F.strdF r l),[])

def preSdf1 (r:Std) (l:List Std):Bool:=true

noncomputable def oSdf:Orc:=orc 48 true encSdf (fun a=>preSdf1 a.1 a.2) fun a=>resSdf1 a.1 a.2

theorem okSdf:OrcOK Tryz.prog noG oSdf:=by
 refine mk_ok Tryz.f48 (keep:=false) (by kernel_rfl) (by kernel_rfl) enSdf_ok mixed (one_loop (x0:=loopN Tryz.f48 0) (by kernel_rfl) (lpo_ok ?_)) (by first | exact fun _ _=>⟨rfl,rfl⟩ | (intro h;cases h)) ?_
 ·rintro⟨r,l,k⟩ hp
  exact lpSdf_ok r l k hp
 rintro⟨r,l⟩ hpre hok
 show(runF enSdf false _ (encSdf1 _ _)).val=some (resSdf1 _ _)
 unfold encSdf1 resSdf1
 rw[evSdf]
 have hx:l.length≤9223372036854775807:=by simpa using(okA_sl (hok _ (List.mem_cons_of_mem _ (List.mem_cons_self ..)))).1
 have z:unenc stSdf1 (St.mk [(14,(vI 0)),(13,(vI (l.length:Int))),(12,AV.sl (List.map eStd l)),(2, .ptr 2 0 0)] [(2,Blk.mk true 0 0 [eStd r])])=some (r,l,0):=unstSdf0 r l
 have hall:(l.all fun o=> !F.seq o.name r.name) = !(l.any fun o=>F.seq o.name r.name):=by
  rw[List.any_eq_not_all_not,Bool.not_not]
 simp only[eStd,List.length_map]at z ⊢
 simp only[unName,unNoS,unChS,Option.bind_some,cond_true,Bool.and_true,z,hx,Nat.zero_le,decide_true,Bool.and_self,List.drop_zero,hall]
 unfold F.strdF
 cases F.isName r.name
 ·rfl
 cases(l.any fun o=>F.seq o.name r.name)
 ·cases F.noScale r.scale
  ·have e0:((r.samples.length:Int)==0)=decide (r.samples.length=0):=int_nat0 _
   simp only[e0,Bool.not_true,Bool.not_false,cond_true,cond_false]
   cases(F.chkS r.samples != 0)
   ·cases decide (r.samples.length=0)<;>rfl
   ·rfl
  ·rfl
 ·rfl

def stCkr (l:List Std) (k:Nat):St:=⟨[(16,vI k),(15,vI l.length),(14, .sl (l.map eStd)),(0, .sl (l.map eStd))],[]⟩

def stCkr1 (a:(List Std)×Nat):St:=stCkr a.1 a.2

theorem stCkr_inj (a a':(List Std)×Nat) (h:stCkr1 a=stCkr1 a'):a=a':=by
 simp only[stCkr1,stCkr]at h
 try simp[eStds_inj]at h
 grind

theorem unstCkr0 (l:List Std)  : unenc stCkr1 (St.mk [(16,(vI (0:Int))),(15,(vI (↑(List.length l):Int))),(14,AV.sl (List.map eStd l)),(0,AV.sl (List.map eStd l))] [])=some (l,0):=unenc_of stCkr_inj (l,0) rfl

def outCkr (l:List Std) (k:Nat):T (Ex×St):= .ifB (decide (M.ffI (fun p:Std×Nat=>F.strdF p.1 (l.take p.2)) (l.zipIdx.drop k)=0)) (.ret (.exit 1,⟨[(0, .sl (l.map eStd))],[]⟩)) (.ret (.ret,⟨[(2,vI (M.ffI (fun p:Std×Nat=>F.strdF p.1 (l.take p.2)) (l.zipIdx.drop k)))],[]⟩))

noncomputable def prlCkr (l:List Std) (k:Nat):Bool:=decide (l.length≤12)&&decide (k≤l.length)

noncomputable def lpCkr:Nat×(St→T (Ex×St)):=(6,lpo [16,15,14,0] [] stCkr1 (fun a=>prlCkr a.1 a.2) fun a=>outCkr a.1 a.2)

noncomputable def enCkr:Env:=envH ty noG lks [oSdf] [] [] [lpCkr]

theorem enCkr_ok:EnvOK Tryz.prog enCkr:=by
 refine envH_ok lks_ok ty_ok ?_ ?_
 ·simp only[List.forall_mem_cons]
  exact⟨okSdf,by simp⟩
 ·simp

theorem evCkrL (l:List Std) (k:Nat):((exec enCkr (loopN Tryz.f15 0) (stCkr l k)).bind (lessX ([16,15,14,0],[]) ([0],[]) ([2],[]))).val =
 bif decide ((↑k:Int)<(↑(List.length l):Int)) then Option.bind (unenc (List.map eStd) (List.map eStd l)) fun z=>bif decide (k<List.length z) then bif
 Nat.ble (0:Nat) k&&Nat.ble k (List.length (List.map eStd l))&&List.all (List.map eStd l) fun(r:Row)=>Nat.beq (List.length r) (4:Nat) then Option.bind (unenc
 encSdf [AV.agg [(vS (List.getD z k (Std.mk (ByteArray.mk (Array.mk [])) (0:Int) false [])).name),(vI (List.getD z k (Std.mk (ByteArray.mk (Array.mk [])) (0:Int) false
 [])).scale),(vB (List.getD z k (Std.mk (ByteArray.mk (Array.mk [])) (0:Int) false [])).sound),AV.sl (List.map eSmp (List.getD z k (Std.mk (ByteArray.mk (Array.mk []))
 (0:Int) false [])).samples)],AV.sl (List.take k (List.map eStd l))]) fun z=>bif F.strdF z.1 z.2 != 0 then some (Ex.ret,St.mk [(2,(vI
 (F.strdF z.1 z.2)))] []) else some (Ex.normal,St.mk [(16,(vI (IntKind.i64.wrap ((↑k:Int)+1)))),(15,(vI (↑(List.length l):Int))),(14,AV.sl
 (List.map eStd l)),(0,AV.sl (List.map eStd l))] []) else none else none else some (Ex.exit (1:Nat),St.mk [(0,AV.sl (List.map eStd l))] []):=(execR_bind _ _ _).symm.trans (by kernel_rfl)

theorem lpCkr_ok (l:List Std) (k:Nat) (hp:prlCkr l k=true) : ∀ex s',(outCkr l k).val=some (ex,s')→LoopOK enCkr (loopN Tryz.f15 0) (stCkr l k) ex s':=by
 simp only[prlCkr,Bool.and_eq_true,decide_eq_true_eq]at hp
 refine loop_code (xs:=l.zipIdx) (st:=stCkr l) (g:=fun p:Std×Nat=>F.strdF p.1 (l.take p.2)) (o:=fun c=>(.ret,⟨[(2,vI c)],[]⟩)) (n:=([16,15,14,0],[])) (e:=([0],[])) (r:=([2],[])) ?_ ⟨by simp,rfl⟩ (fun _=>⟨by simp,rfl⟩) (fun _=>rfl) ?_ k (by simp;exact hp.2)
 ·rw[evCkrL];simp
 ·intro k y hy
  obtain⟨ha,hk⟩:=F.zipIdx_at hy
  have hlt:=lt_at ha
  have h1:=hp.1
  rw[evCkrL]
  simp only[unSdfw,etaStd,Option.bind_some,List.length_map,unStds,cond_true,cast_lt hlt,decide_eq_true hlt,next_at hlt (by omega:l.length≤9223372036854775807),getD_at ha,stCkr,ble_t (Nat.zero_le k),ble_t (Nat.le_of_lt hlt),all_Stds,Bool.and_self,←List.map_take,hk]
  by_cases h:F.strdF y.1 (l.take k)=0
  ·rw[h];rfl
  ·rw[bne1 h]
   simp only[cond_true,h,if_false]

theorem evCkr (l:List Std):(runF enCkr false Tryz.f15 [.sl (l.map eStd)]).val =
 bif (↑(List.length (List.map eStd l)):Int)==0 then some ((vI 9),[]) else bif decide ((12:Int)<(↑(List.length (List.map eStd l)):Int)) then some
 ((vI 2),[]) else Option.bind (unenc stCkr1 (St.mk [(16,(vI 0)),(15,(vI (↑(List.length (List.map eStd l)):Int))),(14,AV.sl (List.map eStd l)),(0,
 AV.sl (List.map eStd l))] [])) fun z=>bif decide (List.length z.1≤12)&&decide (z.2≤List.length z.1)&&true then bif decide (ffI
 (fun(p:Std×Nat)=>F.strdF p.fst (List.take p.snd z.1)) (List.drop z.2 (List.zipIdx z.1))=(0:Int)) then Option.bind (unenc (List.map eStd) (List.map eStd
 z.1)) fun z=>bif decide ((0:Nat)<List.length z) then bif (List.getD z (0:Nat) (Std.mk (ByteArray.mk (Array.mk [])) (0:Int) false [])).sound then
 some ((vI 4),[]) else some ((vI 0),[]) else none else some ((vI (ffI (fun(p:Std×Nat)=>F.strdF p.fst (List.take p.snd z.1)) (List.drop z.2
 (List.zipIdx z.1)))),[]) else none:=(runFR_val).symm.trans (by kernel_rfl)

def encCkr1 (l:List Std):List AV:=[.sl (l.map eStd)]

def encCkr (a:(List Std)):List AV:=encCkr1 a

theorem encCkr_inj (a a':(List Std)) (h:encCkr a=encCkr a'):a=a':=by
 simp only[encCkr,encCkr1]at h
 try simp[eStds_inj]at h
 grind

theorem unCkr (l:List Std):unenc encCkr ([AV.sl (List.map eStd l)])=some (l):=unenc_of encCkr_inj (l) rfl

def resCkr1 (l:List Std):AV×Heap:=(vI (F.chkR4 l),[])

def preCkr1 (l:List Std):Bool:=true

noncomputable def oCkr:Orc:=orc 15 true encCkr (fun a=>preCkr1 a) fun a=>resCkr1 a

theorem okCkr:OrcOK Tryz.prog noG oCkr:=by
 refine mk_ok Tryz.f15 (keep:=false) (by kernel_rfl) (by kernel_rfl) enCkr_ok mixed (one_loop (x0:=loopN Tryz.f15 0) (by kernel_rfl) (lpo_ok ?_)) (by first | exact fun _ _=>⟨rfl,rfl⟩ | (intro h;cases h)) ?_
 ·rintro⟨l,k⟩ hp
  exact lpCkr_ok l k hp
 rintro l hpre hok
 show(runF enCkr false _ (encCkr1 _)).val=some (resCkr1 _)
 unfold encCkr1 resCkr1
 rw[evCkr]
 simp only[unstCkr0,Option.bind_some,List.length_map,unStds,Bool.and_true,List.length_map]
 unfold F.chkR4 F.lt F.stdsF
 rw[int_nat0]
 by_cases h1:l.length=0
 ·rw[decide_eq_true h1];rfl
 rw[decide_eq_false h1]
 by_cases h2:(12:Int)<l.length
 ·rw[decide_eq_true h2];rfl
 rw[decide_eq_false h2]
 simp only[cond_false,decide_eq_true (show l.length≤12 by omega),Nat.zero_le,decide_true,Bool.and_self,cond_true,List.drop_zero,decide_eq_true (show 0<l.length by omega)]
 by_cases h3:M.ffI (fun p:Std×Nat=>F.strdF p.1 (l.take p.2)) l.zipIdx=0
 ·rw[h3]
  simp only[decide_true,cond_true,bne_self_eq_false,cond_false]
  cases(l.getD 0 ⟨⟨#[]⟩,0,false,[]⟩).sound<;>rfl
 ·rw[bne1 h3,decide_eq_false h3];rfl

end M

def F.sc0 (l:List Std):Int:=(l.getD 0 ⟨⟨#[]⟩,0,false,[]⟩).scale

def F.isAt (sc:Int) (r:Std) (p:Plc):Bool:=(F.fnd (F.plcs r.samples) r.scale p.time sc).2

def F.commR (sc:Int) (left:List Plc) (r:Std):List Plc:=bif r.sound then left else left.filter (F.isAt sc r)

def F.commL (l:List Std):List Plc:=(l.drop 1).foldl (F.commR (F.sc0 l)) (F.plcs (l.getD 0 ⟨⟨#[]⟩,0,false,[]⟩).samples)

def F.comm (l:List Std):List Int×Int:=bif F.chkR4 l != 0 then ([],F.chkR4 l) else ((F.commL l).map (·.time),0)

theorem F.plB_filter {l:List Plc} (p:Plc→Bool) (h:F.plB l=true):F.plB (l.filter p)=true:=by
 obtain⟨h1,h2,h3⟩:=M.plB_ok h
 unfold F.plB
 simp only[Bool.and_eq_true,decide_eq_true_eq,List.all_eq_true]
 exact⟨⟨h1.filter p,fun x hx=>h2 x (List.mem_filter.1 hx).1⟩,Nat.le_trans (List.length_filter_le _ _) h3⟩

theorem F.commR_ok {sc:Int} {left:List Plc} {r:Std} (h:F.plB left=true):F.plB (F.commR sc left r)=true:=by
 unfold F.commR
 cases r.sound
 ·exact F.plB_filter _ h
 ·exact h

theorem F.foldR_ok {sc:Int} : ∀(rs:List Std) {left:List Plc},F.plB left=true→F.plB (rs.foldl (F.commR sc) left)=true
 | [],_,h=>h
 | r::rs,_,h=>F.foldR_ok rs (F.commR_ok h)

theorem F.commL_ok {l:List Std} (h:F.chkR4 l=0):F.plB (F.commL l)=true:=by
 obtain⟨⟨h1,h2⟩,h3⟩:=F.chkR4_ok h
 refine F.foldR_ok _ (F.plcs_ok ?_)
 have hy:l[0]? = some l[0]:=List.getElem?_eq_getElem (by omega)
 rw[M.getD_at hy]
 exact(h3 _ (List.getElem_mem _)).2.1

theorem F.noScale_ok {n:Int} (h:F.noScale n=false):1≤n∧n≤1000000000∧F.i64B n=true:=by
 unfold F.noScale F.out at h
 simp only[Bool.or_eq_false_iff,decide_eq_false_iff_not]at h
 refine⟨by omega,by omega,?_⟩
 unfold F.i64B
 rw[decide_eq_true (by omega),decide_eq_true (by omega)]
 rfl

namespace M

def stScf (l:List Std) (s:List Scr) (n:Int) (k:Nat):St:=⟨[(12,vI k),(11,vI l.length),(10, .sl (l.map eStd)),(5,vI n),(1, .sl (s.map eScr))],[]⟩

def stScf1 (a:(List Std)×(List Scr)×Int×Nat):St:=stScf a.1 a.2.1 a.2.2.1 a.2.2.2

theorem stScf_inj (a a':(List Std)×(List Scr)×Int×Nat) (h:stScf1 a=stScf1 a'):a=a':=by
 simp only[stScf1,stScf]at h
 try simp[eStds_inj,eScrs_inj]at h
 grind

theorem unstScf0 (l:List Std) (s:List Scr)  : unenc stScf1 (St.mk [(12,(vI (0:Int))),(11,(vI (↑(List.length l):Int))),(10,AV.sl (List.map eStd l)),(5,(vI (0:Int))),(1,AV.sl (List.map eScr s))] [])=some (l,s,0,0):=unenc_of stScf_inj (l,s,0,0) rfl

def outScf (l:List Std) (s:List Scr) (n:Int) (k:Nat):T (Ex×St):= .ret (.exit 0,⟨[(5,vI (n+(F.pics (l.drop k):Nat))),(1, .sl (s.map eScr))],[]⟩)

noncomputable def prlScf (l:List Std) (s:List Scr) (n:Int) (k:Nat):Bool:=decide (l.length≤12)&&(decide (k≤l.length)&&decide (0≤n∧n≤k))

noncomputable def lpScf:Nat×(St→T (Ex×St)):=(3,lpo [12,11,10,5,1] [] stScf1 (fun a=>prlScf a.1 a.2.1 a.2.2.1 a.2.2.2) fun a=>outScf a.1 a.2.1 a.2.2.1 a.2.2.2)

def stSc2 (s:List Scr) (k:Nat):St:=⟨[(28,vI k),(27,vI s.length),(26, .sl (s.map eScr))],[]⟩

def stSc21 (a:(List Scr)×Nat):St:=stSc2 a.1 a.2

theorem stSc2_inj (a a':(List Scr)×Nat) (h:stSc21 a=stSc21 a'):a=a':=by
 simp only[stSc21,stSc2]at h
 try simp[eScrs_inj]at h
 grind

theorem unstSc20 (s:List Scr)  : unenc stSc21 (St.mk [(28,(vI (0:Int))),(27,(vI (↑(List.length s):Int))),(26,AV.sl (List.map eScr s))] [])=some (s,0):=unenc_of stSc2_inj (s,0) rfl

def outSc2 (s:List Scr) (k:Nat):T (Ex×St):= .ifB ((s.drop k).all fun x=> !F.scrB x) (.ret (.exit 2,⟨[],[]⟩)) (.ret (.ret,⟨[(4,vI 1)],[]⟩))

noncomputable def prlSc2 (s:List Scr) (k:Nat):Bool:=decide (s.length≤9223372036854775807)&&decide (k≤s.length)

noncomputable def lpSc2:Nat×(St→T (Ex×St)):=(11,lpo [28,27,26] [] stSc21 (fun a=>prlSc2 a.1 a.2) fun a=>outSc2 a.1 a.2)

noncomputable def enScf:Env:=envH ty noG lks [oOut] [] [] [lpScf,lpSc2]

theorem enScf_ok:EnvOK Tryz.prog enScf:=by
 refine envH_ok lks_ok ty_ok ?_ ?_
 ·simp only[List.forall_mem_cons]
  exact⟨okOut,by simp⟩
 ·simp

theorem evScfL (l:List Std) (s:List Scr) (n:Int) (k:Nat):((exec enScf (loopN Tryz.f16 0) (stScf l s n k)).bind (lessX ([12,11,10,5,1],[]) ([5,1],[]) ([],[]))).val =
 bif decide ((↑k:Int)<(↑(List.length l):Int)) then Option.bind (unenc (List.map eStd) (List.map eStd l)) fun z=>bif decide (k<List.length z) then bif
 !(List.getD z k (Std.mk (ByteArray.mk (Array.mk [])) (0:Int) false [])).sound then some (Ex.normal,St.mk [(12,(vI (IntKind.i64.wrap ((↑k:Int)+1)))),(11,(vI (↑(List.length l):Int))),(10,AV.sl (List.map eStd l)),(5,(vI (IntKind.i64.wrap (n+1)))),(1,AV.sl (List.map eScr s))] []) else
 some (Ex.normal,St.mk [(12,(vI (IntKind.i64.wrap ((↑k:Int)+1)))),(11,(vI (↑(List.length l):Int))),(10,AV.sl (List.map eStd l)),(5,(vI n)),
 (1,AV.sl (List.map eScr s))] []) else none else some (Ex.exit (0:Nat),St.mk [(5,(vI n)),(1,AV.sl (List.map eScr s))] []):=(execR_bind _ _ _).symm.trans (by kernel_rfl)

theorem lpScf_ok (l:List Std) (s:List Scr) (n:Int) (k:Nat) (hp:prlScf l s n k=true) : ∀ex s',(outScf l s n k).val=some (ex,s')→LoopOK enScf (loopN Tryz.f16 0) (stScf l s n k) ex s':=by
 simp only[prlScf,Bool.and_eq_true,decide_eq_true_eq]at hp
 obtain⟨h1,h2,h3⟩:=hp
 refine loop_gen (st:=fun a:Int×Nat=>stScf l s a.1 a.2) (out:=fun a=>outScf l s a.1 a.2) (I:=fun a=>a.2≤l.length∧0≤a.1∧a.1≤a.2) (n:=([12,11,10,5,1],[])) (e:=([5,1],[])) (r:=([],[])) (fun a=>l.length - a.2) ?_ (n,k) ⟨h2,h3.1,h3.2⟩
 clear h2 h3 n k
 rintro⟨n,k⟩ ⟨h2,h3,h4⟩
 simp only at h2 h3 h4
 by_cases hlt:k<l.length
 ·right
  have hy:l[k]? = some l[k]:=List.getElem?_eq_getElem hlt
  have hd:=drop_at hy
  generalize l[k]=y at hy hd
  have hN:=next_at hlt (by omega:l.length≤9223372036854775807)
  have hw:IntKind.i64.wrap (n+1)=n+1:=wrap_id (by omega) (by omega)
  cases hc:y.sound
  ·refine⟨(n+1,k+1),?_,rfl,⟨hlt,by simp only;omega,by simp only;omega⟩,by simp only;omega,?_⟩
   ·rw[evScfL]
    simp only[Option.bind_some,unStds,cond_true,cast_lt hlt,decide_eq_true hlt,hN,getD_at hy,hc,hw,Bool.not_false]
    try rfl
   ·simp only[outScf,hd,F.pics,List.countP_cons,hc,Bool.not_false,if_true]
    rw[show n+((List.countP (fun r:Std=> !r.sound) (l.drop (k+1))+1:Nat):Int)=n+1+((List.countP (fun r:Std=> !r.sound) (l.drop (k+1)):Nat):Int) by omega]
  ·refine⟨(n,k+1),?_,rfl,⟨hlt,h3,by simp only;omega⟩,by simp only;omega,?_⟩
   ·rw[evScfL]
    simp only[Option.bind_some,unStds,cond_true,cond_false,cast_lt hlt,decide_eq_true hlt,hN,getD_at hy,hc,Bool.not_true]
    try rfl
   ·simp only[outScf,hd,F.pics,List.countP_cons,hc,Bool.not_true,Bool.false_eq_true,if_false,Nat.add_zero]
 ·left
  have hk:k=l.length:=by omega
  subst hk
  refine⟨_,?_,rfl,by simp,rfl⟩
  rw[evScfL]
  simp only[Option.bind_some,unStds,cond_false,cast_ge,List.drop_length]
  simp[F.pics]

theorem evSc2L (s:List Scr) (k:Nat):((exec enScf (loopN Tryz.f16 1) (stSc2 s k)).bind (lessX ([28,27,26],[]) ([],[]) ([4],[]))).val =
 bif decide ((↑k:Int)<(↑(List.length s):Int)) then Option.bind (unenc (List.map eScr) (List.map eScr s)) fun z=>bif decide (k<List.length z) then
 Option.bind (unenc encOut [(vI (List.getD z k (Scr.mk (0:Int) (0:Int))).width),(vI 1),(vI 20000)]) fun z_1=>bif !F.out z_1.1
 z_1.2.1 z_1.2.2 then Option.bind (unenc encOut [(vI (List.getD z k (Scr.mk (0:Int) (0:Int))).height),(vI 1),(vI 20000)]) fun z=>bif F.out z.1 z.2.1 z.2.2 then some (Ex.ret,St.mk [(4,(vI 1))] []) else some (Ex.normal,St.mk [(28,(vI (IntKind.i64.wrap ((↑k:Int)
 + 1)))),(27,(vI (↑(List.length s):Int))),(26,AV.sl (List.map eScr s))] []) else some (Ex.ret,St.mk [(4,(vI 1))] []) else none else some (Ex.exit (2
 : Nat),St.mk [] []):=(execR_bind _ _ _).symm.trans (by kernel_rfl)

theorem lpSc2_ok (s:List Scr) (k:Nat) (hp:prlSc2 s k=true) : ∀ex s',(outSc2 s k).val=some (ex,s')→LoopOK enScf (loopN Tryz.f16 1) (stSc2 s k) ex s':=by
 simp only[prlSc2,Bool.and_eq_true,decide_eq_true_eq]at hp
 refine loop_all (xs:=s) (st:=stSc2 s) (p:=fun x=> !F.scrB x) (n:=([28,27,26],[])) (e:=([],[])) (r:=([4],[])) ?_ ⟨by simp,rfl⟩ ⟨by simp,rfl⟩ (fun _=>rfl) ?_ k hp.2
 ·rw[evSc2L];simp
 ·intro k y hy
  have hlt:=lt_at hy
  rw[evSc2L]
  simp only[unOut,Option.bind_some,unScrs,cond_true,cast_lt hlt,decide_eq_true hlt,next_at hlt hp.1,getD_at hy,stSc2,F.scrB]
  cases F.out y.width 1 20000<;>cases F.out y.height 1 20000<;>rfl

theorem evScf (l:List Std) (s:List Scr):(runF enScf false Tryz.f16 [.sl (l.map eStd), .sl (s.map eScr)]).val =
 Option.bind (unenc stScf1 (St.mk [(12,(vI 0)),(11,(vI (↑(List.length (List.map eStd l)):Int))),(10,AV.sl (List.map eStd l)),(5,(vI 0)),(1,AV.sl
 (List.map eScr s))] [])) fun z=>bif decide (List.length z.1≤12)&&(decide (z.2.2.2≤List.length z.1)&&decide
 ((0:Int)≤z.2.2.1∧z.2.2.1≤(↑z.2.2.2:Int)))&&true then bif (↑(List.length (List.map eScr z.2.1)):Int) != z.2.2.1+(↑(F.pics
 (List.drop z.2.2.2 z.1)):Int) then some ((vI 3),[]) else Option.bind (unenc stSc21 (St.mk [(28,(vI 0)),(27,(vI (↑(List.length (List.map eScr
 z.2.1)):Int))),(26,AV.sl (List.map eScr z.2.1))] [])) fun z=>bif decide (List.length z.1≤9223372036854775807)&&decide (z.2
 ≤ List.length z.1)&&true then bif List.all (List.drop z.2 z.1) fun(x:Scr)=> !F.scrB x then some ((vI 0),[]) else some ((vI 1),[]) else none
 else none:=(runFR_val).symm.trans (by kernel_rfl)

def encScf1 (l:List Std) (s:List Scr):List AV:=[.sl (l.map eStd), .sl (s.map eScr)]

def encScf (a:(List Std)×(List Scr)):List AV:=encScf1 a.1 a.2

theorem encScf_inj (a a':(List Std)×(List Scr)) (h:encScf a=encScf a'):a=a':=by
 simp only[encScf,encScf1]at h
 try simp[eStds_inj,eScrs_inj]at h
 grind

theorem unScf (l:List Std) (s:List Scr):unenc encScf ([AV.sl (List.map eStd l),AV.sl (List.map eScr s)])=some (l,s):=unenc_of encScf_inj (l,s) rfl

def resScf1 (l:List Std) (s:List Scr):AV×Heap:=(vI (F.scrF l s),[])

def preScf1 (l:List Std) (s:List Scr):Bool:=decide (l.length≤12)

noncomputable def oScf:Orc:=orc 16 true encScf (fun a=>preScf1 a.1 a.2) fun a=>resScf1 a.1 a.2

theorem okScf:OrcOK Tryz.prog noG oScf:=by
 refine mk_ok Tryz.f16 (keep:=false) (by kernel_rfl) (by kernel_rfl) enScf_ok mixed (two_loops (x0:=loopN Tryz.f16 0) (x1:=loopN Tryz.f16 1) (by kernel_rfl) (lpo_ok ?_) (lpo_ok ?_)) (by first | exact fun _ _=>⟨rfl,rfl⟩ | (intro h;cases h)) ?_
 ·rintro⟨l,s,n,k⟩ hp
  exact lpScf_ok l s n k hp
 ·rintro⟨s,k⟩ hp
  exact lpSc2_ok s k hp
 rintro⟨l,s⟩ hpre hok
 show(runF enScf false _ (encScf1 _ _)).val=some (resScf1 _ _)
 unfold encScf1 resScf1
 rw[evScf]
 have h1:l.length≤12:=of_decide_eq_true hpre
 have hx:s.length≤9223372036854775807:=by simpa using(okA_sl (hok _ (List.mem_cons_of_mem _ (List.mem_cons_self ..)))).1
 have hall:(s.all fun x=> !F.scrB x) = !(s.any F.scrB):=by rw[List.any_eq_not_all_not,Bool.not_not]
 have z0:decide ((0:Int)≤0∧(0:Int)≤((0:Nat):Int))=true:=rfl
 have hne:((s.length:Int) != ((F.pics l:Nat):Int)) = !decide (s.length=F.pics l):=by
  by_cases h:s.length=F.pics l
  ·rw[decide_eq_true h,h];simp
  ·rw[decide_eq_false h];simp;omega
 simp only[unstScf0,unstSc20,Option.bind_some,List.length_map,cond_true,Bool.and_true,h1,z0,Nat.zero_le,decide_true,Bool.and_self,List.drop_zero,Int.zero_add,hne,hx,hall]
 unfold F.scrF
 cases decide (s.length=F.pics l)
 ·rfl
 ·cases s.any F.scrB<;>rfl

def stCom (l:List Std) (left:List Plc) (k:Nat):St:=⟨[(29,vI k),(28,vI (l.drop 1).length),(27, .sl ((l.drop 1).map eStd)),(5, .sl (left.map ePlc)),(0, .sl (l.map eStd))],[]⟩

def stCom1 (a:(List Std)×(List Plc)×Nat):St:=stCom a.1 a.2.1 a.2.2

theorem stCom_inj (a a':(List Std)×(List Plc)×Nat) (h:stCom1 a=stCom1 a'):a=a':=by
 simp only[stCom1,stCom]at h
 try simp[eStds_inj,ePlcs_inj]at h
 grind

theorem unstCom0 (l:List Std) (left:List Plc)  : unenc stCom1 (St.mk [(29,(vI (0:Int))),(28,(vI (↑(List.length (List.drop (1:Nat) l)):Int))),(27,AV.sl (List.map eStd (List.drop (1:Nat) l))),(5,AV.sl (List.map ePlc
 left)),(0,AV.sl (List.map eStd l))] [])=some (l,left,0):=unenc_of stCom_inj (l,left,0) rfl

def outCom (l:List Std) (left:List Plc) (k:Nat):T (Ex×St):= .ret (.exit 0,⟨[(5, .sl ((((l.drop 1).drop k).foldl (F.commR (F.sc0 l)) left).map ePlc))],[]⟩)

noncomputable def prlCom (l:List Std) (left:List Plc) (k:Nat):Bool:=decide (F.chkR4 l=0)&&(decide (k≤(l.drop 1).length)&&F.plB left)

noncomputable def lpCom:Nat×(St→T (Ex×St)):=(6,lpo [29,28,27,5,0] [] stCom1 (fun a=>prlCom a.1 a.2.1 a.2.2) fun a=>outCom a.1 a.2.1 a.2.2)

def stCo2 (l:List Std) (left:List Plc) (k:Nat) (r:Std) (acc:List Plc) (j:Nat):St:=⟨[(39,vI j),(38,vI left.length),(37, .sl (left.map ePlc)),(29,vI k),(28,vI (l.drop 1).length),(27, .sl ((l.drop 1).map eStd)),(9, .own 9),(8, .sl ((F.plcs r.samples).map ePlc)),(7, .ptr 7 0 0),(0, .sl (l.map eStd))],[(9,⟨false,149,2,acc.map ePlc⟩),(7,⟨true,0,0,[eStd r]⟩)]⟩

def stCo21 (a:(List Std)×(List Plc)×Nat×Std×(List Plc)×Nat):St:=stCo2 a.1 a.2.1 a.2.2.1 a.2.2.2.1 a.2.2.2.2.1 a.2.2.2.2.2

theorem stCo2_inj (a a':(List Std)×(List Plc)×Nat×Std×(List Plc)×Nat) (h:stCo21 a=stCo21 a'):a=a':=by
 simp only[stCo21,stCo2]at h
 try simp[eStds_inj,eStd_iff,ePlcs_inj]at h
 grind

theorem unstCo20 (l:List Std) (left:List Plc) (k:Nat) (r:Std)  : unenc stCo21 (St.mk [(39,(vI (0:Int))),(38,(vI (↑(List.length left):Int))),(37,AV.sl (List.map ePlc left)),(29,(vI (↑k:Int))),(28,(vI (↑(List.length (List.drop (1:Nat)
 l)):Int))),(27,AV.sl (List.map eStd (List.drop (1:Nat) l))),(9, .own 9),(8,AV.sl (List.map ePlc (F.plcs r.samples))),(7, .ptr 7 0 0),(0,AV.sl (List.map eStd
 l))] [(9,Blk.mk false 149 2 []),(7,Blk.mk true 0 0 [[(vS r.name),(vI r.scale),(vB r.sound),AV.sl (List.map eSmp r.samples)]])])=some (l,left,k,r,[],0):=unenc_of stCo2_inj (l,left,k,r,[],0) rfl

def outCo2 (l:List Std) (left:List Plc) (k:Nat) (r:Std) (acc:List Plc) (j:Nat):T (Ex×St):= .ret (.exit 2,⟨[(29,vI k),(28,vI (l.drop 1).length),(27, .sl ((l.drop 1).map eStd)),(9, .own 9),(0, .sl (l.map eStd))],[(9,⟨false,149,2,(acc++(left.drop j).filter (F.isAt (F.sc0 l) r)).map ePlc⟩)]⟩)

noncomputable def prlCo2 (l:List Std) (left:List Plc) (k:Nat) (r:Std) (acc:List Plc) (j:Nat):Bool:=decide (F.chkR4 l=0)&&(F.plB left&&(decide (F.chkS r.samples=0)&&(!F.noScale r.scale&&(decide (j≤left.length)&&decide (acc.length≤j)))))

noncomputable def lpCo2:Nat×(St→T (Ex×St)):=(12,lpo [39,38,37,29,28,27,9,8,7,0] [9,7] stCo21 (fun a=>prlCo2 a.1 a.2.1 a.2.2.1 a.2.2.2.1 a.2.2.2.2.1 a.2.2.2.2.2) fun a=>outCo2 a.1 a.2.1 a.2.2.1 a.2.2.2.1 a.2.2.2.2.1 a.2.2.2.2.2)

def stCo3 (left:List Plc) (acc:List Int) (k:Nat):St:=⟨[(66,vI k),(65,vI left.length),(64, .sl (left.map ePlc)),(14, .own 14)],[(14,⟨false,3,1,acc.map eI⟩)]⟩

def stCo31 (a:(List Plc)×(List Int)×Nat):St:=stCo3 a.1 a.2.1 a.2.2

theorem stCo3_inj (a a':(List Plc)×(List Int)×Nat) (h:stCo31 a=stCo31 a'):a=a':=by
 simp only[stCo31,stCo3]at h
 try simp[ints_inj,ePlcs_inj]at h
 grind

theorem unstCo30 (left:List Plc)  : unenc stCo31 (St.mk [(66,(vI (0:Int))),(65,(vI (↑(List.length left):Int))),(64,AV.sl (List.map ePlc left)),(14, .own 14)] [(14,Blk.mk false 3 1 [])])=some (left,[],0):=unenc_of stCo3_inj (left,[],0) rfl

def outCo3 (left:List Plc) (acc:List Int) (k:Nat):T (Ex×St):= .ret (.exit 4,⟨[(14, .own 14)],[(14,⟨false,3,1,(acc++(left.drop k).map (·.time)).map eI⟩)]⟩)

noncomputable def prlCo3 (left:List Plc) (acc:List Int) (k:Nat):Bool:=decide (left.length≤5000)&&(decide (k≤left.length)&&decide (acc.length=k))

noncomputable def lpCo3:Nat×(St→T (Ex×St)):=(22,lpo [66,65,64,14] [14] stCo31 (fun a=>prlCo3 a.1 a.2.1 a.2.2) fun a=>outCo3 a.1 a.2.1 a.2.2)

noncomputable def enCom:Env:=envH ty noG lks [oCkr,oPlf,oFnd] [] [] [lpCom,lpCo2,lpCo3]

theorem enCom_ok:EnvOK Tryz.prog enCom:=by
 refine envH_ok lks_ok ty_ok ?_ ?_
 ·simp only[List.forall_mem_cons]
  exact⟨okCkr,okPlf,okFnd,by simp⟩
 ·simp

theorem std_at {l:List Std} (h:F.chkR4 l=0) {k:Nat} {y:Std} (hy:(l.drop 1)[k]? = some y):F.noScale y.scale=false∧F.chkS y.samples=0:=by
 have:=(F.chkR4_ok h).2 y (List.mem_of_mem_drop (List.mem_of_getElem? hy))
 exact⟨this.1,this.2.1⟩

theorem std_0 {l:List Std} (h:F.chkR4 l=0):0<l.length∧F.noScale (F.sc0 l)=false∧F.chkS (l.getD 0 ⟨⟨#[]⟩,0,false,[]⟩).samples=0∧1≤(l.getD 0 ⟨⟨#[]⟩,0,false,[]⟩).samples.length:=by
 obtain⟨⟨h1,h2⟩,h3⟩:=F.chkR4_ok h
 have hy:l[0]? = some l[0]:=List.getElem?_eq_getElem (by omega)
 have h4:=h3 _ (List.getElem_mem (by omega:0<l.length))
 unfold F.sc0
 rw[getD_at hy]
 exact⟨by omega,h4⟩

theorem evCo2L (l:List Std) (left:List Plc) (k:Nat) (r:Std) (acc:List Plc) (j:Nat):((exec enCom (loopN Tryz.f50 1) (stCo2 l left k r acc j)).bind (lessX ([39,38,37,29,28,27,9,8,7,0],[9,7]) ([29,28,27,9,0],[9]) ([],[]))).val =
 (fun(q:Nat×AV)=>(fun(q_1:List (Nat×Blk))=>(fun(q_2:List (Nat×AV))=>bif decide ((↑j:Int)<(↑(List.length left):Int)) then Option.bind (unenc
 (List.map ePlc) (List.map ePlc left)) fun z=>(fun(q:AV)=>bif decide (j<List.length z) then Option.bind (unenc (List.map eStd) (List.map eStd l)) fun
 (z_1:List Std)=>bif decide ((0:Nat)<List.length z_1) then Option.bind (unenc encFnd [AV.sl (List.map ePlc (F.plcs r.samples)),(vI r.scale),q,(vI (List.getD z_1
 (0:Nat) (Std.mk (ByteArray.mk (Array.mk [])) (0:Int) false [])).scale)]) fun z_2=>bif F.plB z_2.1&&(F.i64B z_2.2.1&&(F.i64B
 z_2.2.2.1&&(decide ((1:Int)≤z_2.2.2.2)&&F.i64B z_2.2.2.2))) then bif (F.fnd z_2.1 z_2.2.1 z_2.2.2.1 z_2.2.2.2).snd then bif
 Nat.ble ((List.length (List.map ePlc acc)+1)*16) 140737488355328&&true then some (Ex.normal,St.mk q_2 ((9,Blk.mk false 149 2 (List.map ePlc
 acc++[[q,(vI (List.getD z j (Plc.mk (0:Int) (0:Int))).sample)]]))::q_1)) else none else some (Ex.normal,St.mk q_2 ((9,Blk.mk false 149 2 (List.map ePlc acc)) ::
 q_1)) else none else none else none) ((vI (List.getD z j (Plc.mk (0:Int) (0:Int))).time)) else some (Ex.exit (2:Nat),St.mk [(29,(vI (↑k:Int))),q,(27,AV.sl
 (List.map eStd (List.drop (1:Nat) l))),(9, .own 9),(0,AV.sl (List.map eStd l))] [(9,Blk.mk false 149 2 (List.map ePlc acc))])) [(39,(vI (IntKind.wrap IntKind.i64
 ((↑j:Int)+1)))),(38,(vI (↑(List.length left):Int))),(37,AV.sl (List.map ePlc left)),(29,(vI (↑k:Int))),q,(27,AV.sl (List.map eStd (List.drop (1 :
 Nat) l))),(9, .own 9),(8,AV.sl (List.map ePlc (F.plcs r.samples))),(7, .ptr 7 0 0),(0,AV.sl (List.map eStd l))]) [(7,Blk.mk true 0 0 [[(vS r.name),(vI r.scale),
 (vB r.sound),AV.sl (List.map eSmp r.samples)]])]) (28,(vI (↑(List.length (List.drop (1:Nat) l)):Int))):=(execR_bind _ _ _).symm.trans (by kernel_rfl)

theorem lpCo2_ok (l:List Std) (left:List Plc) (k:Nat) (r:Std) (acc:List Plc) (j:Nat) (hp:prlCo2 l left k r acc j=true) : ∀ex s',(outCo2 l left k r acc j).val=some (ex,s')→LoopOK enCom (loopN Tryz.f50 1) (stCo2 l left k r acc j) ex s':=by
 simp only[prlCo2,Bool.and_eq_true,decide_eq_true_eq]at hp
 obtain⟨h1,h2,h3,h4,h5,h6⟩:=hp
 obtain⟨g1,g2,g3⟩:=plB_ok h2
 obtain⟨a1,a2,_,_⟩:=std_0 h1
 obtain⟨b1,b2,b3⟩:=F.noScale_ok a2
 obtain⟨c1,c2,c3⟩:=F.noScale_ok (show F.noScale r.scale=false by simpa using h4)
 have hs0:(l.getD 0 ⟨⟨#[]⟩,0,false,[]⟩).scale=F.sc0 l:=rfl
 have hpl:=F.plcs_ok h3
 refine loop_gen (st:=fun a:List Plc×Nat=>stCo2 l left k r a.1 a.2) (out:=fun a=>outCo2 l left k r a.1 a.2) (I:=fun a=>a.2≤left.length∧a.1.length≤a.2) (n:=([39,38,37,29,28,27,9,8,7,0],[9,7])) (e:=([29,28,27,9,0],[9])) (r:=([],[])) (fun a=>left.length - a.2) ?_ (acc,j) ⟨h5,h6⟩
 clear h5 h6 acc j
 rintro⟨acc,j⟩ ⟨h5,h6⟩
 simp only at h5 h6
 by_cases hlt:j<left.length
 ·right
  have hy:left[j]? = some left[j]:=List.getElem?_eq_getElem hlt
  have hd:=drop_at hy
  have hyt:=g2 _ (List.mem_of_getElem? hy)
  generalize left[j]=y at hy hd hyt
  have hb:Nat.ble ((acc.length+1)*16) 140737488355328=true:=ble_t (by omega)
  have hN:=next_at hlt (by omega:left.length≤9223372036854775807)
  have ea:acc.map ePlc++[[vI y.time,vI y.sample]]=(acc++[y]).map ePlc:=by simp[ePlc]
  cases hc:(F.fnd (F.plcs r.samples) r.scale y.time (F.sc0 l)).2
  ·refine⟨(acc,j+1),?_,rfl,⟨hlt,by simp only;omega⟩,by simp only;omega,?_⟩
   ·rw[evCo2L]
    simp only[unFnd,Option.bind_some,List.length_map,unStds,unPlcs,cond_true,cond_false,Bool.and_true,Bool.true_and,cast_lt hlt,decide_eq_true hlt,hN,getD_at hy,decide_eq_true a1,hs0,hpl,c3,hyt,decide_eq_true b1,b3,Bool.and_self,hc]
    try rfl
   ·have:F.isAt (F.sc0 l) r y=false:=hc
    simp only[outCo2,hd,List.filter_cons,this,Bool.false_eq_true,if_false]
  ·refine⟨(acc++[y],j+1),?_,rfl,⟨hlt,by simp;omega⟩,by simp only;omega,?_⟩
   ·rw[evCo2L]
    simp only[unFnd,Option.bind_some,List.length_map,unStds,unPlcs,cond_true,Bool.and_true,Bool.true_and,cast_lt hlt,decide_eq_true hlt,hN,getD_at hy,decide_eq_true a1,hs0,hpl,c3,hyt,decide_eq_true b1,b3,Bool.and_self,hc,hb,ea]
    try rfl
   ·have:F.isAt (F.sc0 l) r y=true:=hc
    simp only[outCo2,hd,List.filter_cons,this,if_true,List.append_assoc,List.singleton_append]
 ·left
  have hk:j=left.length:=by omega
  subst hk
  refine⟨_,?_,rfl,by simp,rfl⟩
  rw[evCo2L]
  simp only[unFnd,Option.bind_some,List.length_map,unStds,unPlcs,cond_false,Bool.and_true,cast_ge,List.drop_length,List.filter_nil,List.append_nil]
  try rfl

theorem evComL (l:List Std) (left:List Plc) (k:Nat):((exec enCom (loopN Tryz.f50 0) (stCom l left k)).bind (lessX ([29,28,27,5,0],[9]) ([5],[]) ([],[]))).val =
 (fun(q:Int)=>(fun(q_1:Std)=>(fun(q_2:Nat×AV)=>bif decide ((↑k:Int)<q) then Option.bind (unenc (List.map eStd) (List.map eStd (List.drop (1:Nat) l)))
 fun z=>(fun(q:List AV)=>bif decide (k<List.length z) then bif (List.getD z k q_1).sound then some (Ex.normal,St.mk [(29,(vI (IntKind.wrap
 IntKind.i64 ((↑k:Int)+1)))),q_2,(27,AV.sl (List.map eStd (List.drop (1:Nat) l))),(5,AV.sl (List.map ePlc left)),(0,AV.sl (List.map eStd l))] []) else
 Option.bind (unenc encPlf [AV.agg q]) fun z=>bif decide (F.chkS z.samples=(0:Int)) then Option.bind (unenc stCo21 (St.mk [(39,(vI 0)),(38,(vI
 (↑(List.length (List.map ePlc left)):Int))),(37,AV.sl (List.map ePlc left)),(29,(vI (↑k:Int))),q_2,(27,AV.sl (List.map eStd (List.drop (1:Nat) l))),(9, .own
 9),(8,AV.sl (List.map ePlc (F.plcs z.samples))),(7, .ptr 7 0 0),(0,AV.sl (List.map eStd l))] [(9,Blk.mk false 149 2 []),(7,Blk.mk true 0 0 [q])])) fun z=>(fun(q:Nat)=>bif decide (F.chkR4 z.1=(0:Int))&&(F.plB z.2.1&&(decide (F.chkS z.2.2.2.1.samples =
 (0:Int))&&(!F.noScale z.2.2.2.1.scale&&(decide (q≤List.length z.2.1)&&decide (List.length z.2.2.2.2.1≤q)))))&&true then some
 (Ex.normal,St.mk [(29,(vI (IntKind.i64.wrap ((↑z.2.2.1:Int)+1)))),(28,(vI (↑(List.length (List.drop (1:Nat) z.1)):Int))),(27,AV.sl
 (List.map eStd (List.drop (1:Nat) z.1))),(5, .own 9),(0,AV.sl (List.map eStd z.1))] [(9,Blk.mk false 149 2 (List.map ePlc (z.2.2.2.2.1++List.filter
 (F.isAt (F.sc0 z.1) z.2.2.2.1) (List.drop q z.2.1))))]) else none) z.2.2.2.2.2 else none else none) [(vS (List.getD z k q_1).name),(vI (List.getD
 z k q_1).scale),(vB (List.getD z k q_1).sound),AV.sl (List.map eSmp (List.getD z k q_1).samples)] else some (Ex.exit (0:Nat),St.mk [(5,AV.sl (List.map ePlc left))]
 [])) (28,(vI q))) (Std.mk (ByteArray.mk (Array.mk [])) (0:Int) false [])) (↑(List.length (List.drop (1:Nat) l)):Int):=(execR_bind _ _ _).symm.trans (by kernel_rfl)

theorem lpCom_ok (l:List Std) (left:List Plc) (k:Nat) (hp:prlCom l left k=true) : ∀ex s',(outCom l left k).val=some (ex,s')→LoopOK enCom (loopN Tryz.f50 0) (stCom l left k) ex s':=by
 simp only[prlCom,Bool.and_eq_true,decide_eq_true_eq]at hp
 obtain⟨h1,h2,h3⟩:=hp
 refine loop_genF (st:=fun a:List Plc×Nat=>stCom l a.1 a.2) (out:=fun a=>outCom l a.1 a.2) (I:=fun a=>a.2≤(l.drop 1).length∧F.plB a.1=true) (n:=([29,28,27,5,0],[9])) (e:=([5],[])) (r:=([],[])) (fun a=>(l.drop 1).length - a.2) ?_ (left,k) ⟨h2,h3⟩
 clear h2 h3 left k
 rintro⟨left,k⟩ ⟨h2,h3⟩
 simp only at h2 h3
 have hlen:=(F.chkR4_ok h1).1
 have hdl:(l.drop 1).length=l.length - 1:=List.length_drop
 by_cases hlt:k<(l.drop 1).length
 ·right
  have hy:(l.drop 1)[k]? = some (l.drop 1)[k]:=List.getElem?_eq_getElem hlt
  have hd:=drop_at hy
  have hs:=std_at h1 hy
  generalize (l.drop 1)[k]=y at hy hd hs
  have hN:=next_at hlt (by omega:(l.drop 1).length≤9223372036854775807)
  cases hc:y.sound
  ·refine⟨(left.filter (F.isAt (F.sc0 l) y),k+1),⟨[(29,vI ((k+1:Nat):Int)),(28,vI (l.drop 1).length),(27, .sl ((l.drop 1).map eStd)),(5, .own 9),(0, .sl (l.map eStd))],[(9,⟨false,149,2,(left.filter (F.isAt (F.sc0 l) y)).map ePlc⟩)]⟩,[9],?_,rfl,rfl,⟨hlt,F.plB_filter _ h3⟩,by simp only;omega,?_⟩
   ·have z:unenc stCo21 (St.mk [(39,(vI 0)),(38,(vI (left.length:Int))),(37,AV.sl (List.map ePlc left)),(29,(vI (k:Int))),(28,(vI ((l.drop 1).length:Int))),(27,AV.sl (List.map eStd (l.drop 1))),(9, .own 9),(8,AV.sl (List.map ePlc (F.plcs y.samples))),(7, .ptr 7 0 0),(0,AV.sl (List.map eStd l))] [(9,Blk.mk false 149 2 []),(7,Blk.mk true 0 0 [[(vS y.name),(vI y.scale),(vB y.sound),AV.sl (List.map eSmp y.samples)]])])=some (l,left,k,y,[],0):=unstCo20 l left k y
    rw[hc]at z
    rw[evComL]
    simp only[unPlfw,unstCo20,etaStd,Option.bind_some,List.length_map,unStds,cond_true,cond_false,Bool.and_true,cast_lt hlt,decide_eq_true hlt,hN,getD_at hy,hc]
    have u:unenc encPlf [AV.agg [(vS y.name),(vI y.scale),(vB false),AV.sl (List.map eSmp y.samples)]]=some y:=by
     have:=unPlf y
     rw[hc]at this
     first | exact this | (unfold eStd at this;rw[hc]at this;exact this)
    try rw[u]
    try simp only[decide_eq_true hs.2,cond_true]
    try rw[z]
    simp only[decide_eq_true h1,h3,hs.1,Bool.not_false,Nat.zero_le,decide_true,List.length_nil,Bool.and_self,cond_true,List.drop_zero,List.nil_append]
    try rfl
   ·simp only[outCom,hd,List.foldl_cons,F.commR,hc,cond_false]
  ·refine⟨(left,k+1),stCom l left (k+1),[],?_,rfl,rfl,⟨hlt,h3⟩,by simp only;omega,?_⟩
   ·rw[evComL]
    simp only[unPlfw,unstCo20,etaStd,Option.bind_some,List.length_map,unStds,cond_true,Bool.and_true,cast_lt hlt,decide_eq_true hlt,hN,getD_at hy,hc]
    try rfl
   ·simp only[outCom,hd,List.foldl_cons,F.commR,hc,cond_true]
 ·left
  have hk:k=(l.drop 1).length:=by omega
  subst hk
  refine⟨_,?_,rfl,by simp,rfl⟩
  rw[evComL]
  simp only[unPlfw,unstCo20,etaStd,Option.bind_some,List.length_map,unStds,cond_false,Bool.and_true,cast_ge,List.drop_length,List.foldl_nil]
  try rfl

theorem evCo3L (left:List Plc) (acc:List Int) (k:Nat):((exec enCom (loopN Tryz.f50 2) (stCo3 left acc k)).bind (lessX ([66,65,64,14],[14]) ([14],[14]) ([],[]))).val =
 bif decide ((↑k:Int)<(↑(List.length left):Int)) then Option.bind (unenc (List.map ePlc) (List.map ePlc left)) fun z=>bif decide (k<List.length z)
 then bif Nat.ble ((List.length (List.map eI acc)+1)*8) 140737488355328&&true then some (Ex.normal,St.mk [(66,(vI (IntKind.wrap IntKind.i64
 ((↑k:Int)+1)))),(65,(vI (↑(List.length left):Int))),(64,AV.sl (List.map ePlc left)),(14, .own 14)] [(14,Blk.mk false 3 1 (List.map eI acc++[[(vI
 (List.getD z k (Plc.mk (0:Int) (0:Int))).time)]]))]) else none else none else some (Ex.exit (4:Nat),St.mk [(14, .own 14)] [(14,Blk.mk false 3 1 (List.map eI
 acc))]):=(execR_bind _ _ _).symm.trans (by kernel_rfl)

theorem lpCo3_ok (left:List Plc) (acc:List Int) (k:Nat) (hp:prlCo3 left acc k=true) : ∀ex s',(outCo3 left acc k).val=some (ex,s')→LoopOK enCom (loopN Tryz.f50 2) (stCo3 left acc k) ex s':=by
 simp only[prlCo3,Bool.and_eq_true,decide_eq_true_eq]at hp
 obtain⟨h1,h2,h3⟩:=hp
 refine loop_gen (st:=fun a:List Int×Nat=>stCo3 left a.1 a.2) (out:=fun a=>outCo3 left a.1 a.2) (I:=fun a=>a.2≤left.length∧a.1.length=a.2) (n:=([66,65,64,14],[14])) (e:=([14],[14])) (r:=([],[])) (fun a=>left.length - a.2) ?_ (acc,k) ⟨h2,h3⟩
 clear h2 h3 acc k
 rintro⟨acc,k⟩ ⟨h2,h3⟩
 simp only at h2 h3
 by_cases hlt:k<left.length
 ·right
  have hy:left[k]? = some left[k]:=List.getElem?_eq_getElem hlt
  have hd:=drop_at hy
  generalize left[k]=y at hy hd
  have hb:Nat.ble ((acc.length+1)*8) 140737488355328=true:=ble_t (by omega)
  have hN:=next_at hlt (by omega:left.length≤9223372036854775807)
  refine⟨(acc++[y.time],k+1),?_,rfl,⟨hlt,by simp[h3]⟩,by simp only;omega,?_⟩
  ·rw[evCo3L]
   simp only[Option.bind_some,List.length_map,unPlcs,cond_true,Bool.and_true,cast_lt hlt,decide_eq_true hlt,hN,getD_at hy,hb,appI1]
   try rfl
  ·simp only[outCo3,hd,List.map_cons,List.append_assoc,List.singleton_append]
 ·left
  have hk:k=left.length:=by omega
  subst hk
  refine⟨_,?_,rfl,by simp,rfl⟩
  rw[evCo3L]
  simp only[Option.bind_some,List.length_map,unPlcs,cond_false,Bool.and_true,cast_ge,List.drop_length,List.map_nil,List.append_nil]
  try rfl

theorem evCom (l:List Std):(runF enCom false Tryz.f50 [.sl (l.map eStd)]).val =
 Option.bind (unenc encCkr [AV.sl (List.map eStd l)]) fun z=>bif F.chkR4 z != 0 then some (AV.tup [AV.sl [],(vI (F.chkR4 z))],[]) else Option.bind
 (unenc (List.map eStd) (List.map eStd l)) fun z=>bif decide ((0:Nat)<List.length z) then Option.bind (unenc encPlf [AV.agg [(vS (List.getD z (0:Nat)
 (Std.mk (ByteArray.mk (Array.mk [])) (0:Int) false [])).name),(vI (List.getD z (0:Nat) (Std.mk (ByteArray.mk (Array.mk [])) (0:Int) false [])).scale),(vB
 (List.getD z (0:Nat) (Std.mk (ByteArray.mk (Array.mk [])) (0:Int) false [])).sound),AV.sl (List.map eSmp (List.getD z (0:Nat) (Std.mk (ByteArray.mk (Array.mk []))
 (0:Int) false [])).samples)]]) fun z=>bif decide (F.chkS z.samples=(0:Int)) then bif Nat.ble (1:Nat) (List.length (List.map eStd l))&&Nat.ble
 (List.length (List.map eStd l)) (List.length (List.map eStd l))&&List.all (List.map eStd l) fun(r:Row)=>Nat.beq (List.length r) (4:Nat) then Option.bind (unenc
 stCom1 (St.mk [(29,(vI 0)),(28,(vI (↑(List.length (List.drop (1:Nat) (List.map eStd l))):Int))),(27,AV.sl (List.drop (1:Nat) (List.map eStd l))),(5,
 AV.sl (List.map ePlc (F.plcs z.samples))),(0,AV.sl (List.map eStd l))] [])) fun z=>bif decide (F.chkR4 z.1=(0:Int))&&(decide
 (z.2.2≤List.length (List.drop (1:Nat) z.1))&&F.plB z.2.1)&&true then Option.bind (unenc stCo31 (St.mk [(66,(vI 0)),(65,(vI (↑(List.length
 (List.map ePlc (List.foldl (F.commR (F.sc0 z.1)) z.2.1 (List.drop z.2.2 (List.drop (1:Nat) z.1))))):Int))),(64,AV.sl (List.map ePlc (List.foldl (F.commR
 (F.sc0 z.1)) z.2.1 (List.drop z.2.2 (List.drop (1:Nat) z.1))))),(14, .own 14)] [(14,Blk.mk false 3 1 [])])) fun z=>bif
 decide (List.length z.1≤5000)&&(decide (z.2.2≤List.length z.1)&&decide (List.length z.2.1=z.2.2))&&true then some (AV.tup [AV.sl
 (List.map eI (z.2.1++List.map (fun(x:Plc)=>x.time) (List.drop z.2.2 z.1))),(vI 0)],[]) else none else none else none else none else none:=(runFR_val).symm.trans (by kernel_rfl)

def encCom1 (l:List Std):List AV:=[.sl (l.map eStd)]

def encCom (a:(List Std)):List AV:=encCom1 a

theorem encCom_inj (a a':(List Std)) (h:encCom a=encCom a'):a=a':=by
 simp only[encCom,encCom1]at h
 try simp[eStds_inj]at h
 grind

theorem unCom (l:List Std):unenc encCom ([AV.sl (List.map eStd l)])=some (l):=unenc_of encCom_inj (l) rfl

def resCom1 (l:List Std):AV×Heap:=(.tup [.sl ((F.comm l).1.map eI),vI (F.comm l).2],[])

def preCom1 (l:List Std):Bool:=true

noncomputable def oCom:Orc:=orc 50 false encCom (fun a=>preCom1 a) fun a=>resCom1 a

theorem okCom:OrcOK Tryz.prog noG oCom:=by
 refine mk_ok Tryz.f50 (keep:=false) (by kernel_rfl) (by kernel_rfl) enCom_ok mixed (three_loops (x0:=loopN Tryz.f50 0) (x1:=loopN Tryz.f50 1) (x2:=loopN Tryz.f50 2) (by kernel_rfl) (lpo_ok ?_) (lpo_ok ?_) (lpo_ok ?_)) (by first | exact fun _ _=>⟨rfl,rfl⟩ | (intro h;cases h)) ?_
 ·rintro⟨l,left,k⟩ hp
  exact lpCom_ok l left k hp
 ·rintro⟨l,left,k,r,acc,j⟩ hp
  exact lpCo2_ok l left k r acc j hp
 ·rintro⟨left,acc,k⟩ hp
  exact lpCo3_ok left acc k hp
 rintro l hpre hok
 show(runF enCom false _ (encCom1 _)).val=some (resCom1 _)
 unfold encCom1 resCom1
 rw[evCom]
 simp only[unCkr,unPlfw,unstCo30,etaStd,Option.bind_some,List.length_map,unStds,Bool.and_true]
 unfold F.comm
 by_cases h:F.chkR4 l=0
 ·rw[bne0 h]
  obtain⟨a1,a2,a3,a4⟩:=std_0 h
  have b1:Nat.ble 1 l.length=true:=ble_t (by omega)
  have b2:Nat.ble l.length l.length=true:=ble_t (Nat.le_refl _)
  have hc:=F.commL_ok h
  have hc2:=(plB_ok hc).2.2
  have u:unenc encPlf [AV.agg [(vS (l.getD 0 ⟨⟨#[]⟩,0,false,[]⟩).name),(vI (l.getD 0 ⟨⟨#[]⟩,0,false,[]⟩).scale),(vB (l.getD 0 ⟨⟨#[]⟩,0,false,[]⟩).sound),AV.sl (List.map eSmp (l.getD 0 ⟨⟨#[]⟩,0,false,[]⟩).samples)]]=some (l.getD 0 ⟨⟨#[]⟩,0,false,[]⟩):=unPlf _
  have e:(List.drop 1 l).foldl (F.commR (F.sc0 l)) (F.plcs (l.getD 0 ⟨⟨#[]⟩,0,false,[]⟩).samples)=F.commL l:=rfl
  simp only[cond_false,decide_eq_true a1,cond_true]
  try rw[u]
  simp only[Option.bind_some,decide_eq_true a3,cond_true,b1,b2,all_Stds,Bool.and_self,←List.map_drop,List.length_map,unstCom0,decide_eq_true h,Nat.zero_le,decide_true,F.plcs_ok a3,List.drop_zero,e,decide_eq_true hc2,List.length_nil,List.nil_append]
  try rfl
 ·rw[bne1 h]
  try rfl

end M

def F.sq (p tg t:Int):Int:=IntKind.i64.wrap (IntKind.i64.wrap (IntKind.i64.wrap (t - p) - tg)*IntKind.i64.wrap (IntKind.i64.wrap (t - p) - tg))

def F.risF (l:List Int) (p:Int×Nat):Int:=bif F.noTm p.1 then 1 else bif decide (0<p.2)&&decide (p.1≤l.getD (p.2 - 1) 0) then 8 else 0

def F.risE (l:List Int):Int:=bif decide (l.length=0) then 9 else bif F.lt 1000 l.length then 2 else M.ffI (F.risF l) l.zipIdx

def F.wshE (l:List Int) (w:Wsh):Int:=bif F.noScale w.scale||(F.out w.target 1 50000000||F.out w.most w.target 50000000) then 1 else F.risE l

def F.pl0:Pln:=⟨false,0,0,0⟩

def F.pq (ps:List Int) (w:Wsh) (bs:List Pln) (i k:Nat):Pln:=⟨true,IntKind.i64.wrap (F.sq (ps.getD i 0) w.target (ps.getD k 0)+(bs.getD k F.pl0).sum),IntKind.i64.wrap ((bs.getD k F.pl0).many+1),k⟩

def F.pbet (p q:Pln):Bool:= !p.can||(decide (q.sum<p.sum)||((q.sum==p.sum)&&decide (q.many<p.many)))

def F.pstep (ps:List Int) (w:Wsh) (bs:List Pln) (i k:Nat) (p:Pln):Pln:=bif !(bs.getD k F.pl0).can then p else bif F.pbet p (F.pq ps w bs i k) then F.pq ps w bs i k else p

def F.pnear (ps:List Int) (w:Wsh) (i k:Nat):Bool:=decide (IntKind.i64.wrap (ps.getD k 0 - ps.getD i 0)≤w.most)

def F.ploop (ps:List Int) (w:Wsh) (bs:List Pln) (i:Nat):Nat→Nat→Pln→Pln
 | 0,_,p=>p
 | n+1,k,p=>bif F.pnear ps w i k then F.ploop ps w bs i n (k+1) (F.pstep ps w bs i k p) else p

def F.pini (ps:List Int) (fin:Int) (w:Wsh) (i:Nat):Pln:=bif decide (IntKind.i64.wrap (fin - ps.getD i 0)≤w.most) then ⟨true,F.sq (ps.getD i 0) w.target fin,1, -1⟩ else F.pl0

def F.plan (ps:List Int) (fin:Int) (w:Wsh) (bs:List Pln) (i:Nat):Pln:=F.ploop ps w bs i (ps.length - (i+1)) (i+1) (F.pini ps fin w i)

def F.pgood (bs:List Pln) (i n:Nat) (p:Pln):Prop:=p.can=true→p.next = -1∨((i:Int)<p.next∧p.next<n∧(bs.getD p.next.toNat F.pl0).can=true)

theorem F.pstep_good {ps:List Int} {w:Wsh} {bs:List Pln} {i k:Nat} {p:Pln} (h:F.pgood bs i ps.length p) (h1:i<k) (h2:k<ps.length):F.pgood bs i ps.length (F.pstep ps w bs i k p):=by
 unfold F.pstep
 cases hc:(bs.getD k F.pl0).can
 ·exact h
 ·simp only[Bool.not_true,cond_false]
  cases F.pbet p (F.pq ps w bs i k)
  ·exact h
  ·intro _
   right
   refine⟨?_,?_,?_⟩
   ·show(i:Int)<(k:Int);omega
   ·show(k:Int)<_;omega
   ·show(bs.getD ((k:Int)).toNat F.pl0).can=true
    rw[Int.toNat_natCast];exact hc

theorem F.ploop_good {ps:List Int} {w:Wsh} {bs:List Pln} {i:Nat} : ∀(n k:Nat) {p:Pln},F.pgood bs i ps.length p→i<k→k+n=ps.length→F.pgood bs i ps.length (F.ploop ps w bs i n k p)
 | 0,_,_,h,_,_=>h
 | n+1,k,p,h,h1,h2=>by
  unfold F.ploop
  cases F.pnear ps w i k
  ·exact h
  ·exact F.ploop_good n (k+1) (F.pstep_good h h1 (by omega)) (by omega) (by omega)

theorem F.plan_good {ps:List Int} {fin:Int} {w:Wsh} {bs:List Pln} {i:Nat} (h:i<ps.length):F.pgood bs i ps.length (F.plan ps fin w bs i):=by
 refine F.ploop_good _ _ ?_ (by omega) (by omega)
 unfold F.pini
 cases decide (IntKind.i64.wrap (fin - ps.getD i 0)≤w.most)
 ·intro h;cases h
 ·intro _;exact .inl rfl

namespace M

theorem evSq (t:Int) (ps:List Int) (i:Nat) (w:Wsh):(runF en0 false Tryz.f146 [vI t, .pel [.sl (ps.map eI)] 0, .pel [vI i] 0, .pel (eWsh w) 0]).val =
 Option.bind (unenc (List.map eI) (List.map eI ps)) fun z=>bif decide (i<List.length z) then Option.bind (unenc (List.map eI) (List.map eI ps)) fun(z_1 :
 List Int)=>bif decide (i<List.length z_1) then some ((vI (IntKind.i64.wrap (IntKind.i64.wrap (IntKind.i64.wrap (t - List.getD z i 0) -
 w.target)*IntKind.i64.wrap (IntKind.i64.wrap (t - List.getD z_1 i 0) - w.target)))),[]) else none else none:=(runFR_val).symm.trans (by kernel_rfl)

def encSq1 (t:Int) (ps:List Int) (i:Nat) (w:Wsh):List AV:=[vI t, .pel [.sl (ps.map eI)] 0, .pel [vI i] 0, .pel (eWsh w) 0]

def encSq (a:Int×(List Int)×Nat×Wsh):List AV:=encSq1 a.1 a.2.1 a.2.2.1 a.2.2.2

theorem encSq_inj (a a':Int×(List Int)×Nat×Wsh) (h:encSq a=encSq a'):a=a':=by
 simp only[encSq,encSq1]at h
 try simp[ints_inj,eWsh_iff]at h
 grind

theorem unSqw (t:Int) (ps:List Int) (i:Nat) (w_scale:Int) (w_target:Int) (w_most:Int):unenc encSq ([(vI t),AV.pel [AV.sl (List.map eI ps)] (0:Nat),AV.pel [(vI (↑i:Int))] (0:Nat),AV.pel [(vI w_scale),(vI w_target),(vI w_most)] (0:Nat)])=some (t,ps,i,(Wsh.mk w_scale w_target w_most)):=unenc_of encSq_inj (t,ps,i,(Wsh.mk w_scale w_target w_most)) rfl

def resSq1 (t:Int) (ps:List Int) (i:Nat) (w:Wsh):AV×Heap:=(vI (F.sq (ps.getD i 0) w.target t),[])

def preSq1 (t:Int) (ps:List Int) (i:Nat) (w:Wsh):Bool:=decide (i<ps.length)

noncomputable def oSq:Orc:=orc 146 true encSq (fun a=>preSq1 a.1 a.2.1 a.2.2.1 a.2.2.2) fun a=>resSq1 a.1 a.2.1 a.2.2.1 a.2.2.2

theorem okSq:OrcOK Tryz.prog noG oSq:=by
 refine mk_ok Tryz.f146 (keep:=false) (by kernel_rfl) (by kernel_rfl) en0_ok mixed (no_loops (by kernel_rfl)) (by first | exact fun _ _=>⟨rfl,rfl⟩ | (intro h;cases h)) ?_
 rintro⟨t,ps,i,w⟩ hpre hok
 show(runF en0 false _ (encSq1 _ _ _ _)).val=some (resSq1 _ _ _ _)
 unfold encSq1 resSq1
 rw[evSq]
 have h1:i<ps.length:=of_decide_eq_true hpre
 have hi:idx (i:Int)=some i:=rfl
 simp only[Option.bind_some,unInts,cond_true,decide_eq_true h1,F.sq]
 try rfl

def stRsf (l:List Int) (k:Nat):St:=⟨[(15,vI k),(14,vI l.length),(13, .sl (l.map eI)),(0, .sl (l.map eI))],[]⟩

def stRsf1 (a:(List Int)×Nat):St:=stRsf a.1 a.2

theorem stRsf_inj (a a':(List Int)×Nat) (h:stRsf1 a=stRsf1 a'):a=a':=by
 simp only[stRsf1,stRsf]at h
 try simp[ints_inj]at h
 grind

theorem unstRsf0 (l:List Int)  : unenc stRsf1 (St.mk [(15,(vI (0:Int))),(14,(vI (↑(List.length l):Int))),(13,AV.sl (List.map eI l)),(0,AV.sl (List.map eI l))] [])=some (l,0):=unenc_of stRsf_inj (l,0) rfl

def outRsf (l:List Int) (k:Nat):T (Ex×St):= .ifB (decide (M.ffI (F.risF l) (l.zipIdx.drop k)=0)) (.ret (.exit 1,⟨[],[]⟩)) (.ret (.ret,⟨[(2,vI (M.ffI (F.risF l) (l.zipIdx.drop k)))],[]⟩))

noncomputable def prlRsf (l:List Int) (k:Nat):Bool:=decide (l.length≤1000)&&decide (k≤l.length)

noncomputable def lpRsf:Nat×(St→T (Ex×St)):=(6,lpo [15,14,13,0] [] stRsf1 (fun a=>prlRsf a.1 a.2) fun a=>outRsf a.1 a.2)

noncomputable def enRsf:Env:=envH ty noG lks [oNoTm] [] [] [lpRsf]

theorem enRsf_ok:EnvOK Tryz.prog enRsf:=by
 refine envH_ok lks_ok ty_ok ?_ ?_
 ·simp only[List.forall_mem_cons]
  exact⟨okNoTm,by simp⟩
 ·simp

theorem evRsfL (l:List Int) (k:Nat):((exec enRsf (loopN Tryz.f101 0) (stRsf l k)).bind (lessX ([15,14,13,0],[]) ([],[]) ([2],[]))).val =
 bif decide ((↑k:Int)<(↑(List.length l):Int)) then Option.bind (unenc (List.map eI) (List.map eI l)) fun z=>bif decide (k<List.length z) then
 Option.bind (unenc encNoTm [(vI (List.getD z k 0))]) fun z_1=>bif F.noTm z_1 then some (Ex.ret,St.mk [(2,(vI 1))] []) else bif decide ((0 :
 Int)<(↑k:Int)) then Option.bind (idx (IntKind.i64.wrap ((↑k:Int) - (1:Int)))) fun z_2=>Option.bind (unenc (List.map eI) (List.map eI l)) fun(z_3
 : List Int)=>bif decide (z_2<List.length z_3) then bif decide (List.getD z k 0≤List.getD z_3 z_2 0) then some (Ex.ret,St.mk [(2,(vI 8))]
 []) else some (Ex.normal,St.mk [(15,(vI (IntKind.i64.wrap ((↑k:Int)+1)))),(14,(vI (↑(List.length l):Int))),(13,AV.sl (List.map eI l)),(0,
 AV.sl (List.map eI l))] []) else none else some (Ex.normal,St.mk [(15,(vI (IntKind.i64.wrap ((↑k:Int)+1)))),(14,(vI (↑(List.length l):Int))),
 (13,AV.sl (List.map eI l)),(0,AV.sl (List.map eI l))] []) else none else some (Ex.exit (1:Nat),St.mk [] []):=(execR_bind _ _ _).symm.trans (by kernel_rfl)

theorem lpRsf_ok (l:List Int) (k:Nat) (hp:prlRsf l k=true) : ∀ex s',(outRsf l k).val=some (ex,s')→LoopOK enRsf (loopN Tryz.f101 0) (stRsf l k) ex s':=by
 simp only[prlRsf,Bool.and_eq_true,decide_eq_true_eq]at hp
 refine loop_code (xs:=l.zipIdx) (st:=stRsf l) (g:=F.risF l) (o:=fun c=>(.ret,⟨[(2,vI c)],[]⟩)) (n:=([15,14,13,0],[])) (e:=([],[])) (r:=([2],[])) ?_ ⟨by simp,rfl⟩ (fun _=>⟨by simp,rfl⟩) (fun _=>rfl) ?_ k (by simp;exact hp.2)
 ·rw[evRsfL];simp
 ·intro k y hy
  obtain⟨ha,hk⟩:=F.zipIdx_at hy
  have hlt:=lt_at ha
  have h1:=hp.1
  have hd:decide (k - 1<l.length)=true:=decide_eq_true (by omega)
  unfold F.risF
  rw[hk]
  rw[evRsfL]
  by_cases h0:0<k
  ·have hi:=idx_pred h0 (by omega:k≤9223372036854775807)
   simp only[unNoTm,Option.bind_some,unInts,cond_true,Bool.true_and,cast_lt hlt,decide_eq_true hlt,next_at hlt (by omega:l.length≤9223372036854775807),getD_at ha,stRsf,hi,hd,decide_eq_true h0,decide_eq_true (show(0:Int)<(k:Int) by omega)]
   generalize F.noTm y.1=a1
   generalize decide (y.1≤l.getD (k - 1) 0)=a2
   cases a1<;>cases a2<;>rfl
  ·simp only[unNoTm,Option.bind_some,unInts,cond_true,cond_false,cast_lt hlt,decide_eq_true hlt,next_at hlt (by omega:l.length≤9223372036854775807),getD_at ha,stRsf,decide_eq_false h0,decide_eq_false (show ¬(0:Int)<(k:Int) by omega)]
   generalize F.noTm y.1=a1
   cases a1<;>rfl

theorem evRsf (l:List Int):(runF enRsf false Tryz.f101 [.sl (l.map eI)]).val =
 bif (↑(List.length (List.map eI l)):Int)==0 then some ((vI 9),[]) else bif decide ((1000:Int)<(↑(List.length (List.map eI l)):Int)) then some
 ((vI 2),[]) else Option.bind (unenc stRsf1 (St.mk [(15,(vI 0)),(14,(vI (↑(List.length (List.map eI l)):Int))),(13,AV.sl (List.map eI l)),(0,AV.sl
 (List.map eI l))] [])) fun z=>bif decide (List.length z.1≤1000)&&decide (z.2≤List.length z.1)&&true then bif decide (ffI (F.risF
 z.1) (List.drop z.2 (List.zipIdx z.1))=(0:Int)) then some ((vI 0),[]) else some ((vI (ffI (F.risF z.1) (List.drop z.2 (List.zipIdx z.1)))),[])
 else none:=(runFR_val).symm.trans (by kernel_rfl)

def encRsf1 (l:List Int):List AV:=[.sl (l.map eI)]

def encRsf (a:(List Int)):List AV:=encRsf1 a

theorem encRsf_inj (a a':(List Int)) (h:encRsf a=encRsf a'):a=a':=by
 simp only[encRsf,encRsf1]at h
 try simp[ints_inj]at h
 grind

theorem unRsf (l:List Int):unenc encRsf ([AV.sl (List.map eI l)])=some (l):=unenc_of encRsf_inj (l) rfl

def resRsf1 (l:List Int):AV×Heap:=(vI (F.risE l),[])

def preRsf1 (l:List Int):Bool:=true

noncomputable def oRsf:Orc:=orc 101 true encRsf (fun a=>preRsf1 a) fun a=>resRsf1 a

theorem okRsf:OrcOK Tryz.prog noG oRsf:=by
 refine mk_ok Tryz.f101 (keep:=false) (by kernel_rfl) (by kernel_rfl) enRsf_ok mixed (one_loop (x0:=loopN Tryz.f101 0) (by kernel_rfl) (lpo_ok ?_)) (by first | exact fun _ _=>⟨rfl,rfl⟩ | (intro h;cases h)) ?_
 ·rintro⟨l,k⟩ hp
  exact lpRsf_ok l k hp
 rintro l hpre hok
 show(runF enRsf false _ (encRsf1 _)).val=some (resRsf1 _)
 unfold encRsf1 resRsf1
 rw[evRsf]
 simp only[unstRsf0,Option.bind_some,List.length_map,Bool.and_true,List.length_map]
 unfold F.risE F.lt
 rw[int_nat0]
 by_cases h1:l.length=0
 ·rw[decide_eq_true h1];rfl
 rw[decide_eq_false h1]
 by_cases h2:(1000:Int)<l.length
 ·rw[decide_eq_true h2];rfl
 rw[decide_eq_false h2]
 simp only[cond_false,decide_eq_true (show l.length≤1000 by omega),Nat.zero_le,decide_true,Bool.and_self,cond_true,List.drop_zero]
 by_cases h3:M.ffI (F.risF l) l.zipIdx=0
 ·rw[h3];rfl
 ·rw[decide_eq_false h3];rfl

noncomputable def enWsf:Env:=envH ty noG lks [oNoS,oOut,oRsf] [] [] []

theorem enWsf_ok:EnvOK Tryz.prog enWsf:=by
 refine envH_ok lks_ok ty_ok ?_ ?_
 ·simp only[List.forall_mem_cons]
  exact⟨okNoS,okOut,okRsf,by simp⟩
 ·simp

theorem evWsf (l:List Int) (w:Wsh):(runF enWsf false Tryz.f98 [.sl (l.map eI), .agg (eWsh w)]).val =
 Option.bind (unenc encNoS [(vI w.scale)]) fun z=>bif !F.noScale z then Option.bind (unenc encOut [(vI w.target),(vI 1),(vI 50000000)]) fun(z :
 Int×Int×Int)=>bif !F.out z.1 z.2.1 z.2.2 then Option.bind (unenc encOut [(vI w.most),(vI w.target),(vI 50000000)]) fun z=>
 bif F.out z.1 z.2.1 z.2.2 then some ((vI 1),[]) else Option.bind (unenc encRsf [AV.sl (List.map eI l)]) fun z=>some ((vI (F.risE z)),[])
 else some ((vI 1),[]) else some ((vI 1),[]):=(runFR_val).symm.trans (by kernel_rfl)

def encWsf1 (l:List Int) (w:Wsh):List AV:=[.sl (l.map eI), .agg (eWsh w)]

def encWsf (a:(List Int)×Wsh):List AV:=encWsf1 a.1 a.2

theorem encWsf_inj (a a':(List Int)×Wsh) (h:encWsf a=encWsf a'):a=a':=by
 simp only[encWsf,encWsf1]at h
 try simp[ints_inj,eWsh_iff]at h
 grind

theorem unWsfw (l:List Int) (w_scale:Int) (w_target:Int) (w_most:Int):unenc encWsf ([AV.sl (List.map eI l),AV.agg [(vI w_scale),(vI w_target),(vI w_most)]])=some (l,(Wsh.mk w_scale w_target w_most)):=unenc_of encWsf_inj (l,(Wsh.mk w_scale w_target w_most)) rfl

def resWsf1 (l:List Int) (w:Wsh):AV×Heap:=(vI (F.wshE l w),[])

def preWsf1 (l:List Int) (w:Wsh):Bool:=true

noncomputable def oWsf:Orc:=orc 98 true encWsf (fun a=>preWsf1 a.1 a.2) fun a=>resWsf1 a.1 a.2

theorem okWsf:OrcOK Tryz.prog noG oWsf:=by
 refine mk_ok Tryz.f98 (keep:=false) (by kernel_rfl) (by kernel_rfl) enWsf_ok mixed (no_loops (by kernel_rfl)) (by first | exact fun _ _=>⟨rfl,rfl⟩ | (intro h;cases h)) ?_
 rintro⟨l,w⟩ hpre hok
 show(runF enWsf false _ (encWsf1 _ _)).val=some (resWsf1 _ _)
 unfold encWsf1 resWsf1
 rw[evWsf]
 simp only[unNoS,unOut,unRsf,Option.bind_some]
 unfold F.wshE
 cases F.noScale w.scale<;>cases F.out w.target 1 50000000<;>cases F.out w.most w.target 50000000<;>rfl

def stPlw (ps:List Int) (w:Wsh) (bs:List Pln) (i:Nat) (p:Pln) (k:Nat):St:=⟨[(13,vI k),(12, .ptr 12 0 0),(11, .fn 146 [.ptr 5 0 0, .ptr 9 0 0, .ptr 7 0 0]),(10, .ptr 10 0 0),(9, .ptr 9 0 0),(7, .ptr 7 0 0),(5, .ptr 5 0 0),(3, .sl (bs.map ePln))],[(12,⟨true,0,0,[ePln p]⟩),(10,⟨true,0,0,[ePln F.pl0]⟩),(9,⟨true,0,0,[[vI i]]⟩),(7,⟨true,0,0,[eWsh w]⟩),(5,⟨true,0,0,[[.sl (ps.map eI)]]⟩)]⟩

def stPlw1 (a:(List Int)×Wsh×(List Pln)×Nat×Pln×Nat):St:=stPlw a.1 a.2.1 a.2.2.1 a.2.2.2.1 a.2.2.2.2.1 a.2.2.2.2.2

theorem stPlw_inj (a a':(List Int)×Wsh×(List Pln)×Nat×Pln×Nat) (h:stPlw1 a=stPlw1 a'):a=a':=by
 simp only[stPlw1,stPlw]at h
 try simp[ints_inj,eWsh_iff,ePlns_inj,ePln_iff]at h
 grind

theorem unstPlw (ps:List Int) (w:Wsh) (bs:List Pln) (i:Nat) (p:Pln) (k:Nat):unenc stPlw1 (St.mk [(13,(vI (↑k:Int))),(12, .ptr 12 0 0),(11,AV.fn (146:FuncId) [.ptr 5 0 0, .ptr 9 0 0, .ptr 7 0 0]),(10, .ptr 10 0 0),(9, .ptr 9 0 0),(7, .ptr 7 0 0),(5,
 .ptr 5 0 0),(3,AV.sl (List.map ePln bs))] [(12,Blk.mk true 0 0 [[(vB p.can),(vI p.sum),(vI p.many),(vI p.next)]]),(10,Blk.mk true 0 0 [[(vB false),(vI (0:Int)),
 (vI (0:Int)),(vI (0:Int))]]),(9,Blk.mk true 0 0 [[(vI (↑i:Int))]]),(7,Blk.mk true 0 0 [[(vI w.scale),(vI w.target),(vI w.most)]]),(5,Blk.mk true 0 0 [[AV.sl
 (List.map eI ps)]])])=some (ps,w,bs,i,p,k):=unenc_of stPlw_inj (ps,w,bs,i,p,k) rfl

def outPlw (ps:List Int) (w:Wsh) (bs:List Pln) (i:Nat) (p:Pln) (k:Nat):T (Ex×St):= .ret (.exit 0,⟨[(12, .ptr 12 0 0),(10, .ptr 10 0 0)],[(12,⟨true,0,0,[ePln (F.ploop ps w bs i (ps.length - k) k p)]⟩),(10,⟨true,0,0,[ePln F.pl0]⟩)]⟩)

noncomputable def prlPlw (ps:List Int) (w:Wsh) (bs:List Pln) (i:Nat) (p:Pln) (k:Nat):Bool:=decide (ps.length≤1000)&&(decide (bs.length=ps.length)&&(decide (i<ps.length)&&decide (k≤ps.length)))

noncomputable def lpPlw:Nat×(St→T (Ex×St)):=(6,lpo [13,12,11,10,9,7,5,3] [12,10,9,7,5] stPlw1 (fun a=>prlPlw a.1 a.2.1 a.2.2.1 a.2.2.2.1 a.2.2.2.2.1 a.2.2.2.2.2) fun a=>outPlw a.1 a.2.1 a.2.2.1 a.2.2.2.1 a.2.2.2.2.1 a.2.2.2.2.2)

noncomputable def enPlw:Env:=envH ty noG lks [oSq] [] [] [lpPlw]

theorem enPlw_ok:EnvOK Tryz.prog enPlw:=by
 refine envH_ok lks_ok ty_ok ?_ ?_
 ·simp only[List.forall_mem_cons]
  exact⟨okSq,by simp⟩
 ·simp

theorem ploop_go {ps:List Int} {w:Wsh} {bs:List Pln} {i k:Nat} {p:Pln} (h:k<ps.length):F.ploop ps w bs i (ps.length - k) k p=bif F.pnear ps w i k then F.ploop ps w bs i (ps.length - (k+1)) (k+1) (F.pstep ps w bs i k p) else p:=by
 obtain⟨m,hm⟩ : ∃m,ps.length - k=m+1:=⟨ps.length - k - 1,by omega⟩
 rw[hm,show ps.length - (k+1)=m by omega]
 rfl

theorem evPlwL (ps:List Int) (w:Wsh) (bs:List Pln) (i:Nat) (p:Pln) (k:Nat):((exec enPlw (loopN Tryz.f100 0) (stPlw ps w bs i p k)).bind (lessX ([13,12,11,10,9,7,5,3],[12,10,9,7,5]) ([12,10],[12,10]) ([],[]))).val =
 (fun(q:Pln)=>(fun(q_1:List AV)=>(fun(q_2:Nat×Blk)=>(fun(q_3:Nat×Blk)=>(fun(q_4:List (Nat×AV))=>(fun(q_5:Option (Ex×St))=>(fun(q_6 :
 List (Nat×Blk))=>(fun(q_7:Option (Ex×St))=>bif decide ((↑k:Int)<(↑(List.length (List.map eI ps)):Int)) then Option.bind (unenc (List.map eI) (List.map eI
 ps)) fun z=>bif decide (k<List.length z) then Option.bind (unenc (List.map eI) (List.map eI ps)) fun z_1=>bif decide (i<List.length z_1)
 then bif decide (IntKind.i64.wrap (List.getD z k 0 - List.getD z_1 i 0)≤w.most) then Option.bind (unenc (List.map ePln) (List.map ePln bs)) fun
 (z:List Pln)=>bif decide (k<List.length z) then bif !(List.getD z k q).can then q_7 else Option.bind (unenc (List.map eI) (List.map eI ps)) fun z=>bif
 decide (k<List.length z) then Option.bind (unenc encSq [(vI (List.getD z k 0)),AV.pel [AV.sl (List.map eI ps)] (0:Nat),AV.pel [(vI (↑i:Int))] (0:Nat),
 AV.pel q_1 (0:Nat)]) fun z=>(fun(q_8:Int)=>bif decide (z.2.2.1<List.length z.2.1) then Option.bind (unenc (List.map
 ePln) (List.map ePln bs)) fun z=>(fun(q_9:Int)=>bif decide (k<List.length z) then Option.bind (unenc (List.map ePln) (List.map ePln bs)) fun(z :
 List Pln)=>(fun(q:Int)=>bif decide (k<List.length z) then bif bif bif !p.can then true else decide (q_9<p.sum) then true else bif q_9==p.sum then decide (q <
 p.many) else false then some (Ex.normal,St.mk q_4 ((12,Blk.mk true 0 0 [[(vB true),(vI q_9),(vI q),(vI (↑k:Int))]])::q_6)) else q_7 else none) (IntKind.wrap
 IntKind.i64 ((List.getD z k q).many+1)) else none) (IntKind.i64.wrap (q_8+(List.getD z k q).sum)) else none) (F.sq (List.getD z.2.1 z.2.2.1
 (0:Int)) z.2.2.2.target z.1) else none else none else q_5 else none else none else q_5) (some (Ex.normal,St.mk q_4 (q_3::q_6)))) [q_2,(9,Blk.mk true 0 0
 [[(vI (↑i:Int))]]),(7,Blk.mk true 0 0 [q_1]),(5,Blk.mk true 0 0 [[AV.sl (List.map eI ps)]])]) (some (Ex.exit (0:Nat),St.mk [(12, .ptr 12 0 0),(10, .ptr 10 0 0)]
 [q_3,q_2]))) [(13,(vI (IntKind.i64.wrap ((↑k:Int)+1)))),(12, .ptr 12 0 0),(11,AV.fn (146:FuncId) [.ptr 5 0 0, .ptr 9 0 0, .ptr 7 0 0]),(10,
 .ptr 10 0 0),(9, .ptr 9 0 0),(7, .ptr 7 0 0),(5, .ptr 5 0 0),(3,AV.sl (List.map ePln bs))]) (12,Blk.mk true 0 0 [[(vB p.can),(vI p.sum),(vI p.many),(vI
 p.next)]])) (10,Blk.mk true 0 0 [[(vB false),(vI 0),(vI 0),(vI 0)]])) [(vI w.scale),(vI w.target),(vI w.most)]) (Pln.mk false (0:Int) (0 :
 Int) (0:Int)):=(execR_bind _ _ _).symm.trans (by kernel_rfl)

theorem lpPlw_ok (ps:List Int) (w:Wsh) (bs:List Pln) (i:Nat) (p:Pln) (k:Nat) (hp:prlPlw ps w bs i p k=true) : ∀ex s',(outPlw ps w bs i p k).val=some (ex,s')→LoopOK enPlw (loopN Tryz.f100 0) (stPlw ps w bs i p k) ex s':=by
 simp only[prlPlw,Bool.and_eq_true,decide_eq_true_eq]at hp
 obtain⟨h1,h2,h3,h4⟩:=hp
 refine loop_gen (st:=fun a:Pln×Nat=>stPlw ps w bs i a.1 a.2) (out:=fun a=>outPlw ps w bs i a.1 a.2) (I:=fun a=>a.2≤ps.length) (n:=([13,12,11,10,9,7,5,3],[12,10,9,7,5])) (e:=([12,10],[12,10])) (r:=([],[])) (fun a=>ps.length - a.2) ?_ (p,k) h4
 clear h4 p k
 rintro⟨p,k⟩ h4
 simp only at h4
 by_cases hlt:k<ps.length
 ·have hN:=next_at hlt (by omega:ps.length≤9223372036854775807)
  have hi:decide (i<ps.length)=true:=decide_eq_true h3
  have hb:decide (k<bs.length)=true:=decide_eq_true (by omega)
  have hg:=ploop_go (ps:=ps) (w:=w) (bs:=bs) (i:=i) (k:=k) (p:=p) hlt
  cases hn:F.pnear ps w i k
  ·left
   have hn2:=hn
   unfold F.pnear at hn2
   rw[hn]at hg
   refine⟨_,?_,rfl,by simp,rfl⟩
   rw[evPlwL]
   simp only[unSqw,etaWsh,Option.bind_some,List.length_map,unInts,unPlns,cond_true,cond_false,cast_lt hlt,decide_eq_true hlt,hi,hn2,hg]
   try rfl
  ·right
   have hn2:=hn
   unfold F.pnear at hn2
   rw[hn]at hg
   refine⟨(F.pstep ps w bs i k p,k+1),?_,rfl,hlt,by simp only;omega,?_⟩
   ·rw[evPlwL]
    simp only[unSqw,etaWsh,Option.bind_some,List.length_map,unInts,unPlns,cond_true,cast_lt hlt,decide_eq_true hlt,hi,hn2,hb,hN]
    unfold F.pstep F.pbet F.pq F.pl0
    cases(bs.getD k ⟨false,0,0,0⟩).can
    ·rfl
    ·simp only[Bool.not_true,cond_false]
     obtain⟨pc,p1,p2,p3⟩:=p
     cases pc
     ·rfl
     ·simp only[Bool.not_true,cond_false,Bool.false_or]
      generalize IntKind.i64.wrap (F.sq (ps.getD i 0) w.target (ps.getD k 0)+(bs.getD k ⟨false,0,0,0⟩).sum)=x
      generalize IntKind.i64.wrap ((bs.getD k ⟨false,0,0,0⟩).many+1)=y
      cases decide (x<p1)<;>cases(x==p1)<;>cases decide (y<p2)<;>rfl
   ·simp only[outPlw,hg,cond_true]
 ·left
  have hk:k=ps.length:=by omega
  subst hk
  refine⟨_,?_,rfl,by simp,rfl⟩
  rw[evPlwL]
  simp only[unSqw,etaWsh,Option.bind_some,List.length_map,unInts,unPlns,cond_false,cast_ge,Nat.sub_self,F.ploop]
  try rfl

theorem evPlw (ps:List Int) (fin:Int) (w:Wsh) (bs:List Pln) (i:Nat):(runF enPlw false Tryz.f100 [.sl (ps.map eI),vI fin, .agg (eWsh w), .sl (bs.map ePln),vI i]).val =
 (fun(q:List AV)=>(fun(q_1:Blk)=>(fun(q_2:List (Nat×AV))=>(fun(q_3:List (Nat×Blk))=>Option.bind (unenc (List.map eI) (List.map eI ps)) fun z=>bif decide (i<List.length z) then bif decide (IntKind.i64.wrap (fin - List.getD z i 0)≤w.most) then Option.bind (unenc encSq [(vI fin),AV.pel
 [AV.sl (List.map eI ps)] (0:Nat),AV.pel [(vI (↑i:Int))] (0:Nat),AV.pel q (0:Nat)]) fun z=>bif decide (z.2.2.1 <
 List.length z.2.1) then Option.bind (unenc stPlw1 (St.mk q_2 ((12,Blk.mk true 0 0 [[(vB true),(vI (F.sq (List.getD z.2.1 z.2.2.1 (0:Int))
 z.2.2.2.target z.1)),(vI 1),(vI (-1:Int))]])::q_3))) fun z=>(fun(q:Pln)=>bif decide
 (List.length z.1≤1000)&&(decide (List.length z.2.2.1=List.length z.1)&&(decide (z.2.2.2.1<List.length z.1)&&decide
 (z.2.2.2.2.2≤List.length z.1)))&&true then some (AV.agg [(vB q.can),(vI q.sum),(vI q.many),(vI q.next)],[]) else none) (F.ploop z.1 z.2.1
 z.2.2.1 z.2.2.2.1 (List.length z.1 - z.2.2.2.2.2) z.2.2.2.2.2 z.2.2.2.2.1) else none else Option.bind (unenc stPlw1 (St.mk
 q_2 ((12,q_1)::q_3))) fun z=>(fun(q:Pln)=>bif decide (List.length z.1≤1000)&&(decide (List.length
 z.2.2.1=List.length z.1)&&(decide (z.2.2.2.1<List.length z.1)&&decide (z.2.2.2.2.2≤List.length z.1)))&&true then some (AV.agg
 [(vB q.can),(vI q.sum),(vI q.many),(vI q.next)],[]) else none) (F.ploop z.1 z.2.1 z.2.2.1 z.2.2.2.1 (List.length z.1 - z.2.2.2.2.2)
 z.2.2.2.2.2 z.2.2.2.2.1) else none) [(10,q_1),(9,Blk.mk true 0 0 [[(vI (↑i:Int))]]),(7,Blk.mk true 0 0 [q]),(5,Blk.mk true 0 0 [[AV.sl
 (List.map eI ps)]])]) [(13,(vI (IntKind.i64.wrap ((↑i:Int)+1)))),(12, .ptr 12 0 0),(11,AV.fn (146:Nat) [.ptr 5 0 0, .ptr 9 0 0, .ptr 7 0 0]),
 (10, .ptr 10 0 0),(9, .ptr 9 0 0),(7, .ptr 7 0 0),(5, .ptr 5 0 0),(3,AV.sl (List.map ePln bs))]) (Blk.mk true 0 0 [[(vB false),(vI 0),(vI 0),(vI 0)]])) [(vI w.scale),(vI w.target),(vI w.most)]:=(runFR_val).symm.trans (by kernel_rfl)

def encPlw1 (ps:List Int) (fin:Int) (w:Wsh) (bs:List Pln) (i:Nat):List AV:=[.sl (ps.map eI),vI fin, .agg (eWsh w), .sl (bs.map ePln),vI i]

def encPlw (a:(List Int)×Int×Wsh×(List Pln)×Nat):List AV:=encPlw1 a.1 a.2.1 a.2.2.1 a.2.2.2.1 a.2.2.2.2

theorem encPlw_inj (a a':(List Int)×Int×Wsh×(List Pln)×Nat) (h:encPlw a=encPlw a'):a=a':=by
 simp only[encPlw,encPlw1]at h
 try simp[ints_inj,eWsh_iff,ePlns_inj]at h
 grind

theorem unPlww (ps:List Int) (fin:Int) (w_scale:Int) (w_target:Int) (w_most:Int) (bs:List Pln) (i:Nat):unenc encPlw ([AV.sl (List.map eI ps),(vI fin),AV.agg [(vI w_scale),(vI w_target),(vI w_most)],AV.sl (List.map ePln bs),(vI (↑i:Int))])=some (ps,fin,(Wsh.mk w_scale w_target w_most),bs,i):=unenc_of encPlw_inj (ps,fin,(Wsh.mk w_scale w_target w_most),bs,i) rfl

def resPlw1 (ps:List Int) (fin:Int) (w:Wsh) (bs:List Pln) (i:Nat):AV×Heap:=(.agg (ePln (F.plan ps fin w bs i)),[])

def prePlw1 (ps:List Int) (fin:Int) (w:Wsh) (bs:List Pln) (i:Nat):Bool:=decide (ps.length≤1000)&&(decide (bs.length=ps.length)&&decide (i<ps.length))

noncomputable def oPlw:Orc:=orc 100 true encPlw (fun a=>prePlw1 a.1 a.2.1 a.2.2.1 a.2.2.2.1 a.2.2.2.2) fun a=>resPlw1 a.1 a.2.1 a.2.2.1 a.2.2.2.1 a.2.2.2.2

theorem okPlw:OrcOK Tryz.prog noG oPlw:=by
 refine mk_ok Tryz.f100 (keep:=false) (by kernel_rfl) (by kernel_rfl) enPlw_ok mixed (one_loop (x0:=loopN Tryz.f100 0) (by kernel_rfl) (lpo_ok ?_)) (by first | exact fun _ _=>⟨rfl,rfl⟩ | (intro h;cases h)) ?_
 ·rintro⟨ps,w,bs,i,p,k⟩ hp
  exact lpPlw_ok ps w bs i p k hp
 rintro⟨ps,fin,w,bs,i⟩ hpre hok
 show(runF enPlw false _ (encPlw1 _ _ _ _ _)).val=some (resPlw1 _ _ _ _ _)
 unfold encPlw1 resPlw1
 rw[evPlw]
 simp only[prePlw1,Bool.and_eq_true,decide_eq_true_eq]at hpre
 obtain⟨h1,h2,h3⟩:=hpre
 have hN:=next_at h3 (by omega:ps.length≤9223372036854775807)
 have z : ∀p:Pln,unenc stPlw1 (St.mk [(13,(vI ((i+1:Nat):Int))),(12, .ptr 12 0 0),(11,AV.fn 146 [.ptr 5 0 0, .ptr 9 0 0, .ptr 7 0 0]),(10, .ptr 10 0 0),(9, .ptr 9 0 0),(7, .ptr 7 0 0),(5, .ptr 5 0 0),(3,AV.sl (List.map ePln bs))] [(12,Blk.mk true 0 0 [[(vB p.can),(vI p.sum),(vI p.many),(vI p.next)]]),(10,Blk.mk true 0 0 [[(vB false),(vI 0),(vI 0),(vI 0)]]),(9,Blk.mk true 0 0 [[(vI (i:Int))]]),(7,Blk.mk true 0 0 [[(vI w.scale),(vI w.target),(vI w.most)]]),(5,Blk.mk true 0 0 [[AV.sl (List.map eI ps)]])])=some (ps,w,bs,i,p,i+1):=fun p=>unstPlw ps w bs i p (i+1)
 have z1:=z ⟨true,F.sq (ps.getD i 0) w.target fin,1, -1⟩
 have z2:=z F.pl0
 simp only at z1
 unfold F.pl0 at z2
 simp only at z2
 unfold F.plan F.pini F.pl0
 simp only[unSqw,etaWsh,Option.bind_some,unInts,cond_true,Bool.and_true,decide_eq_true h3,hN,unSqw]
 cases decide (IntKind.i64.wrap (fin - ps.getD i 0)≤w.most)
 ·simp only[cond_false]
  try rw[z2]
  simp only[Option.bind_some,h1,h2,h3,decide_true,decide_eq_true (show i+1≤ps.length by omega),Bool.and_self,cond_true]
  try rfl
 ·simp only[cond_true]
  try rw[z1]
  simp only[Option.bind_some,h1,h2,h3,decide_true,decide_eq_true (show i+1≤ps.length by omega),Bool.and_self,cond_true]
  try rfl

end M

def F.fill (ps:List Int) (fin:Int) (w:Wsh):Nat→List Pln→List Pln
 | 0,bs=>bs
 | j+1,bs=>F.fill ps fin w j (bs.set j (F.plan ps fin w bs j))

def F.best (ps:List Int) (fin:Int) (w:Wsh):List Pln:=F.fill ps fin w ps.length (List.replicate ps.length F.pl0)

def F.chain (ps:List Int) (bs:List Pln):Nat→Int→List Int
 | 0,_=>[]
 | n+1,i=>bif decide (0≤i) then ps.getD i.toNat 0::F.chain ps bs n (bs.getD i.toNat F.pl0).next else []

def F.cho (ps:List Int) (fin:Int) (w:Wsh):List Int×Int×Int:=
 bif F.wshE ps w != 0 then ([],0,F.wshE ps w) else bif F.noTm fin then ([],0,1) else bif decide (fin≤ps.getD (ps.length - 1) 0) then ([],0,8) else
 bif decide (1000000000000<IntKind.i64.wrap (fin - ps.getD 0 0)) then ([],0,1) else bif !((F.best ps fin w).getD 0 F.pl0).can then ([],0,9) else
 (F.chain ps (F.best ps fin w) (ps.length+1) 0,((F.best ps fin w).getD 0 F.pl0).sum,0)

def F.pall (n j:Nat) (bs:List Pln):Prop:=bs.length=n ∧ ∀k,j≤k→k<n→F.pgood bs k n (bs.getD k F.pl0)

theorem F.pall_set {ps:List Int} {fin:Int} {w:Wsh} {bs:List Pln} {j:Nat} (h:F.pall ps.length (j+1) bs) (hj:j<ps.length):F.pall ps.length j (bs.set j (F.plan ps fin w bs j)):=by
 obtain⟨h1,h2⟩:=h
 have hset : ∀m:Nat,j<m→(bs.set j (F.plan ps fin w bs j)).getD m F.pl0=bs.getD m F.pl0:=fun m hm=>by
  simp only[List.getD,List.getElem?_set]
  rw[if_neg (by omega)]
 refine⟨by rw[List.length_set];exact h1,fun k hk hkn=>?_⟩
 by_cases hkj:k=j
 ·subst hkj
  have e:(bs.set k (F.plan ps fin w bs k)).getD k F.pl0=F.plan ps fin w bs k:=by
   simp only[List.getD,List.getElem?_set]
   rw[if_pos trivial,if_pos (by omega)]
   rfl
  rw[e]
  intro hc
  rcases F.plan_good (fin:=fin) (w:=w) (bs:=bs) hkn hc with h | ⟨a,b,c⟩
  ·exact .inl h
  ·right
   refine⟨a,b,?_⟩
   rw[hset _ (by omega)];exact c
 ·rw[hset k (by omega)]
  intro hc
  rcases h2 k (by omega) hkn hc with h | ⟨a,b,c⟩
  ·exact .inl h
  ·right
   refine⟨a,b,?_⟩
   rw[hset _ (by omega)];exact c

theorem F.fill_ok {ps:List Int} {fin:Int} {w:Wsh} : ∀(j:Nat) {bs:List Pln},F.pall ps.length j bs→j≤ps.length→F.pall ps.length 0 (F.fill ps fin w j bs)
 | 0,_,h,_=>h
 | j+1,bs,h,hj=>F.fill_ok j (F.pall_set h hj) (by omega)

theorem F.best_ok (ps:List Int) (fin:Int) (w:Wsh):F.pall ps.length 0 (F.best ps fin w):=
 F.fill_ok _ ⟨List.length_replicate,fun k h1 h2=>absurd h2 (by omega)⟩ (Nat.le_refl _)

theorem F.chain_end (ps:List Int) (bs:List Pln) (n:Nat):F.chain ps bs n (-1)=[]:=by cases n<;>rfl

theorem F.chain_fuel {ps:List Int} {bs:List Pln} (h:F.pall ps.length 0 bs) : ∀(n m:Nat) (i:Int),0≤i→i<ps.length→(bs.getD i.toNat F.pl0).can=true→(ps.length:Int)≤i+n→(ps.length:Int)≤i+m→F.chain ps bs n i=F.chain ps bs m i
 | 0,_,i,_,h2,_,h4,_=>by omega
 | _,0,i,_,h2,_,_,h5=>by omega
 | n+1,m+1,i,h1,h2,h3,h4,h5=>by
  unfold F.chain
  rw[decide_eq_true h1]
  simp only[cond_true,List.cons.injEq,true_and]
  rcases h.2 i.toNat (Nat.zero_le _) (by omega) h3 with e | ⟨a,b,c⟩
  ·rw[e,F.chain_end,F.chain_end]
  ·exact F.chain_fuel h n m _ (by omega) b c (by omega) (by omega)

theorem F.chain_go {ps:List Int} {bs:List Pln} (h:F.pall ps.length 0 bs) {i:Int} (h1:0≤i) (h2:i<ps.length) (h3:(bs.getD i.toNat F.pl0).can=true) :
  F.chain ps bs (ps.length+1) i=ps.getD i.toNat 0::F.chain ps bs (ps.length+1) (bs.getD i.toNat F.pl0).next:=by
 conv=>lhs;unfold F.chain
 rw[decide_eq_true h1]
 simp only[cond_true,List.cons.injEq,true_and]
 rcases h.2 i.toNat (Nat.zero_le _) (by omega) h3 with e | ⟨a,b,c⟩
 ·rw[e,F.chain_end,F.chain_end]
 ·exact F.chain_fuel h _ _ _ (by omega) b c (by omega) (by omega)

noncomputable def F.pallB (n:Nat) (bs:List Pln):Bool:=@decide (F.pall n 0 bs) (Classical.propDecidable _)

theorem F.risE_ok {l:List Int} (h:F.risE l=0):1≤l.length∧l.length≤1000:=by
 unfold F.risE F.lt at h
 by_cases h1:l.length=0
 ·rw[decide_eq_true h1]at h;simp at h
 ·rw[decide_eq_false h1]at h
  by_cases h2:(1000:Int)<l.length
  ·rw[decide_eq_true h2]at h;simp at h
  ·omega

theorem F.wshE_ok {l:List Int} {w:Wsh} (h:F.wshE l w=0):F.risE l=0:=by
 unfold F.wshE at h
 cases hc:F.noScale w.scale||(F.out w.target 1 50000000||F.out w.most w.target 50000000)with
 | true=>rw[hc]at h;simp at h
 | false=>rw[hc]at h;exact h

namespace M

def stCho (ps:List Int) (fin:Int) (w:Wsh) (bs:List Pln) (j:Nat):St:=⟨[(12,vI ((j:Int) - 1)),(11, .own 42),(5, .ptr 5 0 0),(1,vI fin),(0, .sl (ps.map eI))],[(42,⟨false,154,4,bs.map ePln⟩),(5,⟨true,0,0,[eWsh w]⟩)]⟩

def stCho1 (a:(List Int)×Int×Wsh×(List Pln)×Nat):St:=stCho a.1 a.2.1 a.2.2.1 a.2.2.2.1 a.2.2.2.2

theorem stCho_inj (a a':(List Int)×Int×Wsh×(List Pln)×Nat) (h:stCho1 a=stCho1 a'):a=a':=by
 simp only[stCho1,stCho]at h
 try simp[ints_inj,eWsh_iff,ePlns_inj]at h
 grind

theorem unstCho (ps:List Int) (fin:Int) (w:Wsh) (bs:List Pln) (j:Nat):unenc stCho1 (St.mk [(12,(vI ((↑j:Int) - (1:Int)))),(11, .own 42),(5, .ptr 5 0 0),(1,(vI fin)),(0,AV.sl (List.map eI ps))] [(42,Blk.mk false 154 4 (List.map ePln bs)),(5,
 Blk.mk true 0 0 [[(vI w.scale),(vI w.target),(vI w.most)]])])=some (ps,fin,w,bs,j):=unenc_of stCho_inj (ps,fin,w,bs,j) rfl

def outCho (ps:List Int) (fin:Int) (w:Wsh) (bs:List Pln) (j:Nat):T (Ex×St):= .ret (.exit 1,⟨[(11, .own 42),(0, .sl (ps.map eI))],[(42,⟨false,154,4,(F.fill ps fin w j bs).map ePln⟩)]⟩)

noncomputable def prlCho (ps:List Int) (fin:Int) (w:Wsh) (bs:List Pln) (j:Nat):Bool:=decide (ps.length≤1000)&&(decide (bs.length=ps.length)&&decide (j≤ps.length))

noncomputable def lpCho:Nat×(St→T (Ex×St)):=(13,lpo [12,11,5,1,0] [42,5] stCho1 (fun a=>prlCho a.1 a.2.1 a.2.2.1 a.2.2.2.1 a.2.2.2.2) fun a=>outCho a.1 a.2.1 a.2.2.1 a.2.2.2.1 a.2.2.2.2)

def stCh2 (ps:List Int) (bs:List Pln) (acc:List Int) (i:Int):St:=⟨[(14,vI i),(13, .own 13),(11, .own 42),(0, .sl (ps.map eI))],[(42,⟨false,154,4,bs.map ePln⟩),(13,⟨false,3,1,acc.map eI⟩)]⟩

def stCh21 (a:(List Int)×(List Pln)×(List Int)×Int):St:=stCh2 a.1 a.2.1 a.2.2.1 a.2.2.2

theorem stCh2_inj (a a':(List Int)×(List Pln)×(List Int)×Int) (h:stCh21 a=stCh21 a'):a=a':=by
 simp only[stCh21,stCh2]at h
 try simp[ints_inj,ePlns_inj]at h
 grind

theorem unstCh20 (ps:List Int) (bs:List Pln)  : unenc stCh21 (St.mk [(14,(vI (0:Int))),(13, .own 13),(11, .own 42),(0,AV.sl (List.map eI ps))] [(42,Blk.mk false 154 4 (List.map ePln bs)),(13,Blk.mk false 3 1 [])])=some (ps,bs,[],0):=unenc_of stCh2_inj (ps,bs,[],0) rfl

def outCh2 (ps:List Int) (bs:List Pln) (acc:List Int) (i:Int):T (Ex×St):= .ret (.exit 3,⟨[(13, .own 13),(11, .own 42)],[(42,⟨false,154,4,bs.map ePln⟩),(13,⟨false,3,1,(acc++F.chain ps bs (ps.length+1) i).map eI⟩)]⟩)

noncomputable def prlCh2 (ps:List Int) (bs:List Pln) (acc:List Int) (i:Int):Bool:=decide (ps.length≤1000)&&(F.pallB ps.length bs&&decide (i = -1∨(0≤i∧i<ps.length∧(acc.length:Int)≤i∧(bs.getD i.toNat F.pl0).can=true)))

noncomputable def lpCh2:Nat×(St→T (Ex×St)):=(20,lpo [14,13,11,0] [42,13] stCh21 (fun a=>prlCh2 a.1 a.2.1 a.2.2.1 a.2.2.2) fun a=>outCh2 a.1 a.2.1 a.2.2.1 a.2.2.2)

noncomputable def enCho:Env:=envH ty noG lks [oWsf,oNoTm,oPlw] [] [] [lpCho,lpCh2]

theorem enCho_ok:EnvOK Tryz.prog enCho:=by
 refine envH_ok lks_ok ty_ok ?_ ?_
 ·simp only[List.forall_mem_cons]
  exact⟨okWsf,okNoTm,okPlw,by simp⟩
 ·simp

theorem evChoL (ps:List Int) (fin:Int) (w:Wsh) (bs:List Pln) (j:Nat):((exec enCho (loopN Tryz.f52 0) (stCho ps fin w bs j)).bind (lessX ([12,11,5,1,0],[42,5]) ([11,0],[42]) ([],[]))).val =
 bif decide ((0:Int)≤(↑j:Int) - (1:Int)) then Option.bind (unenc encPlw [AV.sl (List.map eI ps),(vI fin),AV.agg [(vI w.scale),(vI w.target),(vI w.most)],AV.sl
 (List.map ePln bs),(vI ((↑j:Int) - (1:Int)))]) fun z=>bif decide (List.length z.1≤1000)&&(decide
 (List.length z.2.2.2.1=List.length z.1)&&decide (z.2.2.2.2<List.length z.1)) then Option.bind (idx ((↑j:Int) - (1:Int))) fun z_1=>
 bif decide (z_1<List.length (Blk.mk false 154 4 (List.map ePln bs)).rows) then Option.bind (unenc (List.map ePln) (List.map ePln bs)) fun z_2=>bif decide
 (z_1<List.length z_2) then some (Ex.normal,St.mk [(12,(vI (IntKind.i64.wrap ((↑j:Int) - (1:Int) - (1:Int))))),(11, .own 42),(5, .ptr 5 0 0),(1,(vI
 fin)),(0,AV.sl (List.map eI ps))] [(42,Blk.mk false 154 4 (List.set (List.map ePln bs) z_1 [(vB (F.plan z.1 z.2.1 z.2.2.1 z.2.2.2.1
 z.2.2.2.2).can),(vI (F.plan z.1 z.2.1 z.2.2.1 z.2.2.2.1 z.2.2.2.2).sum),(vI (F.plan z.1 z.2.1 z.2.2.1 z.2.2.2.1
 z.2.2.2.2).many),(vI (F.plan z.1 z.2.1 z.2.2.1 z.2.2.2.1 z.2.2.2.2).next)])),(5,Blk.mk true 0 0 [[(vI w.scale),(vI w.target),(vI
 w.most)]])]) else none else none else none else some (Ex.exit (1:Nat),St.mk [(11, .own 42),(0,AV.sl (List.map eI ps))] [(42,Blk.mk false 154 4 (List.map ePln bs))]):=(execR_bind _ _ _).symm.trans (by kernel_rfl)

theorem lpCho_ok (ps:List Int) (fin:Int) (w:Wsh) (bs:List Pln) (j:Nat) (hp:prlCho ps fin w bs j=true) : ∀ex s',(outCho ps fin w bs j).val=some (ex,s')→LoopOK enCho (loopN Tryz.f52 0) (stCho ps fin w bs j) ex s':=by
 simp only[prlCho,Bool.and_eq_true,decide_eq_true_eq]at hp
 obtain⟨h1,h2,h3⟩:=hp
 refine loop_gen (st:=fun a:List Pln×Nat=>stCho ps fin w a.1 a.2) (out:=fun a=>outCho ps fin w a.1 a.2) (I:=fun a=>a.1.length=ps.length∧a.2≤ps.length) (n:=([12,11,5,1,0],[42,5])) (e:=([11,0],[42])) (r:=([],[])) (fun a=>a.2) ?_ (bs,j) ⟨h2,h3⟩
 clear h2 h3 bs j
 rintro⟨bs,j⟩ ⟨h2,h3⟩
 simp only at h2 h3
 cases j with
 | zero=>
  left
  refine⟨_,?_,rfl,by simp,rfl⟩
  rw[evChoL]
  rw[decide_eq_false (show ¬((0:Int)≤((0:Nat):Int) - 1) by omega)]
  simp only[cond_false,F.fill]
  try rfl
 | succ m=>
  right
  have e:((m+1:Nat):Int) - 1=(m:Int):=by omega
  have hw:IntKind.i64.wrap ((m:Int) - 1)=(m:Int) - 1:=wrap_id (by omega) (by omega)
  have hi:idx (m:Int)=some m:=rfl
  have d0:decide ((0:Int)≤(m:Int))=true:=decide_eq_true (by omega)
  have d1:decide (m<ps.length)=true:=decide_eq_true (by omega)
  have d2:decide (m<bs.length)=true:=decide_eq_true (by omega)
  refine⟨(bs.set m (F.plan ps fin w bs m),m),?_,rfl,⟨by simp only[List.length_set];exact h2,by omega⟩,by simp only;omega,rfl⟩
  rw[evChoL]
  simp only[unPlww,etaWsh,etaPln,Option.bind_some,List.length_map,unPlns,cond_true,e,hw,hi,d0,d1,d2,decide_eq_true h1,decide_eq_true h2,Bool.and_self,setWPlns]
  try rfl

theorem pallB_ok {n:Nat} {bs:List Pln} (h:F.pallB n bs=true):F.pall n 0 bs:=@of_decide_eq_true _ (Classical.propDecidable _) h

theorem evCh2L (ps:List Int) (bs:List Pln) (acc:List Int) (i:Int):((exec enCho (loopN Tryz.f52 1) (stCh2 ps bs acc i)).bind (lessX ([14,13,11,0],[42,13]) ([13,11],[42,13]) ([],[]))).val =
 bif decide ((0:Int)≤i) then Option.bind (idx i) fun z=>Option.bind (unenc (List.map eI) (List.map eI ps)) fun z_1=>bif decide (z<List.length
 z_1) then bif Nat.ble ((List.length (List.map eI acc)+1)*8) 140737488355328&&true then Option.bind (idx i) fun z_2=>bif decide (z_2
 < List.length (Blk.mk false 154 4 (List.map ePln bs)).rows) then Option.bind (unenc (List.map ePln) (List.map ePln bs)) fun z_3=>bif decide (z_2 <
 List.length z_3) then some (Ex.normal,St.mk [(14,(vI (List.getD z_3 z_2 (Pln.mk false (0:Int) (0:Int) (0:Int))).next)),(13, .own 13),(11, .own 42),(0,AV.sl
 (List.map eI ps))] [(42,Blk.mk false 154 4 (List.map ePln bs)),(13,Blk.mk false 3 1 (List.map eI acc++[[(vI (List.getD z_1 z 0))]]))]) else none else none
 else none else none else some (Ex.exit (3:Nat),St.mk [(13, .own 13),(11, .own 42)] [(42,Blk.mk false 154 4 (List.map ePln bs)),(13,Blk.mk false 3 1 (List.map eI
 acc))]):=(execR_bind _ _ _).symm.trans (by kernel_rfl)

theorem lpCh2_ok (ps:List Int) (bs:List Pln) (acc:List Int) (i:Int) (hp:prlCh2 ps bs acc i=true) : ∀ex s',(outCh2 ps bs acc i).val=some (ex,s')→LoopOK enCho (loopN Tryz.f52 1) (stCh2 ps bs acc i) ex s':=by
 simp only[prlCh2,Bool.and_eq_true,decide_eq_true_eq]at hp
 obtain⟨h1,h2,h3⟩:=hp
 have hall:=pallB_ok h2
 refine loop_gen (st:=fun a:List Int×Int=>stCh2 ps bs a.1 a.2) (out:=fun a=>outCh2 ps bs a.1 a.2) (I:=fun a=>a.2 = -1∨(0≤a.2∧a.2<ps.length∧(a.1.length:Int)≤a.2∧(bs.getD a.2.toNat F.pl0).can=true)) (n:=([14,13,11,0],[42,13])) (e:=([13,11],[42,13])) (r:=([],[])) (fun a=>bif decide (0≤a.2) then (ps.length:Int).toNat+1 - a.2.toNat else 0) ?_ (acc,i) h3
 clear h3 acc i
 rintro⟨acc,i⟩ h3
 simp only at h3
 rcases h3 with rfl | ⟨i0,i1,i2,i3⟩
 ·left
  refine⟨_,?_,rfl,by simp,rfl⟩
  rw[evCh2L]
  rw[decide_eq_false (show ¬((0:Int) ≤ -1) by omega)]
  simp only[cond_false,F.chain_end,List.append_nil]
  try rfl
 ·right
  obtain⟨m,rfl⟩:=Int.eq_ofNat_of_zero_le i0
  rw[Int.toNat_natCast]at i3
  have hi:idx (m:Int)=some m:=rfl
  have d0:decide ((0:Int)≤(m:Int))=true:=decide_eq_true (by omega)
  have d1:decide (m<ps.length)=true:=decide_eq_true (by omega)
  have d2:decide (m<bs.length)=true:=decide_eq_true (by rw[hall.1];omega)
  have hb:Nat.ble ((acc.length+1)*8) 140737488355328=true:=ble_t (by omega)
  have hgo:=F.chain_go hall (i:=(m:Int)) i0 i1 (by rw[Int.toNat_natCast];exact i3)
  have hg:=hall.2 m (Nat.zero_le _) (by omega) i3
  rw[Int.toNat_natCast]at hgo
  refine⟨(acc++[ps.getD m 0],(bs.getD m F.pl0).next),?_,rfl,?_,?_,?_⟩
  ·rw[evCh2L]
   simp only[Option.bind_some,List.length_map,unInts,unPlns,cond_true,Bool.and_true,hi,d0,d1,d2,hb,appI1]
   try rfl
  ·rcases hg with e | ⟨a,b,c⟩
   ·exact .inl e
   ·refine .inr ⟨by simp only;omega,b,?_,c⟩
    simp only[List.length_append,List.length_singleton]
    omega
  ·rcases hg with e | ⟨a,b,c⟩
   ·simp only[e,d0,cond_true,Int.toNat_natCast]
    rw[decide_eq_false (show ¬((0:Int) ≤ -1) by omega)]
    simp only[cond_false]
    omega
   ·simp only[d0,cond_true,Int.toNat_natCast]
    rw[decide_eq_true (show(0:Int)≤(bs.getD m F.pl0).next by omega)]
    simp only[cond_true]
    omega
  ·simp only[outCh2,hgo,List.append_assoc,List.singleton_append]

theorem evCho (ps:List Int) (fin:Int) (w:Wsh):(runF enCho false Tryz.f52 [.sl (ps.map eI),vI fin, .agg (eWsh w)]).val =
 (fun(q:Int)=>(fun(q_1:Option (AV×Heap))=>(fun(q_2:List AV)=>Option.bind (unenc encWsf [AV.sl (List.map eI ps),AV.agg q_2]) fun z=>
 bif F.wshE z.1 z.2 != 0 then some (AV.tup [AV.sl [],(vI 0),(vI (F.wshE z.1 z.2))],[]) else Option.bind (unenc encNoTm [(vI fin)]) fun(z:Int)
 =>bif F.noTm z then q_1 else Option.bind (idx q) fun z=>Option.bind (unenc (List.map eI) (List.map eI ps)) fun z_1=>bif decide (z<List.length
 z_1) then bif decide (fin≤List.getD z_1 z 0) then some (AV.tup [AV.sl [],(vI 0),(vI 8)],[]) else Option.bind (unenc (List.map eI) (List.map eI
 ps)) fun z=>bif decide ((0:Nat)<List.length z) then bif decide ((1000000000000:Int)<IntKind.i64.wrap (fin - List.getD z (0:Nat) (0 :
 Int))) then q_1 else bif Nat.ble (List.length (List.map eI ps)) (List.length (List.map eI ps))&&Nat.ble (List.length (List.map eI ps)*32) 140737488355328 then Option.bind (unenc stCho1 (St.mk [(12,(vI q)),(11, .own 42),(5, .ptr 5 0 0),(1,(vI fin)),(0,AV.sl (List.map eI ps))] [(42,Blk.mk false 154 4
 (List.replicate (List.length (List.map eI ps)) [(vB false),(vI 0),(vI 0),(vI 0)])),(5,Blk.mk true 0 0 [q_2])])) fun z=>(fun(q:List Row)=>(fun(q_3:Blk)=>bif decide (List.length z.1≤1000)&&(decide (List.length z.2.2.2.1=List.length
 z.1)&&decide (z.2.2.2.2≤List.length z.1))&&true then bif decide ((0:Nat)<List.length q_3.rows) then Option.bind (unenc (List.map ePln) q) fun(z_2 :
 List Pln)=>bif decide ((0:Nat)<List.length z_2) then bif !(List.getD z_2 (0:Nat) (Pln.mk false (0:Int) (0:Int) (0:Int))).can then some (AV.tup [AV.sl [],(vI
 (0:Int)),(vI 9)],[]) else Option.bind (unenc stCh21 (St.mk [(14,(vI 0)),(13, .own 13),(11, .own 42),(0,AV.sl (List.map eI z.1))] [(42,q_3),
 (13,Blk.mk false 3 1 [])])) fun z=>bif decide (List.length z.1≤1000)&&(F.pallB (List.length z.1) z.2.1 &&
 decide (z.2.2.2=(-1:Int)∨(0:Int)≤z.2.2.2∧z.2.2.2<(↑(List.length z.1):Int)∧(↑(List.length z.2.2.1):Int)≤z.2.2.2 ∧
 (List.getD z.2.1 (Int.toNat z.2.2.2) F.pl0).can=true))&&true then bif decide ((0:Nat)<List.length (Blk.mk false 154 4 (List.map ePln z.2.1)).rows)
 then Option.bind (unenc (List.map ePln) (List.map ePln z.2.1)) fun z_3=>bif decide ((0:Nat)<List.length z_3) then some (AV.tup [AV.sl (List.map eI
 (z.2.2.1++F.chain z.1 z.2.1 (List.length z.1+1) z.2.2.2)),(vI (List.getD z_3 (0:Nat) (Pln.mk false (0:Int) (0:Int) (0:Int))).sum),
 (vI 0)],[]) else none else none else none else none else none else none) (Blk.mk false 154 4 q)) (List.map ePln (F.fill z.1 z.2.1 z.2.2.1
 z.2.2.2.2 z.2.2.2.1)) else none else none else none) [(vI w.scale),(vI w.target),(vI w.most)]) (some (AV.tup [AV.sl [],(vI 0),(vI 1)],
 []))) (IntKind.i64.wrap ((↑(List.length (List.map eI ps)):Int) - (1:Int))):=(runFR_val).symm.trans (by kernel_rfl)

def encCho1 (ps:List Int) (fin:Int) (w:Wsh):List AV:=[.sl (ps.map eI),vI fin, .agg (eWsh w)]

def encCho (a:(List Int)×Int×Wsh):List AV:=encCho1 a.1 a.2.1 a.2.2

theorem encCho_inj (a a':(List Int)×Int×Wsh) (h:encCho a=encCho a'):a=a':=by
 simp only[encCho,encCho1]at h
 try simp[ints_inj,eWsh_iff]at h
 grind

theorem unChow (ps:List Int) (fin:Int) (w_scale:Int) (w_target:Int) (w_most:Int):unenc encCho ([AV.sl (List.map eI ps),(vI fin),AV.agg [(vI w_scale),(vI w_target),(vI w_most)]])=some (ps,fin,(Wsh.mk w_scale w_target w_most)):=unenc_of encCho_inj (ps,fin,(Wsh.mk w_scale w_target w_most)) rfl

def resCho1 (ps:List Int) (fin:Int) (w:Wsh):AV×Heap:=(.tup [.sl ((F.cho ps fin w).1.map eI),vI (F.cho ps fin w).2.1,vI (F.cho ps fin w).2.2],[])

def preCho1 (ps:List Int) (fin:Int) (w:Wsh):Bool:=true

noncomputable def oCho:Orc:=orc 52 false encCho (fun a=>preCho1 a.1 a.2.1 a.2.2) fun a=>resCho1 a.1 a.2.1 a.2.2

theorem okCho:OrcOK Tryz.prog noG oCho:=by
 refine mk_ok Tryz.f52 (keep:=false) (by kernel_rfl) (by kernel_rfl) enCho_ok mixed (two_loops (x0:=loopN Tryz.f52 0) (x1:=loopN Tryz.f52 1) (by kernel_rfl) (lpo_ok ?_) (lpo_ok ?_)) (by first | exact fun _ _=>⟨rfl,rfl⟩ | (intro h;cases h)) ?_
 ·rintro⟨ps,fin,w,bs,j⟩ hp
  exact lpCho_ok ps fin w bs j hp
 ·rintro⟨ps,bs,acc,i⟩ hp
  exact lpCh2_ok ps bs acc i hp
 rintro⟨ps,fin,w⟩ hpre hok
 show(runF enCho false _ (encCho1 _ _ _)).val=some (resCho1 _ _ _)
 unfold encCho1 resCho1
 rw[evCho]
 have hp0 : ∀n:Nat,List.replicate n [(vB false),(vI 0),(vI 0),(vI 0)]=(List.replicate n F.pl0).map ePln:=fun n=>by rw[List.map_replicate];rfl
 simp only[unNoTm,unWsfw,unstCh20,etaWsh,Option.bind_some,List.length_map,unInts,unPlns,Bool.and_true,List.length_map,hp0]
 unfold F.cho
 by_cases h0:F.wshE ps w=0
 case neg=>rw[bne1 h0];rfl
 rw[bne0 h0]
 obtain⟨n1,n2⟩:=F.risE_ok (F.wshE_ok h0)
 have hi:=idx_pred (k:=ps.length) (by omega) (by omega)
 have hw:IntKind.i64.wrap ((ps.length:Int) - 1)=(ps.length:Int) - 1:=wrap_id (by omega) (by omega)
 have d1:decide (ps.length - 1<ps.length)=true:=decide_eq_true (by omega)
 have d2:decide (0<ps.length)=true:=decide_eq_true (by omega)
 have b1:Nat.ble ps.length ps.length=true:=ble_t (Nat.le_refl _)
 have b2:Nat.ble (ps.length*32) 140737488355328=true:=ble_t (by omega)
 rw[hw]at hi
 have z:unenc stCho1 (St.mk [(12,(vI ((ps.length:Int) - 1))),(11, .own 42),(5, .ptr 5 0 0),(1,(vI fin)),(0,AV.sl (List.map eI ps))] [(42,Blk.mk false 154 4 (List.map ePln (List.replicate ps.length F.pl0))),(5,Blk.mk true 0 0 [[(vI w.scale),(vI w.target),(vI w.most)]])])=some (ps,fin,w,List.replicate ps.length F.pl0,ps.length):=unstCho ps fin w _ _
 have hb:=F.best_ok ps fin w
 have e:F.fill ps fin w ps.length (List.replicate ps.length F.pl0)=F.best ps fin w:=rfl
 simp only[cond_false,hw,hi,Option.bind_some,d1,d2,b1,b2,Bool.and_self,cond_true]
 cases F.noTm fin
 case true=>rfl
 cases decide (fin≤ps.getD (ps.length - 1) 0)
 case true=>rfl
 simp only[cond_false]
 cases decide ((1000000000000:Int)<IntKind.i64.wrap (fin - ps.getD 0 0))
 case true=>rfl
 simp only[cond_false]
 try rw[z]
 have d3:decide (0<(F.best ps fin w).length)=true:=decide_eq_true (by rw[hb.1];omega)
 simp only[Option.bind_some,decide_eq_true n2,List.length_replicate,Nat.le_refl,decide_true,Bool.and_self,cond_true,e,d3]
 have hpb:F.pallB ps.length (F.best ps fin w)=true:=@decide_eq_true _ (Classical.propDecidable _) hb
 have e0:(F.best ps fin w).getD 0 ⟨false,0,0,0⟩=(F.best ps fin w).getD 0 F.pl0:=rfl
 rw[e0]
 cases hc:((F.best ps fin w).getD 0 F.pl0).can
 ·rfl
 ·have d4:decide ((0:Int) = -1∨((0:Int)≤0∧(0:Int)<(ps.length:Int)∧(((List.nil:List Int).length:Nat):Int)≤0∧((F.best ps fin w).getD (Int.toNat 0) F.pl0).can=true))=true:=decide_eq_true (.inr ⟨by omega,by omega,by simp,hc⟩)
  simp only[Bool.not_true,cond_false,hpb,d4,Bool.and_self,cond_true,List.nil_append]
  try rfl

end M

end Go.Proofs.YtpaeopnlblhpoaaGreatDoor
