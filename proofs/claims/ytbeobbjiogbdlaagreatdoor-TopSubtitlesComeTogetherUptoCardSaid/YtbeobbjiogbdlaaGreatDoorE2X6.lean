/- What is proved here: what headendref1.times and small return on limbs (no statement of the seat). -/
import Derived.Handy
import Derived.Shelf.Bits.Mul64
import Derived.Test.YtbeobbjiogbdlaaGreatDoorE2X5

namespace Go.Proofs.YtbeobbjiogbdlaaGreatDoor
open Go Go.RowKit
set_option linter.unusedVariables false
set_option linter.unusedSimpArgs false
set_option maxHeartbeats 1000000

def F.findI {α:Type} (p:α→Bool) (k:Nat):List α→Option Nat
 | []=>none
 | y::l=>bif p y then some k else F.findI p (k+1) l

def F.idxI (o:Option Nat):Int:=bif F.found o then ((F.got o 0:Nat):Int) else -1

def F.contd (c o:Cap):Bool:=o.aft&&(o.to==c.fr)&&(o.row==c.row)&&F.sameSL o.lines c.lines

def F.prtF (a b:Int) (c:Cap):Int:=bif F.lt c.fr a||F.lt b c.to then 1 else bif (c.bef&&(c.fr != a))||(c.aft&&(c.to != b)) then 3 else 0

def F.segF:List (List Cap)→List Int→Int
 | p::ps,a::b::r=>bif M.ffI (F.prtF a b) p != 0 then M.ffI (F.prtF a b) p else F.segF ps (b::r)
 | _,_=>0

def F.prtsF (l:List (List Cap)) (bs:List Int):Int:=
 bif M.ffI F.chkC l != 0 then M.ffI F.chkC l else bif F.bnds bs != 0 then F.bnds bs else bif (l.length+1 != bs.length) then 3 else F.segF l bs

def F.smLL (l:List (List Cap)):Bool:=l.all F.smC

theorem F.segF_at {l:List (List Cap)} {bs:List Int} {k:Nat} {p:List Cap} {a b:Int} (hp:l[k]? = some p) (ha:bs[k]? = some a) (hb:bs[k+1]? = some b) :
  F.segF (l.drop k) (bs.drop k)=bif M.ffI (F.prtF a b) p != 0 then M.ffI (F.prtF a b) p else F.segF (l.drop (k+1)) (bs.drop (k+1)):=by
 rw[M.drop_at hp,M.drop_at ha,M.drop_at hb]
 rfl

namespace M

theorem ite_bif {α:Type} (x:Int) (A B:α):(if x=0 then A else B)=bif x != 0 then B else A:=by
 by_cases h:x=0
 ·rw[if_pos h,bne0 h];rfl
 ·rw[if_neg h,bne1 h];rfl

theorem ffI_all {γ:Type} {g:γ→Int} : ∀ {l:List γ},ffI g l=0 → ∀y∈l,g y=0
 | [],_,y,hy=>by cases hy
 | x::l,h,y,hy=>by
  unfold ffI at h
  by_cases hx:g x=0
  ·rw[if_pos hx]at h
   rcases List.mem_cons.1 hy with rfl | hy
   ·exact hx
   ·exact ffI_all h y hy
  ·rw[if_neg hx]at h;exact absurd h hx

noncomputable def enJc:Env:=envH ty noG lks [oEqS] [] [] []

theorem enJc_ok:EnvOK Tryz.prog enJc:=by
 refine envH_ok lks_ok ty_ok ?_ ?_
 ·simp only[List.forall_mem_cons]
  exact⟨okEqS,by simp⟩
 ·simp

theorem evJc (o:Cap) (c:Cap):(runF enJc false Tryz.f64 [.agg (eCap o), .pel (eCap c) 0]).val =
 bif bif bif o.aft then o.to==c.fr else false then o.row==c.row else false then Option.bind (unenc encEqS [AV.sl (List.map eStr o.lines),AV.sl (List.map eStr
 c.lines)]) fun z=>some ((vB (F.sameSL z.1 z.2)),[]) else some ((vB false),[]):=(runFR_val).symm.trans (by kernel_rfl)

def encJc1 (o:Cap) (c:Cap):List AV:=[.agg (eCap o), .pel (eCap c) 0]

def encJc (a:Cap×Cap):List AV:=encJc1 a.1 a.2

theorem encJc_inj (a a':Cap×Cap) (h:encJc a=encJc a'):a=a':=by
 simp only[encJc,encJc1]at h
 try simp[eCap_iff]at h
 grind

theorem unJcw (o_fr:Int) (o_to:Int) (o_lines:List ByteArray) (o_row:Int) (o_bef:Bool) (o_aft:Bool) (c_fr:Int) (c_to:Int) (c_lines:List ByteArray) (c_row:Int) (c_bef:Bool) (c_aft:Bool):unenc encJc ([AV.agg [(vI o_fr),(vI o_to),AV.sl (List.map eStr o_lines),(vI o_row),(vB o_bef),(vB o_aft)],AV.pel [(vI c_fr),(vI c_to),AV.sl (List.map eStr c_lines),(vI c_row),
 (vB c_bef),(vB c_aft)] (0:Nat)])=some ((Cap.mk o_fr o_to o_lines o_row o_bef o_aft),(Cap.mk c_fr c_to c_lines c_row c_bef c_aft)):=unenc_of encJc_inj ((Cap.mk o_fr o_to o_lines o_row o_bef o_aft),(Cap.mk c_fr c_to c_lines c_row c_bef c_aft)) rfl

def resJc1 (o:Cap) (c:Cap):AV×Heap:=(vB (F.contd c o),[])

def preJc1 (o:Cap) (c:Cap):Bool:=true

noncomputable def oJc:Orc:=orc 64 true encJc (fun a=>preJc1 a.1 a.2) fun a=>resJc1 a.1 a.2

theorem okJc:OrcOK Tryz.prog noG oJc:=by
 refine mk_ok Tryz.f64 (keep:=false) (by kernel_rfl) (by kernel_rfl) enJc_ok mixed (no_loops (by kernel_rfl)) (by first | exact fun _ _=>⟨rfl,rfl⟩ | (intro h;cases h)) ?_
 rintro⟨o,c⟩ hpre hok
 show(runF enJc false _ (encJc1 _ _)).val=some (resJc1 _ _)
 unfold encJc1 resJc1
 rw[evJc]
 simp only[unEqS,Option.bind_some,F.contd]
 cases o.aft<;>cases(o.to==c.fr)<;>cases(o.row==c.row)<;>cases F.sameSL o.lines c.lines<;>rfl

def stIxc (l:List Cap) (c:Cap) (k:Nat):St:=⟨[(8,vI k),(7,vI l.length),(1, .fn 64 [.pel (eCap c) 0]),(0, .sl (l.map eCap))],[]⟩

def stIxc1 (a:(List Cap)×Cap×Nat):St:=stIxc a.1 a.2.1 a.2.2

theorem stIxc_inj (a a':(List Cap)×Cap×Nat) (h:stIxc1 a=stIxc1 a'):a=a':=by
 simp only[stIxc1,stIxc]at h
 try simp[eCaps_inj,eCap_iff]at h
 grind

theorem unstIxc0 (l:List Cap) (c:Cap)  : unenc stIxc1 (St.mk [(8,(vI (0:Int))),(7,(vI (↑(List.length l):Int))),(1,AV.fn (64:FuncId) [AV.pel [(vI c.fr),(vI c.to),AV.sl (List.map eStr c.lines),(vI c.row),(vB
 c.bef),(vB c.aft)] (0:Nat)]),(0,AV.sl (List.map eCap l))] [])=some (l,c,0):=unenc_of stIxc_inj (l,c,0) rfl

def outIxc (l:List Cap) (c:Cap) (k:Nat):T (Ex×St):= .ifB (F.found (F.findI (F.contd c) k (l.drop k))) (.ret (.ret,⟨[(4,vI ((F.got (F.findI (F.contd c) k (l.drop k)) 0:Nat):Int))],[]⟩)) (.ret (.exit 0,⟨[],[]⟩))

noncomputable def prlIxc (l:List Cap) (c:Cap) (k:Nat):Bool:=decide (l.length≤9223372036854775807)&&decide (k≤l.length)

noncomputable def lpIxc:Nat×(St→T (Ex×St)):=(2,lpo [8,7,1,0] [] stIxc1 (fun a=>prlIxc a.1 a.2.1 a.2.2) fun a=>outIxc a.1 a.2.1 a.2.2)

noncomputable def enIxc:Env:=envH ty noG lks [oJc] [] [] [lpIxc]

theorem enIxc_ok:EnvOK Tryz.prog enIxc:=by
 refine envH_ok lks_ok ty_ok ?_ ?_
 ·simp only[List.forall_mem_cons]
  exact⟨okJc,by simp⟩
 ·simp

theorem evIxcL (l:List Cap) (c:Cap) (k:Nat):((exec enIxc (loopN Tryz.f63 0) (stIxc l c k)).bind (lessX ([8,7,1,0],[]) ([],[]) ([4],[]))).val =
 bif decide ((↑k:Int)<(↑(List.length l):Int)) then Option.bind (unenc (List.map eCap) (List.map eCap l)) fun z=>bif decide (k<List.length z) then
 Option.bind (unenc encJc [AV.agg [(vI (List.getD z k (Cap.mk (0:Int) (0:Int) [] (0:Int) false false)).fr),(vI (List.getD z k (Cap.mk (0:Int) (0:Int) [] (0 :
 Int) false false)).to),AV.sl (List.map eStr (List.getD z k (Cap.mk (0:Int) (0:Int) [] (0:Int) false false)).lines),(vI (List.getD z k (Cap.mk (0:Int) (0:Int)
 [] (0:Int) false false)).row),(vB (List.getD z k (Cap.mk (0:Int) (0:Int) [] (0:Int) false false)).bef),(vB (List.getD z k (Cap.mk (0:Int) (0:Int) [] (0 :
 Int) false false)).aft)],AV.pel [(vI c.fr),(vI c.to),AV.sl (List.map eStr c.lines),(vI c.row),(vB c.bef),(vB c.aft)] (0:Nat)]) fun z=>bif F.contd
 z.2 z.1 then some (Ex.ret,St.mk [(4,(vI (↑k:Int)))] []) else some (Ex.normal,St.mk [(8,(vI (IntKind.i64.wrap ((↑k:Int)+1)))),(7,(vI
 (↑(List.length l):Int))),(1,AV.fn (64:FuncId) [AV.pel [(vI c.fr),(vI c.to),AV.sl (List.map eStr c.lines),(vI c.row),(vB c.bef),(vB c.aft)] (0:Nat)]),(0,
 AV.sl (List.map eCap l))] []) else none else some (Ex.exit (0:Nat),St.mk [] []):=(execR_bind _ _ _).symm.trans (by kernel_rfl)

theorem lpIxc_ok (l:List Cap) (c:Cap) (k:Nat) (hp:prlIxc l c k=true) : ∀ex s',(outIxc l c k).val=some (ex,s')→LoopOK enIxc (loopN Tryz.f63 0) (stIxc l c k) ex s':=by
 simp only[prlIxc,Bool.and_eq_true,decide_eq_true_eq]at hp
 refine loop_gen (st:=stIxc l c) (out:=outIxc l c) (I:=fun k=>k≤l.length) (n:=([8,7,1,0],[])) (e:=([],[])) (r:=([4],[])) (fun k=>l.length - k) ?_ k hp.2
 intro k hk
 by_cases hlt:k<l.length
 ·have hy:l[k]? = some l[k]:=List.getElem?_eq_getElem hlt
  generalize l[k]=y at hy
  have hd:=drop_at hy
  cases hc:(F.contd c) y
  ·right
   refine⟨k+1,?_,rfl,hlt,by omega,?_⟩
   ·rw[evIxcL]
    simp only[unJcw,etaCap,Option.bind_some,unCaps,cond_true,cond_false,cast_lt hlt,decide_eq_true hlt,next_at hlt hp.1,getD_at hy,hc,stIxc]
    try rfl
   ·simp only[outIxc,hd,F.findI,hc,cond_false]
  ·left
   refine⟨(.ret,⟨[(4,vI k)],[]⟩),?_,?_,by simp,rfl⟩
   ·rw[evIxcL]
    simp only[unJcw,etaCap,Option.bind_some,unCaps,cond_true,cast_lt hlt,decide_eq_true hlt,next_at hlt hp.1,getD_at hy,hc]
   ·simp only[outIxc,hd,F.findI,hc,cond_true,F.found,F.got]
    rfl
 ·have:k=l.length:=by omega
  subst this
  left
  refine⟨(.exit 0,⟨[],[]⟩),?_,?_,by simp,rfl⟩
  ·rw[evIxcL];simp
  ·simp[outIxc,F.findI,F.found,T.val]

theorem evIxc (l:List Cap) (c:Cap):(runF enIxc false Tryz.f63 [.sl (l.map eCap), .fn 64 [.pel (eCap c) 0]]).val =
 Option.bind (unenc stIxc1 (St.mk [(8,(vI 0)),(7,(vI (↑(List.length (List.map eCap l)):Int))),(1,AV.fn (64:FuncId) [AV.pel [(vI c.fr),(vI c.to),AV.sl
 (List.map eStr c.lines),(vI c.row),(vB c.bef),(vB c.aft)] (0:Nat)]),(0,AV.sl (List.map eCap l))] [])) fun z=>bif decide (List.length
 z.1≤9223372036854775807)&&decide (z.2.2≤List.length z.1)&&true then bif F.found (F.findI (F.contd z.2.1) z.2.2 (List.drop z.2.2 z.1))
 then some ((vI (↑(F.got (F.findI (F.contd z.2.1) z.2.2 (List.drop z.2.2 z.1)) (0:Nat)):Int)),[]) else some ((vI (-1:Int)),[]) else none:=(runFR_val).symm.trans (by kernel_rfl)

def encIxc1 (l:List Cap) (c:Cap):List AV:=[.sl (l.map eCap), .fn 64 [.pel (eCap c) 0]]

def encIxc (a:(List Cap)×Cap):List AV:=encIxc1 a.1 a.2

theorem encIxc_inj (a a':(List Cap)×Cap) (h:encIxc a=encIxc a'):a=a':=by
 simp only[encIxc,encIxc1]at h
 try simp[eCaps_inj,eCap_iff]at h
 grind

theorem unIxcw (l:List Cap) (c_fr:Int) (c_to:Int) (c_lines:List ByteArray) (c_row:Int) (c_bef:Bool) (c_aft:Bool):unenc encIxc ([AV.sl (List.map eCap l),AV.fn (64:FuncId) [AV.pel [(vI c_fr),(vI c_to),AV.sl (List.map eStr c_lines),(vI c_row),(vB c_bef),(vB c_aft)] (0:Nat)]])=some (l,(Cap.mk c_fr c_to c_lines c_row c_bef c_aft)):=unenc_of encIxc_inj (l,(Cap.mk c_fr c_to c_lines c_row c_bef c_aft)) rfl

def resIxc1 (l:List Cap) (c:Cap):AV×Heap:=(vI (F.idxI (F.findI (F.contd c) 0 l)),[])

def preIxc1 (l:List Cap) (c:Cap):Bool:=true

noncomputable def oIxc:Orc:=orc 63 true encIxc (fun a=>preIxc1 a.1 a.2) fun a=>resIxc1 a.1 a.2

theorem okIxc:OrcOK Tryz.prog noG oIxc:=by
 refine mk_ok Tryz.f63 (keep:=false) (by kernel_rfl) (by kernel_rfl) enIxc_ok mixed (one_loop (x0:=loopN Tryz.f63 0) (by kernel_rfl) (lpo_ok ?_)) (by first | exact fun _ _=>⟨rfl,rfl⟩ | (intro h;cases h)) ?_
 ·rintro⟨l,c,k⟩ hp
  exact lpIxc_ok l c k hp
 rintro⟨l,c⟩ hpre hok
 show(runF enIxc false _ (encIxc1 _ _)).val=some (resIxc1 _ _)
 unfold encIxc1 resIxc1
 rw[evIxc]
 have hx:l.length≤9223372036854775807:=by simpa using(okA_sl (hok _ (List.mem_cons_self ..))).1
 simp only[unstIxc0,Option.bind_some,List.length_map,cond_true,Bool.and_true,hx,List.drop_zero,Nat.zero_le,decide_true,F.idxI]
 cases F.found (F.findI (F.contd c) 0 l)<;>rfl

def stPf1 (l:List (List Cap)) (bs:List Int) (k:Nat):St:=⟨[(15,vI k),(14,vI l.length),(13, .sl (l.map eL_eCap)),(1, .sl (bs.map eI)),(0, .sl (l.map eL_eCap))],[]⟩

def stPf11 (a:(List (List Cap))×(List Int)×Nat):St:=stPf1 a.1 a.2.1 a.2.2

theorem stPf1_inj (a a':(List (List Cap))×(List Int)×Nat) (h:stPf11 a=stPf11 a'):a=a':=by
 simp only[stPf11,stPf1]at h
 try simp[ints_inj,eL_eCaps_inj]at h
 grind

theorem unstPf10 (l:List (List Cap)) (bs:List Int)  : unenc stPf11 (St.mk [(15,(vI (0:Int))),(14,(vI (↑(List.length l):Int))),(13,AV.sl (List.map eL_eCap l)),(1,AV.sl (List.map eI bs)),(0,AV.sl (List.map eL_eCap l))] [])=some (l,bs,0):=unenc_of stPf1_inj (l,bs,0) rfl

def outPf1 (l:List (List Cap)) (bs:List Int) (k:Nat):T (Ex×St):= .ifB (decide (M.ffI F.chkC (l.drop k)=0)) (.ret (.exit 0,⟨[(1, .sl (bs.map eI)),(0, .sl (l.map eL_eCap))],[]⟩)) (.ret (.ret,⟨[(4,vI (M.ffI F.chkC (l.drop k)))],[]⟩))

noncomputable def prlPf1 (l:List (List Cap)) (bs:List Int) (k:Nat):Bool:=decide (l.length≤9223372036854775807)&&decide (k≤l.length)&&F.smLL l

noncomputable def lpPf1:Nat×(St→T (Ex×St)):=(2,lpo [15,14,13,1,0] [] stPf11 (fun a=>prlPf1 a.1 a.2.1 a.2.2) fun a=>outPf1 a.1 a.2.1 a.2.2)

def stPf2 (l:List (List Cap)) (bs:List Int) (k:Nat):St:=⟨[(38,vI k),(37,vI l.length),(36, .sl (l.map eL_eCap)),(1, .sl (bs.map eI))],[]⟩

def stPf21 (a:(List (List Cap))×(List Int)×Nat):St:=stPf2 a.1 a.2.1 a.2.2

theorem stPf2_inj (a a':(List (List Cap))×(List Int)×Nat) (h:stPf21 a=stPf21 a'):a=a':=by
 simp only[stPf21,stPf2]at h
 try simp[ints_inj,eL_eCaps_inj]at h
 grind

theorem unstPf20 (l:List (List Cap)) (bs:List Int)  : unenc stPf21 (St.mk [(38,(vI (0:Int))),(37,(vI (↑(List.length l):Int))),(36,AV.sl (List.map eL_eCap l)),(1,AV.sl (List.map eI bs))] [])=some (l,bs,0):=unenc_of stPf2_inj (l,bs,0) rfl

def outPf2 (l:List (List Cap)) (bs:List Int) (k:Nat):T (Ex×St):= .ifB (decide (F.segF (l.drop k) (bs.drop k)=0)) (.ret (.exit 2,⟨[],[]⟩)) (.ret (.ret,⟨[(4,vI (F.segF (l.drop k) (bs.drop k)))],[]⟩))

noncomputable def prlPf2 (l:List (List Cap)) (bs:List Int) (k:Nat):Bool:=decide (bs.length≤200)&&decide (k≤l.length)&&decide (l.length+1=bs.length)&&decide (M.ffI F.chkC l=0)

noncomputable def lpPf2:Nat×(St→T (Ex×St)):=(14,lpo [38,37,36,1] [] stPf21 (fun a=>prlPf2 a.1 a.2.1 a.2.2) fun a=>outPf2 a.1 a.2.1 a.2.2)

def stPf3 (l:List (List Cap)) (bs:List Int) (k:Nat) (p:List Cap) (j:Nat):St:=⟨[(45,vI j),(44,vI p.length),(43, .sl (p.map eCap)),(38,vI k),(37,vI l.length),(36, .sl (l.map eL_eCap)),(9,vI k),(1, .sl (bs.map eI))],[]⟩

def stPf31 (a:(List (List Cap))×(List Int)×Nat×(List Cap)×Nat):St:=stPf3 a.1 a.2.1 a.2.2.1 a.2.2.2.1 a.2.2.2.2

theorem stPf3_inj (a a':(List (List Cap))×(List Int)×Nat×(List Cap)×Nat) (h:stPf31 a=stPf31 a'):a=a':=by
 simp only[stPf31,stPf3]at h
 try simp[ints_inj,eCaps_inj,eL_eCaps_inj]at h
 grind

theorem unstPf30 (l:List (List Cap)) (bs:List Int) (k:Nat) (p:List Cap)  : unenc stPf31 (St.mk [(45,(vI (0:Int))),(44,(vI (↑(List.length p):Int))),(43,AV.sl (List.map eCap p)),(38,(vI (↑k:Int))),(37,(vI (↑(List.length l):Int))),(36,AV.sl
 (List.map eL_eCap l)),(9,(vI (↑k:Int))),(1,AV.sl (List.map eI bs))] [])=some (l,bs,k,p,0):=unenc_of stPf3_inj (l,bs,k,p,0) rfl

def outPf3 (l:List (List Cap)) (bs:List Int) (k:Nat) (p:List Cap) (j:Nat):T (Ex×St):= .ifB (decide (M.ffI (F.prtF (bs.getD k 0) (bs.getD (k+1) 0)) (p.drop j)=0)) (.ret (.exit 4,⟨[(38,vI k),(37,vI l.length),(36, .sl (l.map eL_eCap)),(1, .sl (bs.map eI))],[]⟩)) (.ret (.ret,⟨[(4,vI (M.ffI (F.prtF (bs.getD k 0) (bs.getD (k+1) 0)) (p.drop j)))],[]⟩))

noncomputable def prlPf3 (l:List (List Cap)) (bs:List Int) (k:Nat) (p:List Cap) (j:Nat):Bool:=decide (p.length≤9223372036854775807)&&decide (j≤p.length)&&decide (k+1<bs.length∧bs.length≤9223372036854775807)

noncomputable def lpPf3:Nat×(St→T (Ex×St)):=(17,lpo [45,44,43,38,37,36,9,1] [] stPf31 (fun a=>prlPf3 a.1 a.2.1 a.2.2.1 a.2.2.2.1 a.2.2.2.2) fun a=>outPf3 a.1 a.2.1 a.2.2.1 a.2.2.2.1 a.2.2.2.2)

noncomputable def enPf:Env:=envH ty noG lks [oChC,oBF] [] [] [lpPf1,lpPf2,lpPf3]

theorem enPf_ok:EnvOK Tryz.prog enPf:=by
 refine envH_ok lks_ok ty_ok ?_ ?_
 ·simp only[List.forall_mem_cons]
  exact⟨okChC,okBF,by simp⟩
 ·simp

theorem evPf1L (l:List (List Cap)) (bs:List Int) (k:Nat):((exec enPf (loopN Tryz.f61 0) (stPf1 l bs k)).bind (lessX ([15,14,13,1,0],[]) ([1,0],[]) ([4],[]))).val =
 bif decide ((↑k:Int)<(↑(List.length l):Int)) then Option.bind (unenc (List.map eL_eCap) (List.map eL_eCap l)) fun z=>bif decide (k <
 List.length z) then Option.bind (unenc encChC [AV.sl (List.map eCap (List.getD z k []))]) fun z=>bif F.smC z then bif F.chkC z != 0 then some
 (Ex.ret,St.mk [(4,(vI (F.chkC z)))] []) else some (Ex.normal,St.mk [(15,(vI (IntKind.i64.wrap ((↑k:Int)+1)))),(14,(vI (↑(List.length l):Int))),
 (13,AV.sl (List.map eL_eCap l)),(1,AV.sl (List.map eI bs)),(0,AV.sl (List.map eL_eCap l))] []) else none else none else some (Ex.exit (0:Nat),St.mk [(1,AV.sl
 (List.map eI bs)),(0,AV.sl (List.map eL_eCap l))] []):=(execR_bind _ _ _).symm.trans (by kernel_rfl)

theorem lpPf1_ok (l:List (List Cap)) (bs:List Int) (k:Nat) (hp:prlPf1 l bs k=true) : ∀ex s',(outPf1 l bs k).val=some (ex,s')→LoopOK enPf (loopN Tryz.f61 0) (stPf1 l bs k) ex s':=by
 simp only[prlPf1,Bool.and_eq_true,decide_eq_true_eq]at hp
 obtain⟨⟨h1,h2⟩,h3⟩:=hp
 refine loop_code (xs:=l) (st:=stPf1 l bs) (g:=F.chkC) (o:=fun c=>(.ret,⟨[(4,vI c)],[]⟩)) (n:=([15,14,13,1,0],[])) (e:=([1,0],[])) (r:=([4],[])) ?_ ⟨by simp,rfl⟩ (fun _=>⟨by simp,rfl⟩) (fun _=>rfl) ?_ k h2
 ·rw[evPf1L];simp
 ·intro k y hy
  have hlt:=lt_at hy
  have hsm:F.smC y=true:=List.all_eq_true.1 h3 y (List.mem_of_getElem? hy)
  rw[evPf1L]
  simp only[unChC,Option.bind_some,uneL_eCaps,cond_true,cast_lt hlt,decide_eq_true hlt,next_at hlt h1,getD_at hy,hsm,stPf1]
  by_cases h:F.chkC y=0
  ·rw[bne0 h,if_pos h];rfl
  ·rw[bne1 h,if_neg h];rfl

theorem evPf3L (l:List (List Cap)) (bs:List Int) (k:Nat) (p:List Cap) (j:Nat):((exec enPf (loopN Tryz.f61 2) (stPf3 l bs k p j)).bind (lessX ([45,44,43,38,37,36,9,1],[]) ([38,37,36,1],[]) ([4],[]))).val =
 (fun(q:AV)=>(fun(q_1:Option (List Int))=>(fun(q_2:Cap)=>(fun(q_3:Option Nat)=>(fun(q_4:Option (Ex×St))=>(fun(q_5:Option (Ex×St))=>bif
 decide ((↑j:Int)<(↑(List.length p):Int)) then Option.bind (unenc (List.map eCap) (List.map eCap p)) fun z=>(fun(q:Bool)=>(fun(q_6:Int)=>bif
 decide (j<List.length z) then Option.bind q_1 fun z_1=>bif decide (k<List.length z_1) then bif !decide (q_6<List.getD z_1 k 0) then
 Option.bind q_3 fun z_2=>Option.bind q_1 fun z_3=>bif decide (z_2<List.length z_3) then bif decide (List.getD z_3 z_2 0<(List.getD z j
 q_2).to) then some (Ex.ret,St.mk [(4,(vI 1))] []) else bif (List.getD z j q_2).bef then Option.bind q_1 fun z_4=>(fun(q:Bool)=>bif decide (k
 < List.length z_4) then bif q then Option.bind q_3 fun z_5=>Option.bind q_1 fun z_6=>bif decide (z_5<List.length z_6) then bif bif q_6 !=
 List.getD z_4 k 0 then true else (List.getD z j q_2).to != List.getD z_6 z_5 0 then q_4 else q_5 else none else bif q then none else bif q then none else
 bif q then none else bif bif q_6 != List.getD z_4 k 0 then true else false then q_4 else q_5 else none) (!q_6 != List.getD z_4 k 0&&q) else bif q then
 Option.bind q_3 fun z_4=>Option.bind q_1 fun z_5=>bif decide (z_4<List.length z_5) then bif (List.getD z j q_2).to != List.getD z_5 z_4 0 then q_4 else q_5 else none else bif q then none else bif q then none else bif q then none else q_5 else none else some (Ex.ret,St.mk [(4,(vI 1))] []) else
 none else none) (List.getD z j q_2).fr) (List.getD z j q_2).aft else some (Ex.exit (4:Nat),St.mk [(38,q),(37,(vI (↑(List.length l):Int))),(36,AV.sl (List.map
 eL_eCap l)),(1,AV.sl (List.map eI bs))] [])) (some (Ex.normal,St.mk [(45,(vI (IntKind.i64.wrap ((↑j:Int)+1)))),(44,(vI (↑(List.length p) :
 Int))),(43,AV.sl (List.map eCap p)),(38,q),(37,(vI (↑(List.length l):Int))),(36,AV.sl (List.map eL_eCap l)),(9,q),(1,AV.sl (List.map eI bs))] []))) (some
 (Ex.ret,St.mk [(4,(vI 3))] []))) (idx (IntKind.i64.wrap ((↑k:Int)+1)))) (Cap.mk (0:Int) (0:Int) [] (0:Int) false false)) (unenc
 (List.map eI) (List.map eI bs))) ((vI (↑k:Int))):=(execR_bind _ _ _).symm.trans (by kernel_rfl)

theorem lpPf3_ok (l:List (List Cap)) (bs:List Int) (k:Nat) (p:List Cap) (j:Nat) (hp:prlPf3 l bs k p j=true) : ∀ex s',(outPf3 l bs k p j).val=some (ex,s')→LoopOK enPf (loopN Tryz.f61 2) (stPf3 l bs k p j) ex s':=by
 simp only[prlPf3,Bool.and_eq_true,decide_eq_true_eq]at hp
 obtain⟨⟨h1,h2⟩,h3,h4⟩:=hp
 obtain⟨a,ha⟩:=at_lt (show k<bs.length by omega)
 obtain⟨b,hb⟩:=at_lt (show k+1<bs.length from h3)
 refine loop_code (xs:=p) (st:=stPf3 l bs k p) (g:=F.prtF (bs.getD k 0) (bs.getD (k+1) 0)) (o:=fun c=>(.ret,⟨[(4,vI c)],[]⟩)) (n:=([45,44,43,38,37,36,9,1],[])) (e:=([38,37,36,1],[])) (r:=([4],[])) ?_ ⟨by simp,rfl⟩ (fun _=>⟨by simp,rfl⟩) (fun _=>rfl) ?_ j h2
 ·rw[evPf3L];simp
 ·intro j y hy
  have hlt:=lt_at hy
  have hw:IntKind.i64.wrap ((k:Int)+1)=((k+1:Nat):Int):=w_add1 (by omega)
  rw[evPf3L]
  rw[ite_bif]
  simp only[Option.bind_some,unInts,unCaps,F.lt,cond_true,cast_lt hlt,decide_eq_true hlt,next_at hlt h1,getD_at hy,hw,idx_nat,decide_eq_true (lt_at ha),decide_eq_true (lt_at hb),getD_at ha,getD_at hb,stPf3,F.prtF]
  cases decide (y.fr<a)<;>cases decide (b<y.to)<;>cases y.bef<;>cases(y.fr != a)<;>cases y.aft<;>cases(y.to != b)<;>rfl

theorem evPf2L (l:List (List Cap)) (bs:List Int) (k:Nat):((exec enPf (loopN Tryz.f61 1) (stPf2 l bs k)).bind (lessX ([38,37,36,1],[]) ([],[]) ([4],[]))).val =
 bif decide ((↑k:Int)<(↑(List.length l):Int)) then Option.bind (unenc (List.map eL_eCap) (List.map eL_eCap l)) fun z=>bif decide (k <
 List.length z) then Option.bind (unenc stPf31 (St.mk [(45,(vI 0)),(44,(vI (↑(List.length (List.map eCap (List.getD z k []))):Int))),(43,AV.sl (List.map eCap
 (List.getD z k []))),(38,(vI (↑k:Int))),(37,(vI (↑(List.length l):Int))),(36,AV.sl (List.map eL_eCap l)),(9,(vI (↑k:Int))),(1,AV.sl (List.map eI bs))] []))
 fun z=>bif decide (List.length z.2.2.2.1≤9223372036854775807)&&decide (z.2.2.2.2 ≤
 List.length z.2.2.2.1)&&decide (z.2.2.1+1<List.length z.2.1∧List.length z.2.1≤9223372036854775807)&&true then bif decide
 (ffI (F.prtF (List.getD z.2.1 z.2.2.1 (0:Int)) (List.getD z.2.1 (z.2.2.1+1) (0:Int))) (List.drop z.2.2.2.2 z.2.2.2.1) =
 (0:Int)) then some (Ex.normal,St.mk [(38,(vI (IntKind.i64.wrap ((↑z.2.2.1:Int)+1)))),(37,(vI (↑(List.length z.1):Int))),(36,AV.sl
 (List.map eL_eCap z.1)),(1,AV.sl (List.map eI z.2.1))] []) else some (Ex.ret,St.mk [(4,(vI (ffI (F.prtF (List.getD z.2.1 z.2.2.1 (0:Int)) (List.getD
 z.2.1 (z.2.2.1+1) (0:Int))) (List.drop z.2.2.2.2 z.2.2.2.1))))] []) else none else none else some (Ex.exit (2:Nat),St.mk [] []):=(execR_bind _ _ _).symm.trans (by kernel_rfl)

theorem lpPf2_ok (l:List (List Cap)) (bs:List Int) (k:Nat) (hp:prlPf2 l bs k=true) : ∀ex s',(outPf2 l bs k).val=some (ex,s')→LoopOK enPf (loopN Tryz.f61 1) (stPf2 l bs k) ex s':=by
 simp only[prlPf2,Bool.and_eq_true,decide_eq_true_eq]at hp
 obtain⟨⟨⟨h1,h2⟩,h3⟩,h4⟩:=hp
 refine loop_gen (st:=stPf2 l bs) (out:=outPf2 l bs) (I:=fun k=>k≤l.length) (n:=([38,37,36,1],[])) (e:=([],[])) (r:=([4],[])) (fun k=>l.length - k) ?_ k h2
 intro k hk
 by_cases hlt:k<l.length
 ·have hy:l[k]? = some l[k]:=List.getElem?_eq_getElem hlt
  generalize l[k]=y at hy
  obtain⟨a,ha⟩:=at_lt (show k<bs.length by omega)
  obtain⟨b,hb⟩:=at_lt (show k+1<bs.length by omega)
  have hyl:=F.chk_len (ffI_all h4 y (List.mem_of_getElem? hy))
  have q1:k+1<bs.length∧bs.length≤9223372036854775807:=⟨by omega,by omega⟩
  have hs:=F.segF_at hy ha hb
  by_cases hc:M.ffI (F.prtF a b) y=0
  ·right
   rw[bne0 hc,cond_false]at hs
   refine⟨k+1,?_,rfl,hlt,by omega,by simp only[outPf2,hs]⟩
   rw[evPf2L]
   simp only[unstPf30,Option.bind_some,List.length_map,uneL_eCaps,cond_true,Bool.and_true,cast_lt hlt,decide_eq_true hlt,getD_at hy,decide_eq_true (show y.length≤9223372036854775807 by omega),Nat.zero_le,decide_true,decide_eq_true q1,List.drop_zero,getD_at ha,getD_at hb,decide_eq_true hc,w_add1 (show k<9223372036854775807 by omega),stPf2]
  ·left
   rw[bne1 hc,cond_true]at hs
   refine⟨(.ret,⟨[(4,vI (M.ffI (F.prtF a b) y))],[]⟩),?_,?_,by simp,rfl⟩
   ·rw[evPf2L]
    simp only[unstPf30,Option.bind_some,List.length_map,uneL_eCaps,cond_true,cond_false,Bool.and_true,cast_lt hlt,decide_eq_true hlt,getD_at hy,decide_eq_true (show y.length≤9223372036854775807 by omega),Nat.zero_le,decide_true,decide_eq_true q1,List.drop_zero,getD_at ha,getD_at hb,decide_eq_false hc]
   ·simp[outPf2,hs,hc,T.val]
 ·left
  have:k=l.length:=by omega
  subst this
  refine⟨(.exit 2,⟨[],[]⟩),?_,?_,by simp,rfl⟩
  ·rw[evPf2L];simp
  ·simp[outPf2,F.segF,T.val]

theorem evPf (l:List (List Cap)) (bs:List Int):(runF enPf false Tryz.f61 [.sl (l.map eL_eCap), .sl (bs.map eI)]).val =
 Option.bind (unenc stPf11 (St.mk [(15,(vI 0)),(14,(vI (↑(List.length (List.map eL_eCap l)):Int))),(13,AV.sl (List.map eL_eCap l)),(1,AV.sl (List.map eI
 bs)),(0,AV.sl (List.map eL_eCap l))] [])) fun z=>bif decide (List.length z.1≤9223372036854775807)&&decide (z.2.2
 ≤ List.length z.1)&&F.smLL z.1&&true then bif decide (ffI F.chkC (List.drop z.2.2 z.1)=(0:Int)) then Option.bind (unenc encBF [AV.sl (List.map eI
 z.2.1)]) fun z_1=>bif F.bnds z_1 != 0 then some ((vI (F.bnds z_1)),[]) else bif (↑(List.length (List.map eL_eCap z.1)):Int) != IntKind.wrap
 IntKind.i64 ((↑(List.length (List.map eI z.2.1)):Int) - (1:Int)) then some ((vI 3),[]) else Option.bind (unenc stPf21 (St.mk [(38,(vI 0)),(37,
 (vI (↑(List.length (List.map eL_eCap z.1)):Int))),(36,AV.sl (List.map eL_eCap z.1)),(1,AV.sl (List.map eI z.2.1))] [])) fun z=>bif decide (List.length z.2.1≤200)&&decide (z.2.2≤List.length z.1)&&decide (List.length z.1+1=List.length z.2.1) &&
 decide (ffI F.chkC z.1=(0:Int))&&true then bif decide (F.segF (List.drop z.2.2 z.1) (List.drop z.2.2 z.2.1)=(0:Int)) then some ((vI 0),
 []) else some ((vI (F.segF (List.drop z.2.2 z.1) (List.drop z.2.2 z.2.1))),[]) else none else some ((vI (ffI F.chkC (List.drop z.2.2 z.1))),[]) else
 none:=(runFR_val).symm.trans (by kernel_rfl)

def encPf1 (l:List (List Cap)) (bs:List Int):List AV:=[.sl (l.map eL_eCap), .sl (bs.map eI)]

def encPf (a:(List (List Cap))×(List Int)):List AV:=encPf1 a.1 a.2

theorem encPf_inj (a a':(List (List Cap))×(List Int)) (h:encPf a=encPf a'):a=a':=by
 simp only[encPf,encPf1]at h
 try simp[ints_inj,eL_eCaps_inj]at h
 grind

theorem unPf (l:List (List Cap)) (bs:List Int):unenc encPf ([AV.sl (List.map eL_eCap l),AV.sl (List.map eI bs)])=some (l,bs):=unenc_of encPf_inj (l,bs) rfl

def resPf1 (l:List (List Cap)) (bs:List Int):AV×Heap:=(vI (F.prtsF l bs),[])

def prePf1 (l:List (List Cap)) (bs:List Int):Bool:=F.smLL l

noncomputable def oPf:Orc:=orc 61 true encPf (fun a=>prePf1 a.1 a.2) fun a=>resPf1 a.1 a.2

theorem okPf:OrcOK Tryz.prog noG oPf:=by
 refine mk_ok Tryz.f61 (keep:=false) (by kernel_rfl) (by kernel_rfl) enPf_ok mixed (three_loops (x0:=loopN Tryz.f61 0) (x1:=loopN Tryz.f61 1) (x2:=loopN Tryz.f61 2) (by kernel_rfl) (lpo_ok ?_) (lpo_ok ?_) (lpo_ok ?_)) (by first | exact fun _ _=>⟨rfl,rfl⟩ | (intro h;cases h)) ?_
 ·rintro⟨l,bs,k⟩ hp
  exact lpPf1_ok l bs k hp
 ·rintro⟨l,bs,k⟩ hp
  exact lpPf2_ok l bs k hp
 ·rintro⟨l,bs,k,p,j⟩ hp
  exact lpPf3_ok l bs k p j hp
 rintro⟨l,bs⟩ hpre hok
 show(runF enPf false _ (encPf1 _ _)).val=some (resPf1 _ _)
 unfold encPf1 resPf1
 rw[evPf]
 simp only[prePf1]at hpre
 have hx:l.length≤9223372036854775807:=by simpa using(okA_sl (hok _ (List.mem_cons_self ..))).1
 simp only[unBF,unstPf10,unstPf20,Option.bind_some,List.length_map,cond_true,Bool.and_true,hx,List.drop_zero,Nat.zero_le,decide_true,hpre,F.prtsF]
 by_cases h0:M.ffI F.chkC l=0
 case neg=>simp only[decide_eq_false h0,bne1 h0,cond_true,cond_false]
 simp only[decide_eq_true h0,bne0 h0,cond_true,cond_false]
 by_cases hb:F.bnds bs=0
 case neg=>simp only[bne1 hb,cond_true]
 obtain⟨b1,b2⟩:=F.bnds_ok hb
 simp only[bne0 hb,cond_false,w_sub1 (show 1≤bs.length by omega) (show bs.length≤9223372036854775807 by omega)]
 have e:((l.length:Int) != ((bs.length - 1:Nat):Int))=(l.length+1 != bs.length):=by
  by_cases h:l.length+1=bs.length
  ·rw[show bs.length - 1=l.length by omega];simp[h]
  ·have h2 : ¬((l.length:Int)=((bs.length - 1:Nat):Int)):=by omega
   rw[bne_iff_ne.2 h,bne_iff_ne.2 h2]
 rw[e]
 by_cases h:l.length+1=bs.length
 case neg=>
  rw[show(l.length+1 != bs.length)=true from bne_iff_ne.2 h];rfl
 rw[show(l.length+1 != bs.length)=false by simp[h]]
 simp only[cond_false,decide_eq_true b2,decide_eq_true h]
 by_cases hs:F.segF l bs=0<;>simp[hs]

end M

def F.jnU (c o:Cap):Cap:=⟨o.fr,c.to,o.lines,o.row,o.bef,c.aft⟩

def F.jnI (a:Int) (out:List Cap) (c:Cap):Option Nat:=bif c.bef&&(c.fr==a) then F.findI (F.contd c) 0 out else none

def F.jnS (a:Int) (out:List Cap) (c:Cap):List Cap:=match F.jnI a out c with
 | some i=>out.set i (F.jnU c (out.getD i default))
 | none=>out++[c]

def F.jnB:List (List Cap)→List Int→List Cap→List Cap
 | p::ps,a::r,out=>F.jnB ps r (p.foldl (F.jnS a) out)
 | _,_,out=>out

def F.joinL (l:List (List Cap)) (bs:List Int):List Cap×Int:=
 bif F.prtsF l bs != 0 then ([],F.prtsF l bs) else bif decide (500<(F.jnB l bs []).length) then ([],2) else (K.srt F.ltC (F.jnB l bs []),0)

theorem F.findI_lt {α:Type} {p:α→Bool} : ∀ {l:List α} {k r:Nat},F.findI p k l=some r→k≤r∧r<k+l.length
 | [],_,_,h=>by cases h
 | y::l,k,r,h=>by
  unfold F.findI at h
  cases hc:p y
  ·rw[hc,cond_false]at h
   have:=F.findI_lt h
   simp only[List.length_cons]
   omega
  ·rw[hc,cond_true]at h
   cases h
   simp

theorem F.jnS_len (a:Int) (out:List Cap) (c:Cap):(F.jnS a out c).length≤out.length+1:=by
 unfold F.jnS
 split<;>simp

theorem F.jnF_len (a:Int) : ∀(p out:List Cap),(p.foldl (F.jnS a) out).length≤out.length+p.length
 | [],out=>Nat.le_refl _
 | c::p,out=>by
  have h1:=F.jnF_len a p (F.jnS a out c)
  have h2:=F.jnS_len a out c
  simp only[List.foldl_cons,List.length_cons]
  omega

theorem F.jnB_at {l:List (List Cap)} {bs:List Int} {k:Nat} {p out:List Cap} {a:Int} (hp:l[k]? = some p) (ha:bs[k]? = some a):F.jnB (l.drop k) (bs.drop k) out=F.jnB (l.drop (k+1)) (bs.drop (k+1)) (p.foldl (F.jnS a) out):=by
 rw[M.drop_at hp,M.drop_at ha]
 rfl

theorem F.jnB_end {bs:List Int} {out:List Cap}:F.jnB [] bs out=out:=by unfold F.jnB;rfl

theorem F.prts_ok {l:List (List Cap)} {bs:List Int} (h:F.prtsF l bs=0):M.ffI F.chkC l=0∧F.bnds bs=0∧l.length+1=bs.length:=by
 unfold F.prtsF at h
 by_cases h0:M.ffI F.chkC l=0
 case neg=>rw[M.bne1 h0,cond_true]at h;exact absurd h h0
 rw[M.bne0 h0,cond_false]at h
 by_cases hb:F.bnds bs=0
 case neg=>rw[M.bne1 hb,cond_true]at h;exact absurd h hb
 rw[M.bne0 hb,cond_false]at h
 by_cases hl:l.length+1=bs.length
 ·exact⟨h0,hb,hl⟩
 ·rw[bne_iff_ne.2 hl,cond_true]at h;cases h

theorem F.fold_at {α β:Type} {f:β→α→β} {p:List α} {j:Nat} {y:α} {out:β} (h:p[j]? = some y):(p.drop j).foldl f out=(p.drop (j+1)).foldl f (f out y):=by
 rw[M.drop_at h];rfl

namespace M

theorem getD_set {α:Type} {l:List α} {i:Nat} {x d:α} (h:i<l.length):(l.set i x).getD i d=x:=by simp[List.getD,h]

def stJ1 (l:List (List Cap)) (bs:List Int) (out:List Cap) (k:Nat):St:=⟨[(21,vI k),(20,vI l.length),(19, .sl (l.map eL_eCap)),(7, .own 7),(1, .sl (bs.map eI))],[(7,⟨false,122,6,out.map eCap⟩)]⟩

def stJ11 (a:(List (List Cap))×(List Int)×(List Cap)×Nat):St:=stJ1 a.1 a.2.1 a.2.2.1 a.2.2.2

theorem stJ1_inj (a a':(List (List Cap))×(List Int)×(List Cap)×Nat) (h:stJ11 a=stJ11 a'):a=a':=by
 simp only[stJ11,stJ1]at h
 try simp[ints_inj,eCaps_inj,eL_eCaps_inj]at h
 grind

theorem unstJ10 (l:List (List Cap)) (bs:List Int)  : unenc stJ11 (St.mk [(21,(vI (0:Int))),(20,(vI (↑(List.length l):Int))),(19,AV.sl (List.map eL_eCap l)),(7, .own 7),(1,AV.sl (List.map eI bs))] [(7,Blk.mk false 122 6 [])])=some (l,bs,[],0):=unenc_of stJ1_inj (l,bs,[],0) rfl

def outJ1 (l:List (List Cap)) (bs:List Int) (out:List Cap) (k:Nat):T (Ex×St):= .ret (.exit 0,⟨[(7, .own 7)],[(7,⟨false,122,6,(F.jnB (l.drop k) (bs.drop k) out).map eCap⟩)]⟩)

noncomputable def prlJ1 (l:List (List Cap)) (bs:List Int) (out:List Cap) (k:Nat):Bool:=decide (M.ffI F.chkC l=0∧bs.length≤200∧l.length+1=bs.length∧k≤l.length∧out.length≤k*500)&&F.smLL l

noncomputable def lpJ1:Nat×(St→T (Ex×St)):=(6,lpo [21,20,19,7,1] [7] stJ11 (fun a=>prlJ1 a.1 a.2.1 a.2.2.1 a.2.2.2) fun a=>outJ1 a.1 a.2.1 a.2.2.1 a.2.2.2)

def stJ2 (l:List (List Cap)) (bs:List Int) (out:List Cap) (k:Nat) (p:List Cap) (j:Nat):St:=⟨[(29,vI j),(28,vI p.length),(27, .own 28000),(21,vI k),(20,vI l.length),(19, .sl (l.map eL_eCap)),(8,vI k),(7, .own 7),(1, .sl (bs.map eI))],[(28000,⟨false,122,6,p.map eCap⟩),(7,⟨false,122,6,out.map eCap⟩)]⟩

def stJ21 (a:(List (List Cap))×(List Int)×(List Cap)×Nat×(List Cap)×Nat):St:=stJ2 a.1 a.2.1 a.2.2.1 a.2.2.2.1 a.2.2.2.2.1 a.2.2.2.2.2

theorem stJ2_inj (a a':(List (List Cap))×(List Int)×(List Cap)×Nat×(List Cap)×Nat) (h:stJ21 a=stJ21 a'):a=a':=by
 simp only[stJ21,stJ2]at h
 try simp[ints_inj,eCaps_inj,eL_eCaps_inj]at h
 grind

theorem unstJ20 (l:List (List Cap)) (bs:List Int) (out:List Cap) (k:Nat) (p:List Cap)  : unenc stJ21 (St.mk [(29,(vI (0:Int))),(28,(vI (↑(List.length p):Int))),(27, .own 28000),(21,(vI (↑k:Int))),(20,(vI (↑(List.length l):Int))),(19,AV.sl (List.map
 eL_eCap l)),(8,(vI (↑k:Int))),(7, .own 7),(1,AV.sl (List.map eI bs))] [(28000,Blk.mk false 122 6 (List.map eCap p)),(7,Blk.mk false 122 6 (List.map eCap out))])=some (l,bs,out,k,p,0):=unenc_of stJ2_inj (l,bs,out,k,p,0) rfl

def outJ2 (l:List (List Cap)) (bs:List Int) (out:List Cap) (k:Nat) (p:List Cap) (j:Nat):T (Ex×St):= .ret (.exit 2,⟨[(21,vI k),(20,vI l.length),(19, .sl (l.map eL_eCap)),(7, .own 7),(1, .sl (bs.map eI))],[(7,⟨false,122,6,((p.drop j).foldl (F.jnS (bs.getD k 0)) out).map eCap⟩)]⟩)

noncomputable def prlJ2 (l:List (List Cap)) (bs:List Int) (out:List Cap) (k:Nat) (p:List Cap) (j:Nat):Bool:=decide (p.length≤500∧k<bs.length∧bs.length≤200∧j≤p.length∧out.length≤k*500+j)&&F.smC p

noncomputable def lpJ2:Nat×(St→T (Ex×St)):=(9,lpo [29,28,27,21,20,19,8,7,1] [28000,7] stJ21 (fun a=>prlJ2 a.1 a.2.1 a.2.2.1 a.2.2.2.1 a.2.2.2.2.1 a.2.2.2.2.2) fun a=>outJ2 a.1 a.2.1 a.2.2.1 a.2.2.2.1 a.2.2.2.2.1 a.2.2.2.2.2)

noncomputable def enJ:Env:=envH ty noG lks [oPf,oCpO,oIxc] [oSSt] [] [lpJ1,lpJ2]

theorem enJ_ok:EnvOK Tryz.prog enJ:=by
 refine envH_ok lks_ok ty_ok ?_ ?_
 ·simp only[List.forall_mem_cons]
  exact⟨okPf,okCpO,okIxc,by simp⟩
 ·simp only[List.forall_mem_cons]
  exact⟨okSSt,by simp⟩

theorem evJ2L (l:List (List Cap)) (bs:List Int) (out:List Cap) (k:Nat) (p:List Cap) (j:Nat):((exec enJ (loopN Tryz.f21 1) (stJ2 l bs out k p j)).bind (lessX ([29,28,27,21,20,19,8,7,1],[28000,7]) ([21,20,19,7,1],[7]) ([],[]))).val =
 (fun(q:AV)=>(fun(q_1:Blk)=>(fun(q_2:Blk)=>(fun(q_3:Cap)=>(fun(q_4:Nat×Blk)=>(fun(q_5:Bool)=>(fun(q_6:List (Nat×AV))=>bif decide ((↑j
 : Int)<(↑(List.length p):Int)) then bif decide (j<List.length q_1.rows) then Option.bind (unenc (List.map eCap) (List.map eCap p)) fun z=>(fun(q :
 AV)=>(fun(q_7:List AV)=>(fun(q_8:Option (Ex×St))=>bif decide (j<List.length z) then bif (List.getD z j q_3).bef then Option.bind (unenc (List.map eI)
 (List.map eI bs)) fun z_1=>bif decide (k<List.length z_1) then bif (List.getD z j q_3).fr==List.getD z_1 k 0 then Option.bind (unenc encIxc
 [AV.sl (List.map eCap out),AV.fn (64:Nat) [AV.pel q_7 (0:Nat)]]) fun z_2=>(fun(q_9:Int)=>bif decide ((0:Int)≤q_9) then Option.bind (idx
 q_9) fun z_3=>bif decide (z_3<List.length q_2.rows) then Option.bind (unenc (List.map eCap) (List.map eCap out)) fun z_4=>(fun(q:List Row)=>
 bif decide (z_3<List.length z_4) then Option.bind (idx q_9) fun z_5=>bif decide (z_5<List.length (Blk.mk false 122 6 q).rows) then Option.bind (unenc
 (List.map eCap) q) fun z_6=>bif decide (z_5<List.length z_6) then some (Ex.normal,St.mk q_6 [q_4,(7,Blk.mk false 122 6 (List.set q z_5 [(vI (List.getD
 z_6 z_5 q_3).fr),(vI (List.getD z_6 z_5 q_3).to),AV.sl (List.map eStr (List.getD z_6 z_5 q_3).lines),(vI (List.getD z_6 z_5 q_3).row),(vB (List.getD z_6 z_5 q_3).bef),
 (vB (List.getD z j q_3).aft)]))]) else none else none else none) (List.set (List.map eCap out) z_3 [(vI (List.getD z_4 z_3 q_3).fr),q,AV.sl (List.map eStr (List.getD z_4
 z_3 q_3).lines),(vI (List.getD z_4 z_3 q_3).row),(vB (List.getD z_4 z_3 q_3).bef),(vB (List.getD z_4 z_3 q_3).aft)]) else none else q_8) (F.idxI (F.findI (F.contd
 z_2.2) (0:Nat) z_2.1)) else q_8 else none else q_8 else none) (bif q_5 then some (Ex.normal,St.mk q_6 [q_4,(7,Blk.mk false 122 6 (List.map eCap out++[q_7]))])
 else none)) [(vI (List.getD z j q_3).fr),q,AV.sl (List.map eStr (List.getD z j q_3).lines),(vI (List.getD z j q_3).row),(vB (List.getD z j q_3).bef),(vB (List.getD z
 j q_3).aft)]) ((vI (List.getD z j q_3).to)) else none else some (Ex.exit (2:Nat),St.mk [(21,q),(20,(vI (↑(List.length l):Int))),(19,AV.sl (List.map eL_eCap l)),
 (7, .own 7),(1,AV.sl (List.map eI bs))] [(7,q_2)])) [(29,(vI (IntKind.i64.wrap ((↑j:Int)+1)))),(28,(vI (↑(List.length p):Int))),(27, .own
 28000),(21,q),(20,(vI (↑(List.length l):Int))),(19,AV.sl (List.map eL_eCap l)),(8,q),(7, .own 7),(1,AV.sl (List.map eI bs))]) (Nat.ble ((List.length (List.map
 eCap out)+1)*56) 140737488355328&&true)) (28000,q_1)) (Cap.mk (0:Int) (0:Int) [] (0:Int) false false)) (Blk.mk false 122 6 (List.map
 eCap out))) (Blk.mk false 122 6 (List.map eCap p))) ((vI (↑k:Int))):=(execR_bind _ _ _).symm.trans (by kernel_rfl)

theorem lpJ2_ok (l:List (List Cap)) (bs:List Int) (out:List Cap) (k:Nat) (p:List Cap) (j:Nat) (hp:prlJ2 l bs out k p j=true) : ∀ex s',(outJ2 l bs out k p j).val=some (ex,s')→LoopOK enJ (loopN Tryz.f21 1) (stJ2 l bs out k p j) ex s':=by
 simp only[prlJ2,Bool.and_eq_true,decide_eq_true_eq]at hp
 obtain⟨⟨h1,h2,h3,h4,h5⟩,h6⟩:=hp
 obtain⟨a,ha⟩:=at_lt (show k<bs.length from h2)
 refine loop_gen (st:=fun s:List Cap×Nat=>stJ2 l bs s.1 k p s.2) (out:=fun s=>outJ2 l bs s.1 k p s.2) (I:=fun s=>s.2≤p.length∧s.1.length≤k*500+s.2) (n:=([29,28,27,21,20,19,8,7,1],[28000,7])) (e:=([21,20,19,7,1],[7])) (r:=([],[])) (fun s=>p.length - s.2) ?_ (out,j) ⟨h4,h5⟩
 rintro⟨out,j⟩ ⟨h4,h5⟩
 simp only at h4 h5
 by_cases hlt:j<p.length
 ·right
  have hy:p[j]? = some p[j]:=List.getElem?_eq_getElem hlt
  generalize p[j]=y at hy
  have hbl:Nat.ble ((out.length+1)*56) 140737488355328=true:=ble_t (by omega)
  have hS:=F.jnS_len a out y
  refine⟨(F.jnS a out y,j+1),?_,rfl,⟨hlt,by simp only;omega⟩,by simp only;omega,?_⟩
  ·rw[evJ2L]
   have hm:decide ((0:Int) ≤ -1)=false:=rfl
   have app:F.jnI a out y=none→F.jnS a out y=out++[y]:=fun h=>by unfold F.jnS;rw[h]
   cases hb:y.bef
   ·have e:F.jnI a out y=none:=by unfold F.jnI;rw[hb];rfl
    simp only[unIxcw,etaCap,Option.bind_some,List.length_map,unInts,unCaps,cond_true,cond_false,Bool.and_true,cast_lt hlt,decide_eq_true hlt,getD_at hy,hb,hbl,next_at hlt (by omega:p.length≤9223372036854775807),app e,appWCaps,stJ2]
   ·cases hf:y.fr==a
    ·have e:F.jnI a out y=none:=by unfold F.jnI;rw[hb,hf];rfl
     simp only[unIxcw,etaCap,Option.bind_some,List.length_map,unInts,unCaps,cond_true,cond_false,Bool.and_true,cast_lt hlt,decide_eq_true hlt,getD_at hy,hb,hf,decide_eq_true (lt_at ha),getD_at ha,hbl,next_at hlt (by omega:p.length≤9223372036854775807),app e,appWCaps,stJ2]
    ·have e:F.jnI a out y=F.findI (F.contd y) 0 out:=by unfold F.jnI;rw[hb,hf];rfl
     cases hx:F.findI (F.contd y) 0 out with
     | none=>
      have hi:F.idxI none = -1:=rfl
      simp only[unIxcw,etaCap,Option.bind_some,List.length_map,unInts,unCaps,cond_true,cond_false,Bool.and_true,cast_lt hlt,decide_eq_true hlt,getD_at hy,hb,hf,decide_eq_true (lt_at ha),getD_at ha,hx,hi,hm,hbl,next_at hlt (by omega:p.length≤9223372036854775807),app (e.trans hx),appWCaps,stJ2]
     | some i=>
      have hil:i<out.length:=by have:=F.findI_lt hx;omega
      have hi:F.idxI (some i)=((i:Nat):Int):=rfl
      have h0:decide ((0:Int)≤((i:Nat):Int))=true:=decide_eq_true (by omega)
      have h00:decide (((i:Nat):Int)<(0:Int))=false:=decide_eq_false (by omega)
      have ho:out[i]? = some out[i]:=List.getElem?_eq_getElem hil
      generalize out[i]=o at ho
      have e2:F.jnS a out y=out.set i (F.jnU y o):=by unfold F.jnS;rw[e,hx];simp only[getD_at ho]
      simp only[unIxcw,etaCap,Option.bind_some,List.length_map,unInts,unCaps,cond_true,Bool.and_true,cast_lt hlt,decide_eq_true hlt,getD_at hy,hb,hf,decide_eq_true (lt_at ha),getD_at ha,hx,hi,h0,idx_nat,decide_eq_true hil,getD_at ho,setWCaps,getD_set hil,List.length_set,List.set_set,next_at hlt (by omega:p.length≤9223372036854775807),e2,F.jnU,stJ2]
  ·simp only[outJ2,F.fold_at hy,getD_at ha]
 ·left
  have:j=p.length:=by omega
  subst this
  refine⟨_,?_,rfl,by simp,rfl⟩
  rw[evJ2L]
  simp

theorem evJ1L (l:List (List Cap)) (bs:List Int) (out:List Cap) (k:Nat):((exec enJ (loopN Tryz.f21 0) (stJ1 l bs out k)).bind (lessX ([21,20,19,7,1],[7]) ([7],[7]) ([],[]))).val =
 bif decide ((↑k:Int)<(↑(List.length l):Int)) then Option.bind (unenc (List.map eL_eCap) (List.map eL_eCap l)) fun z=>bif decide (k <
 List.length z) then Option.bind (unenc encCpO [AV.sl (List.map eCap (List.getD z k []))]) fun z=>bif F.capSm z then Option.bind (unenc stJ21 (St.mk [(29,
 (vI 0)),(28,(vI (↑(List.length (List.map eCap z)):Int))),(27, .own 28000),(21,(vI (↑k:Int))),(20,(vI (↑(List.length l):Int))),(19,AV.sl (List.map
 eL_eCap l)),(8,(vI (↑k:Int))),(7, .own 7),(1,AV.sl (List.map eI bs))] [(28000,Blk.mk false 122 6 (List.map eCap z)),(7,Blk.mk false 122 6 (List.map eCap out))]))
 fun z=>bif decide (List.length z.2.2.2.2.1≤500∧z.2.2.2.1<List.length
 z.2.1∧List.length z.2.1≤200∧z.2.2.2.2.2≤List.length z.2.2.2.2.1∧List.length z.2.2.1≤z.2.2.2.1*500 +
 z.2.2.2.2.2)&&F.smC z.2.2.2.2.1&&true then some (Ex.normal,St.mk [(21,(vI (IntKind.i64.wrap ((↑z.2.2.2.1:Int)+1)))),
 (20,(vI (↑(List.length z.1):Int))),(19,AV.sl (List.map eL_eCap z.1)),(7, .own 7),(1,AV.sl (List.map eI z.2.1))] [(7,Blk.mk false 122 6 (List.map eCap
 (List.foldl (F.jnS (List.getD z.2.1 z.2.2.2.1 (0:Int))) z.2.2.1 (List.drop z.2.2.2.2.2 z.2.2.2.2.1))))]) else none else none else
 none else some (Ex.exit (0:Nat),St.mk [(7, .own 7)] [(7,Blk.mk false 122 6 (List.map eCap out))]):=(execR_bind _ _ _).symm.trans (by kernel_rfl)

theorem lpJ1_ok (l:List (List Cap)) (bs:List Int) (out:List Cap) (k:Nat) (hp:prlJ1 l bs out k=true) : ∀ex s',(outJ1 l bs out k).val=some (ex,s')→LoopOK enJ (loopN Tryz.f21 0) (stJ1 l bs out k) ex s':=by
 simp only[prlJ1,Bool.and_eq_true,decide_eq_true_eq]at hp
 obtain⟨⟨h1,h2,h3,h4,h5⟩,h6⟩:=hp
 refine loop_gen (st:=fun s:List Cap×Nat=>stJ1 l bs s.1 s.2) (out:=fun s=>outJ1 l bs s.1 s.2) (I:=fun s=>s.2≤l.length∧s.1.length≤s.2*500) (n:=([21,20,19,7,1],[7])) (e:=([7],[7])) (r:=([],[])) (fun s=>l.length - s.2) ?_ (out,k) ⟨h4,h5⟩
 rintro⟨out,k⟩ ⟨h4,h5⟩
 simp only at h4 h5
 by_cases hlt:k<l.length
 ·right
  have hy:l[k]? = some l[k]:=List.getElem?_eq_getElem hlt
  generalize l[k]=y at hy
  obtain⟨a,ha⟩:=at_lt (show k<bs.length by omega)
  have hc:=ffI_all h1 y (List.mem_of_getElem? hy)
  have hl:=F.chk_len hc
  have hm:=F.chk_sm hc
  have hs:F.smC y=true:=List.all_eq_true.1 h6 y (List.mem_of_getElem? hy)
  have hF:=F.jnF_len a y out
  refine⟨(y.foldl (F.jnS a) out,k+1),?_,rfl,⟨hlt,by simp only;omega⟩,by simp only;omega,?_⟩
  ·rw[evJ1L]
   have q1:y.length≤500∧k<bs.length∧bs.length≤200∧0≤y.length∧out.length≤k*500+0:=⟨hl,by omega,h2,Nat.zero_le _,by rw[Nat.add_zero];exact h5⟩
   simp only[unCpO,unstJ20,Option.bind_some,List.length_map,uneL_eCaps,cond_true,Bool.and_true,cast_lt hlt,decide_eq_true hlt,getD_at hy,hm,decide_eq_true q1,hs,List.drop_zero,getD_at ha,next_at hlt (by omega:l.length≤9223372036854775807),stJ1]
  ·simp only[outJ1,F.jnB_at hy ha]
 ·left
  have:k=l.length:=by omega
  subst this
  refine⟨_,?_,rfl,by simp,rfl⟩
  rw[evJ1L]
  simp[F.jnB_end]

theorem evJ (l:List (List Cap)) (bs:List Int):(runF enJ false Tryz.f21 [.sl (l.map eL_eCap), .sl (bs.map eI)]).val =
 Option.bind (unenc encPf [AV.sl (List.map eL_eCap l),AV.sl (List.map eI bs)]) fun z=>bif F.smLL z.1 then bif F.prtsF z.1 z.2 != 0 then some (AV.tup [AV.sl [],(vI (F.prtsF z.1 z.2))],[]) else Option.bind (unenc stJ11 (St.mk [(21,(vI 0)),(20,(vI (↑(List.length (List.map eL_eCap
 l)):Int))),(19,AV.sl (List.map eL_eCap l)),(7, .own 7),(1,AV.sl (List.map eI bs))] [(7,Blk.mk false 122 6 [])])) fun z=>bif decide (ffI F.chkC z.1=(0:Int)∧List.length z.2.1≤200∧List.length z.1+1=List.length z.2.1∧z.2.2.2 ≤
 List.length z.1∧List.length z.2.2.1≤z.2.2.2*500)&&F.smLL z.1&&true then bif decide ((500:Int)<(↑(List.length (List.map eCap (F.jnB
 (List.drop z.2.2.2 z.1) (List.drop z.2.2.2 z.2.1) z.2.2.1))):Int)) then some (AV.tup [AV.sl [],(vI 2)],[]) else Option.bind (unenc
 encSSt ([.own 900,AV.fn (66:Nat) []],[(900,Blk.mk false 122 6 (List.map eCap (F.jnB (List.drop z.2.2.2 z.1) (List.drop z.2.2.2 z.2.1)
 z.2.2.1)))])) fun z=>bif decide (List.length z≤100000) then some (AV.tup [AV.sl (List.map eCap (K.srt F.ltC z)),(vI 0)],[]) else
 none else none else none:=(runFR_val).symm.trans (by kernel_rfl)

def encJ1 (l:List (List Cap)) (bs:List Int):List AV:=[.sl (l.map eL_eCap), .sl (bs.map eI)]

def encJ (a:(List (List Cap))×(List Int)):List AV:=encJ1 a.1 a.2

theorem encJ_inj (a a':(List (List Cap))×(List Int)) (h:encJ a=encJ a'):a=a':=by
 simp only[encJ,encJ1]at h
 try simp[ints_inj,eL_eCaps_inj]at h
 grind

theorem unJ (l:List (List Cap)) (bs:List Int):unenc encJ ([AV.sl (List.map eL_eCap l),AV.sl (List.map eI bs)])=some (l,bs):=unenc_of encJ_inj (l,bs) rfl

def resJ1 (l:List (List Cap)) (bs:List Int):AV×Heap:=(.tup [.sl ((F.joinL l bs).1.map eCap),vI (F.joinL l bs).2],[])

def preJ1 (l:List (List Cap)) (bs:List Int):Bool:=F.smLL l

noncomputable def oJ:Orc:=orc 21 false encJ (fun a=>preJ1 a.1 a.2) fun a=>resJ1 a.1 a.2

theorem okJ:OrcOK Tryz.prog noG oJ:=by
 refine mk_ok Tryz.f21 (keep:=false) (by kernel_rfl) (by kernel_rfl) enJ_ok mixed (two_loops (x0:=loopN Tryz.f21 0) (x1:=loopN Tryz.f21 1) (by kernel_rfl) (lpo_ok ?_) (lpo_ok ?_)) (by first | exact fun _ _=>⟨rfl,rfl⟩ | (intro h;cases h)) ?_
 ·rintro⟨l,bs,out,k⟩ hp
  exact lpJ1_ok l bs out k hp
 ·rintro⟨l,bs,out,k,p,j⟩ hp
  exact lpJ2_ok l bs out k p j hp
 rintro⟨l,bs⟩ hpre hok
 show(runF enJ false _ (encJ1 _ _)).val=some (resJ1 _ _)
 unfold encJ1 resJ1
 rw[evJ]
 simp only[preJ1]at hpre
 simp only[unPf,unSSt,unstJ10,Option.bind_some,List.length_map,cond_true,Bool.and_true,hpre,F.joinL]
 by_cases h0:F.prtsF l bs=0
 case neg=>
  rw[bne1 h0];rfl
 rw[bne0 h0]
 obtain⟨p1,p2,p3⟩:=F.prts_ok h0
 obtain⟨b1,b2⟩:=F.bnds_ok p2
 have q1:M.ffI F.chkC l=0∧bs.length≤200∧l.length+1=bs.length∧0≤l.length∧([]:List Cap).length≤0*500:=⟨p1,b2,p3,Nat.zero_le _,Nat.le_refl _⟩
 have e5 : ∀n:Nat,decide ((500:Int)<(n:Int))=decide (500<n):=fun n=>cast_gt 500 n
 simp only[cond_false,decide_eq_true q1,cond_true,List.drop_zero,e5]
 by_cases hb:500<(F.jnB l bs []).length
 ·rw[decide_eq_true hb];rfl
 ·rw[decide_eq_false hb]
  simp only[cond_false,decide_eq_true (show(F.jnB l bs []).length≤100000 by omega),cond_true]

end M

namespace K

theorem ins_map {α β:Type} (g:α→β) (lt:β→β→Bool) (c:α) : ∀l:List α,ins lt (g c) (l.map g)=(ins (fun x y=>lt (g x) (g y)) c l).map g
 | []=>rfl
 | d::l=>by
  simp only[List.map_cons,ins]
  cases lt (g c) (g d)
  ·simp only[cond_false,List.map_cons,ins_map g lt c l]
  ·rfl

theorem srt_map {α β:Type} (g:α→β) (lt:β→β→Bool) (xs:List α):srt lt (xs.map g)=(srt (fun x y=>lt (g x) (g y)) xs).map g:=by
 have key : ∀(xs acc:List α),(xs.map g).foldl (fun out c=>ins lt c out) (acc.map g)=(xs.foldl (fun out c=>ins (fun x y=>lt (g x) (g y)) c out) acc).map g:=by
  intro xs
  induction xs with
  | nil=>intro acc;rfl
  | cons c xs ih=>intro acc;simp only[List.map_cons,List.foldl_cons,ins_map,ih]
 exact key xs []

theorem SW.on {α β:Type} {lt:β→β→Bool} (h:SW lt) (g:α→β):SW (fun x y=>lt (g x) (g y)):=⟨fun a b=>h.asym _ _,fun a b c=>h.tr _ _ _⟩

end K

namespace Jn

theorem seq_symm (a b:ByteArray):F.seq a b=F.seq b a:=by
 unfold F.seq
 by_cases h:a.toList=b.toList
 ·rw[h]
 ·have h2 : ¬b.toList=a.toList:=fun e=>h e.symm
  rw[beq_eq_false_iff_ne.2 h,beq_eq_false_iff_ne.2 h2]

theorem sameSs_symm : ∀(a b:List ByteArray),F.sameSs (a.zip b)=F.sameSs (b.zip a)
 | [],_=>by simp[F.sameSs]
 | _::_,[]=>by simp[F.sameSs]
 | x::a,y::b=>by
  have ih:=sameSs_symm a b
  unfold F.sameSs at ih ⊢
  simp only[List.zip_cons_cons,List.all_cons]
  rw[ih,seq_symm]

theorem sameSL_symm (a b:List ByteArray):F.sameSL a b=F.sameSL b a:=by
 unfold F.sameSL
 rw[sameSs_symm]
 congr 1
 by_cases h:a.length=b.length
 ·rw[decide_eq_true h,decide_eq_true h.symm]
 ·rw[decide_eq_false h,decide_eq_false (fun e=>h e.symm)]

def key (u v:Cap):Bool:=(u.row==v.row)&&F.sameSL u.lines v.lines

theorem key_symm (u v:Cap):key u v=key v u:=by
 unfold key
 rw[sameSL_symm]
 congr 1
 by_cases h:u.row=v.row
 ·rw[h]
 ·rw[beq_eq_false_iff_ne.2 h,beq_eq_false_iff_ne.2 (fun e=>h e.symm)]

theorem key_refl (u:Cap):key u u=true:=by simp[key,F.sameSL_refl]

def tr (b:Int) (c:Cap):Cap:=bif F.lt b c.to then ⟨c.fr,b,c.lines,c.row,c.bef,true⟩ else c

def cut (a b:Int) (c:Cap):Cap:=⟨max c.fr a,min c.to b,c.lines,c.row,c.bef||F.lt c.fr (max c.fr a),c.aft||F.lt (min c.to b) c.to⟩

def act (a b:Int) (c:Cap):Bool:= !F.le (min c.to b) (max c.fr a)

theorem cut_eq (a b:Int) : ∀l:List Cap,l.filterMap (F.cutC a b)=(l.filter (act a b)).map (cut a b)
 | []=>rfl
 | c::l=>by
  rw[List.filterMap_cons,List.filter_cons,cut_eq a b l]
  unfold F.cutC act
  cases F.le (min c.to b) (max c.fr a)<;>rfl

theorem tr_cut (b:Int) (c:Cap) (ha:c.aft=false):(⟨c.fr,min c.to b,c.lines,c.row,c.bef,c.aft||F.lt (min c.to b) c.to⟩:Cap)=tr b c:=by
 unfold tr F.lt
 by_cases h:b<c.to
 ·rw[decide_eq_true h,Int.min_eq_right (by omega),decide_eq_true h,ha];rfl
 ·rw[decide_eq_false h,Int.min_eq_left (by omega),decide_eq_false (by omega),Bool.or_false];rfl

structure Ok (l:List Cap):Prop where
 nd:l.Nodup
 ap : ∀u∈l,∀v∈l,u≠v→u.fr≤v.to→v.fr≤u.to→key u v=false
 lt : ∀c∈l,c.fr<c.to
 nb : ∀c∈l,c.bef=false∧c.aft=false

theorem act_old {a b:Int} {c:Cap} (hab:a<b) (h:c.fr<a) (hc:act a b c=true):a<c.to:=by
 simp only[act,F.le,Bool.not_eq_true',decide_eq_false_iff_not]at hc
 omega

theorem act_iff {a b:Int} {c:Cap} (hab:a<b) (h:c.fr<c.to):act a b c=true↔c.fr<b∧a<c.to:=by
 simp only[act,F.le,Bool.not_eq_true',decide_eq_false_iff_not]
 omega

theorem findI_first {α:Type} {p:α→Bool} : ∀ {l:List α} {k r:Nat} {y:α},l[r]? = some y→p y=true→(∀i x,i<r→l[i]? = some x→p x=false)→F.findI p k l=some (k+r)
 | x::l,k,0,y,h1,h2,_=>by
  cases h1
  unfold F.findI
  rw[h2];rfl
 | x::l,k,r+1,y,h1,h2,h3=>by
  unfold F.findI
  rw[h3 0 x (by omega) rfl,cond_false,findI_first (k:=k+1) (r:=r) h1 h2 fun i z hi hz=>h3 (i+1) z (by omega) hz]
  congr 1
  omega

theorem nodup_at {α:Type} {xs:List α} (h:xs.Nodup) {i j:Nat} {c:α} (hi:xs[i]? = some c) (hj:xs[j]? = some c):i=j:=by
 have h1:=List.getElem?_eq_some_iff.1 hi
 have h2:=List.getElem?_eq_some_iff.1 hj
 have hp:=List.pairwise_iff_getElem.1 h
 rcases Nat.lt_trichotomy i j with hlt | heq | hgt
 ·exact absurd (h1.2.trans h2.2.symm) (hp i j h1.1 h2.1 hlt)
 ·exact heq
 ·exact absurd (h2.2.trans h1.2.symm) (hp j i h2.1 h1.1 hgt)

open Classical in
noncomputable def st (b0 b1:Int) (P done:List Cap):List Cap:=
 P.map (fun c=>if c∈done then tr b1 c else tr b0 c)++(done.filter fun c=>decide (b0≤c.fr)).map (tr b1)

theorem step {l:List Cap} (ok:Ok l) {b0 b1:Int} (hb:b0<b1) {P:List Cap} (hP:P.Nodup) (hPm : ∀c,c∈P↔c∈l∧c.fr<b0) {done:List Cap} {c:Cap} (hd : ∀d∈done,d∈l∧act b0 b1 d=true) (hc:c∈l) (ha:act b0 b1 c=true) (hcd:c∉done) :
  F.jnS b0 (st b0 b1 P done) (cut b0 b1 c)=st b0 b1 P (done++[c]):=by
 classical
 obtain⟨nb1,nb2⟩:=ok.nb c hc
 by_cases hnew:b0≤c.fr
 ·have hbef:(cut b0 b1 c).bef=false:=by
   simp only[cut,nb1,Bool.false_or,F.lt,decide_eq_false_iff_not]
   omega
  have hI:F.jnI b0 (st b0 b1 P done) (cut b0 b1 c)=none:=by unfold F.jnI;rw[hbef];rfl
  have hcut:cut b0 b1 c=tr b1 c:=by
   rw[←tr_cut b1 c nb2]
   have hm:max c.fr b0=c.fr:=Int.max_eq_left hnew
   have hl:F.lt c.fr c.fr=false:=by simp[F.lt]
   simp only[cut,hm,hl,Bool.or_false]
  unfold F.jnS
  rw[hI]
  simp only
  rw[hcut]
  unfold st
  rw[List.filter_append,List.map_append,←List.append_assoc]
  have e2:(List.filter (fun c=>decide (b0≤c.fr)) [c]).map (tr b1)=[tr b1 c]:=by
   rw[List.filter_cons,decide_eq_true hnew];rfl
  rw[e2]
  congr 2
  refine List.map_congr_left fun x hx=>?_
  have hne:x≠c:=fun e=>by have:=((hPm x).1 hx).2;rw[e]at this;omega
  simp[hne]
 ·have hold:c.fr<b0:=by omega
  have hto:=act_old hb hold ha
  obtain⟨i,hi⟩:=List.getElem?_of_mem ((hPm c).2 ⟨hc,hold⟩)
  have hil:=(List.getElem?_eq_some_iff.1 hi).1
  have hmax:max c.fr b0=b0:=Int.max_eq_right (by omega)
  have hlt:F.lt c.fr b0=true:=by simp[F.lt,hold]
  have hbef:(cut b0 b1 c).bef=true:=by simp only[cut,hmax,hlt,Bool.or_true]
  have hfr:(cut b0 b1 c).fr=b0:=hmax
  have htr0:tr b0 c=⟨c.fr,b0,c.lines,c.row,c.bef,true⟩:=by
   unfold tr F.lt;rw[decide_eq_true hto];rfl
  have hat:(st b0 b1 P done)[i]? = some (tr b0 c):=by
   unfold st
   rw[List.getElem?_append_left (by simpa using hil),List.getElem?_map,hi]
   simp[hcd]
  have hI:F.findI (F.contd (cut b0 b1 c)) 0 (st b0 b1 P done)=some (0+i):=by
   refine findI_first hat ?_ fun j x hj hx=>?_
   ·rw[htr0]
    unfold F.contd
    rw[hfr]
    simp[cut,F.sameSL_refl]
   ·unfold st at hx
    rw[List.getElem?_append_left (by rw[List.length_map];omega),List.getElem?_map]at hx
    obtain⟨d,hdj,rfl⟩:=Option.map_eq_some_iff.1 hx
    have hne:d≠c:=fun e=>by
     rw[e]at hdj
     have:=nodup_at hP hdj hi
     omega
    obtain⟨hdl,hdf⟩:=(hPm d).1 (List.mem_of_getElem? hdj)
    have hnbd:=ok.nb d hdl
    unfold F.contd
    rw[hfr]
    by_cases hdd:d∈done
    ·rw[if_pos hdd]
     have hdt:=act_old hb hdf (hd d hdd).2
     have:((tr b1 d).to==b0)=false:=by
      refine beq_eq_false_iff_ne.2 ?_
      unfold tr F.lt
      by_cases h:b1<d.to
      ·rw[decide_eq_true h]
       show b1≠b0
       omega
      ·rw[decide_eq_false h]
       show d.to≠b0
       omega
     rw[this,Bool.and_false,Bool.false_and,Bool.false_and]
    ·rw[if_neg hdd]
     by_cases hdt:b0<d.to
     ·have hk:=ok.ap d hdl c hc hne (by omega) (by omega)
      have e:tr b0 d=⟨d.fr,b0,d.lines,d.row,d.bef,true⟩:=by unfold tr F.lt;rw[decide_eq_true hdt];rfl
      rw[e]
      unfold key at hk
      show(true&&(b0==b0)&&(d.row==c.row)&&F.sameSL d.lines c.lines)=false
      rw[beq_self_eq_true,Bool.true_and,Bool.true_and]
      exact hk
     ·have e:tr b0 d=d:=by unfold tr F.lt;rw[decide_eq_false hdt];rfl
      rw[e,hnbd.2,Bool.false_and,Bool.false_and,Bool.false_and]
  have hI2:F.jnI b0 (st b0 b1 P done) (cut b0 b1 c)=some i:=by
   unfold F.jnI
   rw[hbef,hfr,beq_self_eq_true,Bool.true_and,cond_true,hI,Nat.zero_add]
  unfold F.jnS
  rw[hI2]
  simp only
  rw[M.getD_at hat]
  have hU:F.jnU (cut b0 b1 c) (tr b0 c)=tr b1 c:=by
   rw[htr0,←tr_cut b1 c nb2]
   rfl
  rw[hU]
  unfold st
  rw[List.set_append_left _ _ (by simpa using hil),List.filter_append]
  have e2:List.filter (fun c=>decide (b0≤c.fr)) [c]=[]:=by
   rw[List.filter_cons,decide_eq_false hnew];rfl
  rw[e2,List.append_nil]
  congr 1
  refine List.ext_getElem? fun j=>?_
  by_cases hj:j=i
  ·subst hj
   rw[List.getElem?_set_self (by simpa using hil),List.getElem?_map,hi]
   simp
  ·rw[List.getElem?_set_ne (fun e=>hj e.symm),List.getElem?_map,List.getElem?_map]
   cases hx:P[j]? with
   | none=>rfl
   | some d=>
    have hne:d≠c:=fun e=>by
     rw[e]at hx
     exact hj (nodup_at hP hx hi)
    simp[hne]

theorem steps {l:List Cap} (ok:Ok l) {b0 b1:Int} (hb:b0<b1) {P:List Cap} (hP:P.Nodup) (hPm : ∀c,c∈P↔c∈l∧c.fr<b0) :
  ∀(rest done:List Cap),(done++rest).Nodup→(∀d∈done++rest,d∈l∧act b0 b1 d=true)→(rest.map (cut b0 b1)).foldl (F.jnS b0) (st b0 b1 P done)=st b0 b1 P (done++rest)
 | [],done,_,_=>by simp
 | c::rest,done,h1,h2=>by
  have hc:=h2 c (by simp)
  have hcd:c∉done:=fun e=>by
   rw[List.nodup_append]at h1
   exact h1.2.2 c e c (by simp) rfl
  rw[List.map_cons,List.foldl_cons,step ok hb hP hPm (fun d hd=>h2 d (by simp[hd])) hc.1 hc.2 hcd]
  have e:done++c::rest=(done++[c])++rest:=by simp
  rw[e]at h1 h2 ⊢
  exact steps ok hb hP hPm rest (done++[c]) h1 h2

structure Inv (l:List Cap) (b:Int) (P:List Cap):Prop where
 nd:P.Nodup
 mem : ∀c,c∈P↔c∈l∧c.fr<b
 fil : ∀z,P.filter (K.eqv F.ltC z)=(l.filter fun c=>decide (c.fr<b)).filter (K.eqv F.ltC z)

theorem eqv_C {z c:Cap}:K.eqv F.ltC z c=true↔z.fr=c.fr∧z.to=c.to:=by
 unfold K.eqv
 rw[F.ltC_eq,F.ltC_eq,Bool.and_eq_true,Bool.not_eq_true',Bool.not_eq_true']
 constructor
 ·rintro⟨h1,h2⟩
  have n1 : ¬(z.fr<c.fr∨(z.fr=c.fr∧z.to<c.to)):=fun e=>by rw[F.before_iff.2 e]at h1;cases h1
  have n2 : ¬(c.fr<z.fr∨(c.fr=z.fr∧c.to<z.to)):=fun e=>by rw[F.before_iff.2 e]at h2;cases h2
  omega
 ·rintro⟨h1,h2⟩
  constructor
  ·cases h:F.before z c
   ·rfl
   ·rw[F.before_iff]at h;omega
  ·cases h:F.before c z
   ·rfl
   ·rw[F.before_iff]at h;omega

theorem seg {l:List Cap} (ok:Ok l) {b0 b1:Int} (hb:b0<b1) {P:List Cap} (inv:Inv l b0 P) :
  ∃P',Inv l b1 P'∧(K.srt F.ltC (l.filterMap (F.cutC b0 b1))).foldl (F.jnS b0) (P.map (tr b0))=P'.map (tr b1):=by
 classical
 obtain⟨hP,hPm,hPf⟩:=inv
 rw[cut_eq,K.srt_map]
 have hsw:=F.swC.on (cut b0 b1)
 have hst:=K.srt_stb hsw (l.filter (act b0 b1))
 generalize K.srt (fun x y=>F.ltC (cut b0 b1 x) (cut b0 b1 y)) (l.filter (act b0 b1))=cs at hst
 have hmem : ∀c,c∈cs↔c∈l∧act b0 b1 c=true:=fun c=>by rw[hst.perm.mem_iff,List.mem_filter]
 have hnd:cs.Nodup:=hst.perm.nodup_iff.2 (ok.nd.filter _)
 have h0:P.map (tr b0)=st b0 b1 P []:=by
  unfold st
  simp
 rw[h0,steps ok hb hP hPm cs [] (by simpa using hnd) (fun d hd=>(hmem d).1 (by simpa using hd)),List.nil_append]
 have hN : ∀c,c∈cs.filter (fun c=>decide (b0≤c.fr))↔c∈l∧b0≤c.fr∧c.fr<b1:=fun c=>by
  rw[List.mem_filter,hmem,decide_eq_true_eq]
  constructor
  ·rintro⟨⟨h1,h2⟩,h3⟩
   have:=(act_iff hb (ok.lt c h1)).1 h2
   exact⟨h1,h3,this.1⟩
  ·rintro⟨h1,h2,h3⟩
   have:=ok.lt c h1
   exact⟨⟨h1,(act_iff hb this).2 ⟨h3,by omega⟩⟩,h2⟩
 refine⟨P++cs.filter (fun c=>decide (b0≤c.fr)),⟨?_,fun c=>?_,fun z=>?_⟩,?_⟩
 ·rw[List.nodup_append]
  refine⟨hP,hnd.filter _,fun a ha b hb' e=>?_⟩
  subst e
  have h1:=((hPm a).1 ha).2
  have h2:=((hN a).1 hb').2.1
  omega
 ·rw[List.mem_append,hPm,hN]
  constructor
  ·rintro(⟨h1,h2⟩ | ⟨h1,h2,h3⟩)
   ·exact⟨h1,by omega⟩
   ·exact⟨h1,h3⟩
  ·rintro⟨h1,h2⟩
   by_cases h:c.fr<b0
   ·exact .inl ⟨h1,h⟩
   ·exact .inr ⟨h1,by omega,h2⟩
 ·rw[List.filter_append,hPf]
  have hsel : ∀(xs:List Cap) (p:Cap→Bool) (v:Bool),(∀c∈xs,K.eqv F.ltC z c=true→p c=v)→(xs.filter p).filter (K.eqv F.ltC z)=bif v then xs.filter (K.eqv F.ltC z) else []:=by
   intro xs p v h
   rw[List.filter_filter]
   cases v
   ·rw[cond_false,List.filter_eq_nil_iff]
    intro c hc hh
    rw[Bool.and_eq_true]at hh
    rw[h c hc hh.1]at hh
    cases hh.2
   ·rw[cond_true]
    refine List.filter_congr fun c hc=>?_
    cases he:K.eqv F.ltC z c
    ·rfl
    ·rw[h c hc he];rfl
  by_cases hz:z.fr<b0
  ·rw[hsel l _ true (fun c _ hc=>decide_eq_true (by have:=(eqv_C.1 hc).1;omega)),hsel cs _ false (fun c _ hc=>decide_eq_false (by have:=(eqv_C.1 hc).1;omega)),hsel l _ true (fun c _ hc=>decide_eq_true (by have:=(eqv_C.1 hc).1;omega))]
   simp
  ·rw[hsel l _ false (fun c _ hc=>decide_eq_false (by have:=(eqv_C.1 hc).1;omega)),hsel cs _ true (fun c _ hc=>decide_eq_true (by have:=(eqv_C.1 hc).1;omega)),cond_false,List.nil_append,cond_true]
   have hf:=hst.fil z
   have hsub : ∀c,K.eqv F.ltC z c=true→K.eqv (fun x y=>F.ltC (cut b0 b1 x) (cut b0 b1 y)) z c=true:=fun c hc=>by
    have h1:=eqv_C.1 hc
    show K.eqv F.ltC (cut b0 b1 z) (cut b0 b1 c)=true
    rw[eqv_C]
    simp[cut,h1.1,h1.2]
   have e : ∀xs:List Cap,xs.filter (K.eqv F.ltC z)=(xs.filter (K.eqv (fun x y=>F.ltC (cut b0 b1 x) (cut b0 b1 y)) z)).filter (K.eqv F.ltC z):=fun xs=>by
    rw[List.filter_filter]
    refine List.filter_congr fun c _=>?_
    cases he:K.eqv F.ltC z c
    ·rfl
    ·rw[hsub c he];rfl
   rw[e cs,hf,←e]
   by_cases hz2:z.fr<b1
   ·rw[hsel l (fun c=>decide (c.fr<b1)) true (fun c _ hc=>decide_eq_true (by have:=(eqv_C.1 hc).1;omega)),hsel l _ true (fun c hc he=>(act_iff hb (ok.lt c hc)).2 (by have:=(eqv_C.1 he).1;have:=ok.lt c hc;omega))]
   ·rw[hsel l (fun c=>decide (c.fr<b1)) false (fun c _ hc=>decide_eq_false (by have:=(eqv_C.1 hc).1;omega)),hsel l _ false (fun c hc he=>by
     cases h:act b0 b1 c
     ·rfl
     ·have:=(act_iff hb (ok.lt c hc)).1 h
      have:=(eqv_C.1 he).1
      omega)]
 ·unfold st
  rw[List.map_append]
  congr 1
  refine List.map_congr_left fun c hc=>?_
  by_cases h:c∈cs
  ·rw[if_pos h]
  ·rw[if_neg h]
   obtain⟨h1,h2⟩:=(hPm c).1 hc
   have h3 : ¬b0<c.to:=fun e=>h ((hmem c).2 ⟨h1,(act_iff hb (ok.lt c h1)).2 ⟨by omega,e⟩⟩)
   unfold tr F.lt
   rw[decide_eq_false h3,decide_eq_false (by omega)]
   rfl

theorem segs {l:List Cap} (ok:Ok l) : ∀(r:List Int) (b0:Int) (P:List Cap),(b0::r).Pairwise (· < ·)→Inv l b0 P → ∃P' b,(b0::r).getLast? = some b∧Inv l b P'∧F.jnB (F.splitB l (b0::r)) (b0::r) (P.map (tr b0))=P'.map (tr b)
 | [],b0,P,_,inv=>⟨P,b0,rfl,inv,by unfold F.splitB F.jnB;rfl⟩
 | b1::r,b0,P,hp,inv=>by
  rw[List.pairwise_cons]at hp
  obtain⟨P1,i1,e1⟩:=seg ok (hp.1 b1 (by simp)) inv
  obtain⟨P2,b,g,i2,e2⟩:=segs ok r b1 P1 hp.2 i1
  refine⟨P2,b,by rw[List.getLast?_cons_cons];exact g,i2,?_⟩
  rw[F.splitB,F.jnB,e1,e2]

theorem all {l:List Cap} (ok:Ok l) {bs:List Int} (hp:bs.Pairwise (· < ·)) {a b:Int} (ha:bs.head? = some a) (hb:bs.getLast? = some b) (h1 : ∀c∈l,a≤c.fr) (h2 : ∀c∈l,c.to≤b) (hs:K.Srt F.ltC l) :
  (F.jnB (F.splitB l bs) bs []).length=l.length∧K.srt F.ltC (F.jnB (F.splitB l bs) bs [])=l:=by
 cases bs with
 | nil=>cases ha
 | cons b0 r=>
  have ha:b0=a:=by simpa using ha
  subst ha
  have inv0:Inv l b0 ([]:List Cap):=⟨List.nodup_nil,fun c=>⟨fun h=>absurd h List.not_mem_nil,fun h=>by have:=h1 c h.1;omega⟩,fun z=>by
   have e:l.filter (fun c=>decide (c.fr<b0))=[]:=List.filter_eq_nil_iff.2 fun c hc hh=>by have:=h1 c hc;have:=of_decide_eq_true hh;omega
   rw[e]⟩
  obtain⟨P,b',g,inv,e⟩:=segs ok r b0 [] hp inv0
  rw[hb]at g
  cases g
  have hid:P.map (tr b)=P:=by
   refine(List.map_congr_left fun c hc=>?_).trans (List.map_id _)
   have:=h2 c ((inv.mem c).1 hc).1
   unfold tr F.lt
   rw[decide_eq_false (by omega)]
   rfl
  rw[List.map_nil,hid]at e
  rw[e]
  have hlt : ∀c∈l,c.fr<b:=fun c hc=>by have:=h2 c hc;have:=ok.lt c hc;omega
  have hfl:l.filter (fun c=>decide (c.fr<b))=l:=List.filter_eq_self.2 fun c hc=>decide_eq_true (hlt c hc)
  have hperm:l.Perm P:=(List.perm_ext_iff_of_nodup ok.nd inv.nd).2 fun c=>⟨fun h=>(inv.mem c).2 ⟨h,hlt c h⟩,fun h=>((inv.mem c).1 h).1⟩
  refine⟨hperm.length_eq.symm,?_⟩
  have hst:K.Stb F.ltC P l:=⟨hperm,hs,fun z=>by rw[inv.fil z,hfl]⟩
  exact(hst.eq F.swC).symm

end Jn

def F.ntC (c x:Cap):Bool:= !((x.row==c.row)&&F.sameSL x.lines c.lines&&F.le x.fr c.to&&F.le c.fr x.to)

def F.apO (a b:Int) (c:Cap):Bool:= !(F.lt c.fr a||F.lt b c.to||c.bef||c.aft)

def F.apR (a b:Int):List Cap→List Cap→Bool
 | _,[]=>true
 | p,c::r=>F.apO a b c&&(p.all (F.ntC c)&&F.apR a b (p++[c]) r)

namespace M

def stAa1 (l:List Cap) (bs:List Int) (k:Nat):St:=⟨[(11,vI k),(10,vI l.length),(9, .sl (l.map eCap)),(1, .sl (bs.map eI)),(0, .sl (l.map eCap))],[]⟩

def stAa11 (a:(List Cap)×(List Int)×Nat):St:=stAa1 a.1 a.2.1 a.2.2

theorem stAa1_inj (a a':(List Cap)×(List Int)×Nat) (h:stAa11 a=stAa11 a'):a=a':=by
 simp only[stAa11,stAa1]at h
 try simp[ints_inj,eCaps_inj]at h
 grind

theorem unstAa10 (l:List Cap) (bs:List Int)  : unenc stAa11 (St.mk [(11,(vI (0:Int))),(10,(vI (↑(List.length l):Int))),(9,AV.sl (List.map eCap l)),(1,AV.sl (List.map eI bs)),(0,AV.sl (List.map eCap l))] [])=some (l,bs,0):=unenc_of stAa1_inj (l,bs,0) rfl

def outAa1 (l:List Cap) (bs:List Int) (k:Nat):T (Ex×St):= .ifB (F.apR (bs.getD 0 0) (bs.getD (bs.length - 1) 0) (l.take k) (l.drop k)) (.ret (.exit 0,⟨[],[]⟩)) (.ret (.ret,⟨[(4,vB false)],[]⟩))

noncomputable def prlAa1 (l:List Cap) (bs:List Int) (k:Nat):Bool:=decide (l.length≤100000∧1≤bs.length∧bs.length≤100000∧k≤l.length)

noncomputable def lpAa1:Nat×(St→T (Ex×St)):=(2,lpo [11,10,9,1,0] [] stAa11 (fun a=>prlAa1 a.1 a.2.1 a.2.2) fun a=>outAa1 a.1 a.2.1 a.2.2)

def stAa2 (l:List Cap) (bs:List Int) (k:Nat) (c:Cap) (j:Nat):St:=⟨[(45,vI j),(44,vI (l.take k).length),(43, .sl ((l.take k).map eCap)),(11,vI k),(10,vI l.length),(9, .sl (l.map eCap)),(6, .ptr 6 0 0),(1, .sl (bs.map eI)),(0, .sl (l.map eCap))],[(6,⟨true,0,0,[eCap c]⟩)]⟩

def stAa21 (a:(List Cap)×(List Int)×Nat×Cap×Nat):St:=stAa2 a.1 a.2.1 a.2.2.1 a.2.2.2.1 a.2.2.2.2

theorem stAa2_inj (a a':(List Cap)×(List Int)×Nat×Cap×Nat) (h:stAa21 a=stAa21 a'):a=a':=by
 simp only[stAa21,stAa2]at h
 try simp[ints_inj,eCaps_inj,eCap_iff]at h
 grind

theorem unstAa20 (l:List Cap) (bs:List Int) (k:Nat) (c:Cap)  : unenc stAa21 (St.mk [(45,(vI (0:Int))),(44,(vI (↑(List.length (List.take k l)):Int))),(43,AV.sl (List.map eCap (List.take k l))),(11,(vI (↑k:Int))),(10,(vI (↑(List.length
 l):Int))),(9,AV.sl (List.map eCap l)),(6, .ptr 6 0 0),(1,AV.sl (List.map eI bs)),(0,AV.sl (List.map eCap l))] [(6,Blk.mk true 0 0 [[(vI c.fr),(vI c.to),AV.sl
 (List.map eStr c.lines),(vI c.row),(vB c.bef),(vB c.aft)]])])=some (l,bs,k,c,0):=unenc_of stAa2_inj (l,bs,k,c,0) rfl

def outAa2 (l:List Cap) (bs:List Int) (k:Nat) (c:Cap) (j:Nat):T (Ex×St):= .ifB (((l.take k).drop j).all (F.ntC c)) (.ret (.exit 2,⟨[(11,vI k),(10,vI l.length),(9, .sl (l.map eCap)),(1, .sl (bs.map eI)),(0, .sl (l.map eCap))],[]⟩)) (.ret (.ret,⟨[(4,vB false)],[]⟩))

noncomputable def prlAa2 (l:List Cap) (bs:List Int) (k:Nat) (c:Cap) (j:Nat):Bool:=decide (l.length≤100000∧j≤(l.take k).length)

noncomputable def lpAa2:Nat×(St→T (Ex×St)):=(7,lpo [45,44,43,11,10,9,6,1,0] [6] stAa21 (fun a=>prlAa2 a.1 a.2.1 a.2.2.1 a.2.2.2.1 a.2.2.2.2) fun a=>outAa2 a.1 a.2.1 a.2.2.1 a.2.2.2.1 a.2.2.2.2)

noncomputable def enAa:Env:=envH ty noG lks [oEqS] [] [] [lpAa1,lpAa2]

theorem enAa_ok:EnvOK Tryz.prog enAa:=by
 refine envH_ok lks_ok ty_ok ?_ ?_
 ·simp only[List.forall_mem_cons]
  exact⟨okEqS,by simp⟩
 ·simp

theorem evAa2L (l:List Cap) (bs:List Int) (k:Nat) (c:Cap) (j:Nat):((exec enAa (loopN Tryz.f57 1) (stAa2 l bs k c j)).bind (lessX ([45,44,43,11,10,9,6,1,0],[6]) ([11,10,9,1,0],[]) ([4],[]))).val =
 (fun(q:Int)=>(fun(q_1:Cap)=>(fun(q_2:Option (Ex×St))=>bif decide ((↑j:Int)<q) then Option.bind (unenc (List.map eCap) (List.map eCap (List.take k l)))
 fun z=>bif decide (j<List.length z) then bif (List.getD z j q_1).row==c.row then Option.bind (unenc encEqS [AV.sl (List.map eStr (List.getD z j
 q_1).lines),AV.sl (List.map eStr c.lines)]) fun z_1=>bif bif bif F.sameSL z_1.1 z_1.2 then decide ((List.getD z j q_1).fr ≤
 c.to) else false then decide (c.fr≤(List.getD z j q_1).to) else false then some (Ex.ret,St.mk [(4,(vB false))] []) else q_2 else q_2 else none else some (Ex.exit (2 :
 Nat),St.mk [(11,(vI (↑k:Int))),(10,(vI (↑(List.length l):Int))),(9,AV.sl (List.map eCap l)),(1,AV.sl (List.map eI bs)),(0,AV.sl (List.map eCap l))] []))
 (some (Ex.normal,St.mk [(45,(vI (IntKind.i64.wrap ((↑j:Int)+1)))),(44,(vI q)),(43,AV.sl (List.map eCap (List.take k l))),(11,(vI (↑k:Int))),
 (10,(vI (↑(List.length l):Int))),(9,AV.sl (List.map eCap l)),(6, .ptr 6 0 0),(1,AV.sl (List.map eI bs)),(0,AV.sl (List.map eCap l))] [(6,Blk.mk true 0 0 [[(vI
 c.fr),(vI c.to),AV.sl (List.map eStr c.lines),(vI c.row),(vB c.bef),(vB c.aft)]])]))) (Cap.mk (0:Int) (0:Int) [] (0:Int) false false)) (↑(List.length (List.take
 k l)):Int):=(execR_bind _ _ _).symm.trans (by kernel_rfl)

theorem lpAa2_ok (l:List Cap) (bs:List Int) (k:Nat) (c:Cap) (j:Nat) (hp:prlAa2 l bs k c j=true) : ∀ex s',(outAa2 l bs k c j).val=some (ex,s')→LoopOK enAa (loopN Tryz.f57 1) (stAa2 l bs k c j) ex s':=by
 simp only[prlAa2,decide_eq_true_eq]at hp
 obtain⟨h1,h2⟩:=hp
 have htl:(l.take k).length≤l.length:=by rw[List.length_take];omega
 refine loop_all (xs:=l.take k) (st:=stAa2 l bs k c) (p:=F.ntC c) (n:=([45,44,43,11,10,9,6,1,0],[6])) (e:=([11,10,9,1,0],[])) (r:=([4],[])) ?_ ⟨by simp,rfl⟩ ⟨by simp,rfl⟩ (fun _=>rfl) ?_ j h2
 ·rw[evAa2L];simp
 ·intro j y hy
  have hlt:=lt_at hy
  rw[evAa2L]
  simp only[unEqS,Option.bind_some,unCaps,F.le,cond_true,cast_lt hlt,decide_eq_true hlt,next_at hlt (by omega:(l.take k).length≤9223372036854775807),getD_at hy,stAa2,F.ntC]
  cases(y.row==c.row)<;>cases F.sameSL y.lines c.lines<;>cases decide (y.fr≤c.to)<;>cases decide (c.fr≤y.to)<;>rfl

theorem evAa1L (l:List Cap) (bs:List Int) (k:Nat):((exec enAa (loopN Tryz.f57 0) (stAa1 l bs k)).bind (lessX ([11,10,9,1,0],[]) ([],[]) ([4],[]))).val =
 (fun(q:Cap)=>(fun(q_1:Option (Ex×St))=>bif decide ((↑k:Int)<(↑(List.length l):Int)) then Option.bind (unenc (List.map eCap) (List.map eCap l)) fun(z :
 List Cap)=>bif decide (k<List.length z) then Option.bind (unenc (List.map eI) (List.map eI bs)) fun z_1=>bif decide ((0:Nat)<List.length z_1) then
 bif !decide ((List.getD z k q).fr<List.getD z_1 (0:Nat) (0:Int)) then Option.bind (idx (IntKind.i64.wrap ((↑(List.length (List.map eI bs)):Int) - (1 :
 Int)))) fun z_2=>Option.bind (unenc (List.map eI) (List.map eI bs)) fun z_3=>bif decide (z_2<List.length z_3) then bif bif bif decide (List.getD
 z_3 z_2 (0:Int)<(List.getD z k q).to) then true else (List.getD z k q).bef then true else (List.getD z k q).aft then q_1 else bif Nat.ble (0:Nat) k&&Nat.ble k
 (List.length (List.map eCap l))&&List.all (List.map eCap l) fun(r:Row)=>Nat.beq (List.length r) (6:Nat) then Option.bind (unenc stAa21 (St.mk [(45,(vI 0)),(44,(vI (↑(List.length (List.take k (List.map eCap l))):Int))),(43,AV.sl (List.take k (List.map eCap l))),(11,(vI (↑k:Int))),(10,(vI (↑(List.length l) :
 Int))),(9,AV.sl (List.map eCap l)),(6, .ptr 6 0 0),(1,AV.sl (List.map eI bs)),(0,AV.sl (List.map eCap l))] [(6,Blk.mk true 0 0 [[(vI (List.getD z k q).fr),(vI
 (List.getD z k q).to),AV.sl (List.map eStr (List.getD z k q).lines),(vI (List.getD z k q).row),(vB (List.getD z k q).bef),(vB (List.getD z k q).aft)]])])) fun(z :
 List Cap×List Int×Nat×Cap×Nat)=>(fun(q:List Cap)=>bif decide (List.length z.1≤100000∧z.2.2.2.2≤List.length q)&&true then bif
 List.all (List.drop z.2.2.2.2 q) (F.ntC z.2.2.2.1) then some (Ex.normal,St.mk [(11,(vI (IntKind.i64.wrap ((↑z.2.2.1:Int)+1)))),
 (10,(vI (↑(List.length z.1):Int))),(9,AV.sl (List.map eCap z.1)),(1,AV.sl (List.map eI z.2.1)),(0,AV.sl (List.map eCap z.1))] []) else q_1 else none)
 (List.take z.2.2.1 z.1) else none else none else q_1 else none else none else some (Ex.exit (0:Nat),St.mk [] [])) (some (Ex.ret,St.mk [(4,(vB false))] [])))
 (Cap.mk (0:Int) (0:Int) [] (0:Int) false false):=(execR_bind _ _ _).symm.trans (by kernel_rfl)

theorem lpAa1_ok (l:List Cap) (bs:List Int) (k:Nat) (hp:prlAa1 l bs k=true) : ∀ex s',(outAa1 l bs k).val=some (ex,s')→LoopOK enAa (loopN Tryz.f57 0) (stAa1 l bs k) ex s':=by
 simp only[prlAa1,decide_eq_true_eq]at hp
 obtain⟨h1,h2,h3,h4⟩:=hp
 refine loop_gen (st:=stAa1 l bs) (out:=outAa1 l bs) (I:=fun k=>k≤l.length) (n:=([11,10,9,1,0],[])) (e:=([],[])) (r:=([4],[])) (fun k=>l.length - k) ?_ k h4
 intro k hk
 obtain⟨a,ha⟩:=at_lt (show 0<bs.length by omega)
 obtain⟨b,hb⟩:=at_lt (show bs.length - 1<bs.length by omega)
 by_cases hlt:k<l.length
 ·have hy:l[k]? = some l[k]:=List.getElem?_eq_getElem hlt
  generalize l[k]=y at hy
  have hd:=drop_at hy
  have ht:l.take (k+1)=l.take k++[y]:=by rw[List.take_add_one,hy];rfl
  have hw:IntKind.i64.wrap ((bs.length:Int) - 1)=((bs.length - 1:Nat):Int):=w_sub1 h2 (by omega)
  have hall : ∀xs:List Cap,((xs.map eCap).all fun r=>Nat.beq (List.length r) 6)=true:=all_Caps
  have hbl:Nat.ble k l.length=true:=ble_t hk
  have hb0:Nat.ble 0 k=true:=ble_t (Nat.zero_le _)
  have q2:l.length≤100000∧0≤(l.take k).length:=⟨h1,Nat.zero_le _⟩
  cases hO:F.apO a b y
  ·left
   refine⟨(.ret,⟨[(4,vB false)],[]⟩),?_,?_,by simp,rfl⟩
   ·rw[evAa1L]
    simp only[Option.bind_some,List.length_map,unInts,unCaps,cond_true,Bool.and_true,cast_lt hlt,decide_eq_true hlt,getD_at hy,hw,idx_nat,decide_eq_true (lt_at ha),decide_eq_true (lt_at hb),getD_at ha,getD_at hb]
    unfold F.apO F.lt at hO
    revert hO
    cases decide (y.fr<a)<;>cases decide (b<y.to)<;>cases y.bef<;>cases y.aft<;>intro hO<;>first | rfl | cases hO
   ·simp only[outAa1,hd,F.apR,getD_at ha,getD_at hb,hO,Bool.false_and]
    rfl
  ·cases hN:(l.take k).all (F.ntC y)
   ·left
    refine⟨(.ret,⟨[(4,vB false)],[]⟩),?_,?_,by simp,rfl⟩
    ·rw[evAa1L]
     simp only[unstAa20,Option.bind_some,List.length_map,unInts,unCaps,cond_true,cond_false,Bool.and_true,cast_lt hlt,decide_eq_true hlt,getD_at hy,hw,idx_nat,decide_eq_true (lt_at ha),decide_eq_true (lt_at hb),getD_at ha,getD_at hb,hall,hbl,hb0,←List.map_take,decide_eq_true q2,List.drop_zero,hN]
     unfold F.apO F.lt at hO
     revert hO
     cases decide (y.fr<a)<;>cases decide (b<y.to)<;>cases y.bef<;>cases y.aft<;>intro hO<;>first | rfl | cases hO
    ·simp only[outAa1,hd,F.apR,getD_at ha,getD_at hb,hO,hN,Bool.true_and,Bool.false_and]
     rfl
   ·right
    refine⟨k+1,?_,rfl,hlt,by omega,?_⟩
    ·rw[evAa1L]
     simp only[unstAa20,Option.bind_some,List.length_map,unInts,unCaps,cond_true,Bool.and_true,cast_lt hlt,decide_eq_true hlt,getD_at hy,hw,idx_nat,decide_eq_true (lt_at ha),decide_eq_true (lt_at hb),getD_at ha,getD_at hb,hall,hbl,hb0,←List.map_take,decide_eq_true q2,List.drop_zero,hN,next_at hlt (by omega:l.length≤9223372036854775807),stAa1]
     unfold F.apO F.lt at hO
     revert hO
     cases decide (y.fr<a)<;>cases decide (b<y.to)<;>cases y.bef<;>cases y.aft<;>intro hO<;>first | rfl | cases hO
    ·simp only[outAa1,hd,F.apR,getD_at ha,getD_at hb,hO,hN,Bool.true_and,ht]
 ·have:k=l.length:=by omega
  subst this
  left
  refine⟨(.exit 0,⟨[],[]⟩),?_,?_,by simp,rfl⟩
  ·rw[evAa1L];simp
  ·simp[outAa1,F.apR,T.val]

theorem evAa (l:List Cap) (bs:List Int):(runF enAa false Tryz.f57 [.sl (l.map eCap), .sl (bs.map eI)]).val =
 Option.bind (unenc stAa11 (St.mk [(11,(vI 0)),(10,(vI (↑(List.length (List.map eCap l)):Int))),(9,AV.sl (List.map eCap l)),(1,AV.sl (List.map eI bs)),(0,
 AV.sl (List.map eCap l))] [])) fun z=>bif decide (List.length z.1≤100000∧(1:Nat)≤List.length z.2.1∧List.length
 z.2.1≤100000∧z.2.2≤List.length z.1)&&true then bif F.apR (List.getD z.2.1 (0:Nat) (0:Int)) (List.getD z.2.1 (List.length z.2.1 -
 (1:Nat)) (0:Int)) (List.take z.2.2 z.1) (List.drop z.2.2 z.1) then some ((vB true),[]) else some ((vB false),[]) else none:=(runFR_val).symm.trans (by kernel_rfl)

def encAa1 (l:List Cap) (bs:List Int):List AV:=[.sl (l.map eCap), .sl (bs.map eI)]

def encAa (a:(List Cap)×(List Int)):List AV:=encAa1 a.1 a.2

theorem encAa_inj (a a':(List Cap)×(List Int)) (h:encAa a=encAa a'):a=a':=by
 simp only[encAa,encAa1]at h
 try simp[ints_inj,eCaps_inj]at h
 grind

theorem unAa (l:List Cap) (bs:List Int):unenc encAa ([AV.sl (List.map eCap l),AV.sl (List.map eI bs)])=some (l,bs):=unenc_of encAa_inj (l,bs) rfl

def resAa1 (l:List Cap) (bs:List Int):AV×Heap:=(vB (F.apR (bs.getD 0 0) (bs.getD (bs.length - 1) 0) [] l),[])

def preAa1 (l:List Cap) (bs:List Int):Bool:=decide (l.length≤100000∧1≤bs.length∧bs.length≤100000)

noncomputable def oAa:Orc:=orc 57 true encAa (fun a=>preAa1 a.1 a.2) fun a=>resAa1 a.1 a.2

theorem okAa:OrcOK Tryz.prog noG oAa:=by
 refine mk_ok Tryz.f57 (keep:=false) (by kernel_rfl) (by kernel_rfl) enAa_ok mixed (two_loops (x0:=loopN Tryz.f57 0) (x1:=loopN Tryz.f57 1) (by kernel_rfl) (lpo_ok ?_) (lpo_ok ?_)) (by first | exact fun _ _=>⟨rfl,rfl⟩ | (intro h;cases h)) ?_
 ·rintro⟨l,bs,k⟩ hp
  exact lpAa1_ok l bs k hp
 ·rintro⟨l,bs,k,c,j⟩ hp
  exact lpAa2_ok l bs k c j hp
 rintro⟨l,bs⟩ hpre hok
 show(runF enAa false _ (encAa1 _ _)).val=some (resAa1 _ _)
 unfold encAa1 resAa1
 rw[evAa]
 simp only[preAa1,decide_eq_true_eq]at hpre
 obtain⟨h1,h2,h3⟩:=hpre
 have q:l.length≤100000∧1≤bs.length∧bs.length≤100000∧0≤l.length:=⟨h1,h2,h3,Nat.zero_le _⟩
 simp only[unstAa10,Option.bind_some,List.length_map,cond_true,Bool.and_true,decide_eq_true q,List.take_zero,List.drop_zero]
 cases F.apR (bs.getD 0 0) (bs.getD (bs.length - 1) 0) [] l<;>rfl

end M

namespace Jn

theorem apR_spec {a b:Int} : ∀ {l p:List Cap},F.apR a b p l=true→(∀c∈l,F.apO a b c=true)∧(∀u∈p,∀c∈l,F.ntC c u=true)∧l.Pairwise (fun u c=>F.ntC c u=true)
 | [],p,_=>⟨fun _ h=>absurd h List.not_mem_nil,fun _ _ _ h=>absurd h List.not_mem_nil,List.Pairwise.nil⟩
 | c::r,p,h=>by
  rw[F.apR,Bool.and_eq_true,Bool.and_eq_true]at h
  obtain⟨h1,h2,h3⟩:=h
  obtain⟨i1,i2,i3⟩:=apR_spec h3
  have h2:=List.all_eq_true.1 h2
  refine⟨fun d hd=>?_,fun u hu d hd=>?_,List.Pairwise.cons (fun d hd=>i2 c (by simp) d hd) i3⟩
  ·rcases List.mem_cons.1 hd with rfl | hd
   ·exact h1
   ·exact i1 d hd
  ·rcases List.mem_cons.1 hd with rfl | hd
   ·exact h2 u hu
   ·exact i2 u (by simp[hu]) d hd

theorem ntC_spec {c x:Cap} (h:F.ntC c x=true) (h1:x.fr≤c.to) (h2:c.fr≤x.to):key x c=false:=by
 unfold F.ntC F.le at h
 rw[decide_eq_true h1,decide_eq_true h2,Bool.and_true,Bool.and_true,Bool.not_eq_true']at h
 exact h

theorem chk_lt {l:List Cap} (h:F.chkC l=0) : ∀c∈l,c.fr<c.to:=fun c hc=>by
 obtain⟨q,hq⟩:=F.chk_at h hc
 have:=(F.capF_ok hq).2.2.1
 simp only[F.le,decide_eq_false_iff_not]at this
 omega

theorem ok_of {l:List Cap} {a b:Int} (hc:F.chkC l=0) (h:F.apR a b [] l=true):Ok l∧(∀c∈l,a≤c.fr)∧(∀c∈l,c.to≤b):=by
 obtain⟨h1, -,h3⟩:=apR_spec h
 have hlt:=chk_lt hc
 have hO : ∀c∈l,a≤c.fr∧c.to≤b∧c.bef=false∧c.aft=false:=fun c hcl=>by
  have:=h1 c hcl
  unfold F.apO F.lt at this
  simp only[Bool.not_eq_true',Bool.or_eq_false_iff,decide_eq_false_iff_not]at this
  exact⟨by omega,by omega,this.1.2,this.2⟩
 refine⟨⟨?_,fun u hu v hv hne t1 t2=>?_,hlt,fun c hcl=>(hO c hcl).2.2⟩,fun c hcl=>(hO c hcl).1,fun c hcl=>(hO c hcl).2.1⟩
 ·refine List.pairwise_iff_getElem.2 fun i j hi hj hij e=>?_
  have:=List.pairwise_iff_getElem.1 h3 i j hi hj hij
  have hl:=hlt _ (List.getElem_mem hj)
  rw[e]at this
  have hk:=ntC_spec this (by omega) (by omega)
  rw[key_refl]at hk
  cases hk
 ·obtain⟨i,hi⟩:=List.getElem?_of_mem hu
  obtain⟨j,hj⟩:=List.getElem?_of_mem hv
  obtain⟨hi1,hi2⟩:=List.getElem?_eq_some_iff.1 hi
  obtain⟨hj1,hj2⟩:=List.getElem?_eq_some_iff.1 hj
  rcases Nat.lt_trichotomy i j with hlt | heq | hgt
  ·have:=List.pairwise_iff_getElem.1 h3 i j hi1 hj1 hlt
   rw[hi2,hj2]at this
   exact ntC_spec this t1 t2
  ·subst heq
   exact absurd (hi2.symm.trans hj2) hne
  ·have:=List.pairwise_iff_getElem.1 h3 j i hj1 hi1 hgt
   rw[hi2,hj2]at this
   rw[key_symm]
   exact ntC_spec this t2 t1

theorem srt_of_chk : ∀ {l:List Cap} {p:Option Cap},F.chkP F.capF p l=0→K.Srt F.ltC l ∧ ∀q,p=some q → ∀x∈l,F.ltC x q=false
 | [],_,_=>⟨List.Pairwise.nil,fun _ _ _ h=>absurd h List.not_mem_nil⟩
 | c::l,p,h=>by
  rw[F.chkP]at h
  by_cases h1:F.capF p c=0
  ·rw[M.bne0 h1,cond_false]at h
   obtain⟨h2,h3⟩:=srt_of_chk h
   refine⟨List.Pairwise.cons (fun x hx=>h3 c rfl x hx) h2,fun q hq x hx=>?_⟩
   have hq0:F.ltC c q=false:=by
    have:=(F.capF_ok h1).2.2.2.1
    rw[hq]at this
    rw[F.ltC_eq];exact this
   rcases List.mem_cons.1 hx with rfl | hx
   ·exact hq0
   ·exact F.swC.tr q c x hq0 (h3 c rfl x hx)
  ·rw[M.bne1 h1,cond_true]at h;exact absurd h h1

theorem srt_chk {l:List Cap} (h:F.chkC l=0):K.Srt F.ltC l:=by
 have h1:=F.chk_len h
 unfold F.chkC at h
 rw[decide_eq_false (by omega)]at h
 exact(srt_of_chk h).1

theorem chk_of_srt : ∀ {l:List Cap} {p:Option Cap},K.Srt F.ltC l→(∀c∈l,F.capF none c=0)→(∀q,p=some q → ∀x∈l,F.ltC x q=false)→F.chkP F.capF p l=0
 | [],_,_,_,_=>rfl
 | c::l,p,hs,hc,hp=>by
  have h0:=hc c (by simp)
  have hcap:F.capF p c=0:=by
   have hb:F.befP p c=false:=by
    cases p with
    | none=>rfl
    | some q=>
     have:=hp q rfl c (by simp)
     rw[F.ltC_eq]at this
     exact this
   have hb0:F.befP none c=false:=rfl
   unfold F.capF at h0 ⊢
   rw[hb]
   rw[hb0]at h0
   exact h0
  rw[F.chkP,M.bne0 hcap,cond_false]
  exact chk_of_srt (List.pairwise_cons.1 hs).2 (fun d hd=>hc d (by simp[hd])) (fun q hq x hx=>by
   cases hq
   exact(List.pairwise_cons.1 hs).1 x hx)

end Jn

namespace M

end M

namespace Jn

theorem noTime_iff {n:Int}:F.noTime n=false↔0≤n∧n≤359999999:=by
 unfold F.noTime F.out
 simp

theorem bnd_chk : ∀ {bs:List Int} {p:Option Int},F.chkP F.bndF p bs=0→bs.Pairwise (· < ·)∧(∀t∈bs,F.noTime t=false) ∧ ∀q,p=some q → ∀t∈bs,q<t
 | [],_,_=>⟨List.Pairwise.nil,fun _ h=>absurd h List.not_mem_nil,fun _ _ _ h=>absurd h List.not_mem_nil⟩
 | t::bs,p,h=>by
  rw[F.chkP]at h
  by_cases h1:F.bndF p t=0
  ·rw[M.bne0 h1,cond_false]at h
   obtain⟨i1,i2,i3⟩:=bnd_chk h
   have hn:F.noTime t=false:=by
    unfold F.bndF at h1
    cases hh:F.noTime t
    ·rfl
    ·rw[hh]at h1;cases h1
   have hl:F.leP p t=false:=by
    unfold F.bndF at h1
    rw[hn,cond_false]at h1
    cases hh:F.leP p t
    ·rfl
    ·rw[hh]at h1;cases h1
   refine⟨List.Pairwise.cons (fun x hx=>i3 t rfl x hx) i1,fun x hx=>?_,fun q hq x hx=>?_⟩
   ·rcases List.mem_cons.1 hx with rfl | hx
    ·exact hn
    ·exact i2 x hx
   ·subst hq
    have:q<t:=by simpa[F.leP,F.le]using hl
    rcases List.mem_cons.1 hx with rfl | hx
    ·exact this
    ·exact Int.lt_trans this (i3 t rfl x hx)
  ·rw[M.bne1 h1,cond_true]at h;exact absurd h h1

theorem bnds_spec {bs:List Int} (h:F.bnds bs=0):bs.Pairwise (· < ·) ∧ ∀t∈bs,F.noTime t=false:=by
 obtain⟨h1,h2⟩:=F.bnds_ok h
 unfold F.bnds at h
 rw[decide_eq_false (by omega),cond_false,decide_eq_false (by omega),cond_false]at h
 obtain⟨i1,i2, -⟩:=bnd_chk h
 exact⟨i1,i2⟩

theorem split_mem {l:List Cap} : ∀ {bs:List Int} {p:List Cap},p∈F.splitB l bs → ∃a∈bs,∃b∈bs,p=K.srt F.ltC (l.filterMap (F.cutC a b))
 | [],p,h=>absurd h List.not_mem_nil
 | [_],p,h=>absurd h List.not_mem_nil
 | a::b::r,p,h=>by
  rw[F.splitB]at h
  rcases List.mem_cons.1 h with rfl | h
  ·exact⟨a,by simp,b,by simp,rfl⟩
  ·obtain⟨a',h1,b',h2,h3⟩:=split_mem h
   exact⟨a',List.mem_cons_of_mem _ h1,b',List.mem_cons_of_mem _ h2,h3⟩

theorem split_len {l:List Cap} : ∀ {bs:List Int},bs≠[]→(F.splitB l bs).length+1=bs.length
 | [],h=>absurd rfl h
 | [_],_=>rfl
 | a::b::r,_=>by
  have:=split_len (l:=l) (bs:=b::r) (by simp)
  rw[F.splitB,List.length_cons,this]
  rfl

theorem part_of {l:List Cap} {a b:Int} {q:Cap} (h:q∈K.srt F.ltC (l.filterMap (F.cutC a b))) : ∃c∈l,F.le (min c.to b) (max c.fr a)=false∧q=cut a b c:=by
 have h:=(K.srt_stb F.swC _).perm.mem_iff.1 h
 rw[List.mem_filterMap]at h
 obtain⟨c,hc,hq⟩:=h
 unfold F.cutC at hq
 cases hh:F.le (min c.to b) (max c.fr a)
 ·rw[hh,cond_false]at hq
  exact⟨c,hc,hh,(Option.some.inj hq).symm⟩
 ·rw[hh]at hq;cases hq

theorem part_chk {l:List Cap} {a b:Int} (hc:F.chkC l=0) (ha:F.noTime a=false) (hb:F.noTime b=false):F.chkC (K.srt F.ltC (l.filterMap (F.cutC a b)))=0:=by
 have h1:=F.chk_len hc
 have h2:=F.filterMap_len (F.cutC a b) l
 unfold F.chkC
 rw[K.srt_len F.swC,decide_eq_false (by omega),cond_false]
 refine chk_of_srt (K.srt_stb F.swC _).ord (fun q hq=>?_) (fun _ h=>by cases h)
 obtain⟨c,hcl,hle,rfl⟩:=part_of hq
 obtain⟨q0,hq0⟩:=F.chk_at hc hcl
 obtain⟨k1,k2,k3, -,k5,k6⟩:=F.capF_ok hq0
 rw[noTime_iff]at k1 k2 ha hb
 have n1:F.noTime (max c.fr a)=false:=noTime_iff.2 (by omega)
 have n2:F.noTime (min c.to b)=false:=noTime_iff.2 (by omega)
 have hb0:F.befP none (cut a b c)=false:=rfl
 unfold F.capF
 rw[hb0]
 simp only[cut]
 rw[n1,n2,hle,k5,k6]
 rfl

theorem part_seg {l:List Cap} {a b:Int} (hn : ∀c∈l,c.bef=false∧c.aft=false):M.ffI (F.prtF a b) (K.srt F.ltC (l.filterMap (F.cutC a b)))=0:=by
 have key : ∀xs:List Cap,(∀q∈xs,F.prtF a b q=0)→M.ffI (F.prtF a b) xs=0:=by
  intro xs
  induction xs with
  | nil=>intro _;rfl
  | cons x xs ih=>
   intro h
   unfold M.ffI
   rw[if_pos (h x (by simp))]
   exact ih fun q hq=>h q (by simp[hq])
 refine key _ fun q hq=>?_
 obtain⟨c,hcl,hle,rfl⟩:=part_of hq
 obtain⟨n1,n2⟩:=hn c hcl
 unfold F.prtF cut F.lt
 simp only[n1,n2,Bool.false_or]
 have e1:decide (max c.fr a<a)=false:=decide_eq_false (by omega)
 have e2:decide (b<min c.to b)=false:=decide_eq_false (by omega)
 rw[e1,e2]
 simp only[Bool.false_or,cond_false]
 have e3:(decide (c.fr<max c.fr a)&&(max c.fr a != a))=false:=by
  by_cases h:c.fr<max c.fr a
  ·have:max c.fr a=a:=by omega
   rw[this];simp
  ·rw[decide_eq_false h];rfl
 have e4:(decide (min c.to b<c.to)&&(min c.to b != b))=false:=by
  by_cases h:min c.to b<c.to
  ·have:min c.to b=b:=by omega
   rw[this];simp
  ·rw[decide_eq_false h];rfl
 rw[e3,e4]
 rfl

theorem segF_zero {l:List Cap} (hn : ∀c∈l,c.bef=false∧c.aft=false) : ∀bs:List Int,F.segF (F.splitB l bs) bs=0
 | []=>rfl
 | [_]=>rfl
 | a::b::r=>by
  rw[F.splitB,F.segF,M.bne0 (part_seg hn),cond_false]
  exact segF_zero hn (b::r)

theorem ffI_zero {γ:Type} {g:γ→Int} : ∀ {l:List γ},(∀y∈l,g y=0)→M.ffI g l=0
 | [],_=>rfl
 | x::l,h=>by
  unfold M.ffI
  rw[if_pos (h x (by simp))]
  exact ffI_zero fun y hy=>h y (by simp[hy])

theorem prts_zero {l:List Cap} {bs:List Int} (hc:F.chkC l=0) (hb:F.bnds bs=0) (hn : ∀c∈l,c.bef=false∧c.aft=false):F.prtsF (F.splitB l bs) bs=0:=by
 obtain⟨b1,b2⟩:=F.bnds_ok hb
 obtain⟨-,ht⟩:=bnds_spec hb
 have h1:M.ffI F.chkC (F.splitB l bs)=0:=ffI_zero fun p hp=>by
  obtain⟨a,ha,b,hb',rfl⟩:=split_mem hp
  exact part_chk hc (ht a ha) (ht b hb')
 have h2:=split_len (l:=l) (bs:=bs) (by intro e;rw[e]at b1;simp at b1)
 have e2:((F.splitB l bs).length+1 != bs.length)=false:=by simp[h2]
 unfold F.prtsF
 rw[M.bne0 h1,cond_false,M.bne0 hb,cond_false,e2,cond_false,segF_zero hn]

theorem split_sm {l:List Cap} (h:F.smC l=true) (bs:List Int):F.smLL (F.splitB l bs)=true:=by
 refine List.all_eq_true.2 fun p hp=>List.all_eq_true.2 fun q hq=>?_
 obtain⟨a,_,b,_,rfl⟩:=split_mem hp
 obtain⟨c,hcl, -,rfl⟩:=part_of hq
 exact List.all_eq_true.1 h c hcl

theorem together {l:List Cap} {bs:List Int} (hc:F.chkC l=0) (hb:F.bnds bs=0) (h:F.apR (bs.getD 0 0) (bs.getD (bs.length - 1) 0) [] l=true):F.joinL (F.splitB l bs) bs=(l,0):=by
 obtain⟨ok,h1,h2⟩:=ok_of hc h
 obtain⟨b1,b2⟩:=F.bnds_ok hb
 have hp:=bnds_spec hb
 have g1:bs.head? = some (bs.getD 0 0):=by
  cases bs with
  | nil=>simp at b1
  | cons b r=>rfl
 have g2:bs.getLast? = some (bs.getD (bs.length - 1) 0):=by
  rw[List.getLast?_eq_getElem?]
  have:bs[bs.length - 1]? = some bs[bs.length - 1]:=List.getElem?_eq_getElem (by omega)
  rw[this,M.getD_at this]
 obtain⟨a1,a2⟩:=all ok hp.1 g1 g2 h1 h2 (srt_chk hc)
 have hl:=F.chk_len hc
 unfold F.joinL
 rw[M.bne0 (prts_zero hc hb ok.nb),cond_false,a1,decide_eq_false (by omega),cond_false,a2]

end Jn

theorem size_walk (n:Int) (h0 : -9223372036854775808≤n) (h1:n≤9223372036854775807) (w:World) :
  Calls Tryz.prog 95 #[.int .i64 n] w fun e w'=>e = .returned (.int .u64 (n.natAbs:Int))∧w'=w:=by
 have e1:n<0→IntKind.u64.wrap (-IntKind.u64.wrap n)=(n.natAbs:Int):=fun h=>by rw[IntKind.wrap_u64,IntKind.wrap_u64];omega
 have e2 : ¬n<0→IntKind.u64.wrap n=(n.natAbs:Int):=fun h=>by rw[IntKind.wrap_u64];omega
 go_enter Tryz.func95,Tryz.ntmps95
 by_cases h:n<0
 ·go_wp2
  go_ret
  exact⟨by simp[],rfl⟩
 ·go_wp2
  go_ret
  exact⟨by simp[],rfl⟩

def F.i64B (a:Int):Bool:=decide (-9223372036854775808≤a)&&decide (a≤9223372036854775807)

namespace M

theorem below_ret {P:Program} {f:FuncId} {cargs:Array Value} {w:World} {S:Nat→Prop} {rv:Value} {r:AV} (hlt : ∀b,S b→b<w.heap.size) (hr : ∀w S,RV w S noKeys r rv)
  (h:Calls P f cargs w fun e w'=>e = .returned rv∧Below w.heap.size w w') :
  Calls P f cargs w fun e w'=>∃v S' β',e = .returned v∧Below w.heap.size w w'∧(∀b,S b→S' b)∧(∀b,S' b→S b∨w.heap.size≤b) ∧
   (∀b,S' b→b<w'.heap.size)∧(∀k k' x x',β' k=some x→β' k'=some x'→x.real=true→x'.real=true→x.b=x'.b→k=k') ∧
   (∀k x,β' k=some x→x.real=true→w.heap.size≤x.b∧x.b<w'.heap.size ∧ ¬S' x.b) ∧
   (∀k x,β' k=some x → ∃bl,mget ([]:Heap) k=some bl∧bl.box=false∧(x.real=true→BlkOK w' S' noKeys bl x)∧(x.real=false→bl.rows=[])) ∧
   (∀k bl,mget ([]:Heap) k=some bl → ∃x,β' k=some x)∧RV w' S' β' r v:=by
 refine h.mono ?_
 rintro e w' ⟨rfl,hb⟩
 exact⟨rv,S,noKeys,rfl,hb,fun _ h=>h,fun _ h=> .inl h,fun b h=>Nat.lt_of_lt_of_le (hlt b h) hb.size,(fun _ _ _ _ h=>by cases h),(fun _ _ h=>by cases h),(fun _ _ h=>by cases h),(fun _ _ h=>by cases h),hr _ _⟩

end M

set_option maxHeartbeats 4000000 in
set_option maxRecDepth 100000 in
theorem div0_walk (l d:Nat) (hd:0<d) (hl:l<18446744073709551616) (w:World) :
  Calls Tryz.prog 96 #[.int .u64 0, .int .u64 (l:Int), .int .u64 (d:Int)] w fun e w'=>e = .returned (.tuple #[.int .u64 ((l / d:Nat):Int), .int .u64 ((l % d:Nat):Int)])∧Below w.heap.size w w':=by
 have h1 : ¬(d:Int)=0:=by omega
 have h2 : ¬(d:Int)≤0:=by omega
 have h3:(0:Int)<(d:Int):=by omega
 go_enter Tryz.func96,Tryz.ntmps96
 go_wp2
 go_region
 all_goals (go_wp2;go_ret2;refine⟨?_,Below.drew (Below.refl _ _)⟩)
 all_goals
  have e1:IntKind.u64.wrap ((l:Int) / (d:Int))=((l / d:Nat):Int):=by
   have:=Nat.div_le_self l d
   rw[IntKind.wrap_u64,←Int.natCast_ediv]
   generalize l / d=q at *
   omega
  show Ending.returned (Value.tuple #[.int .u64 (IntKind.u64.wrap ((l:Int) / (d:Int))), .int .u64 ((l:Int) % (d:Int))])=_
  rw[e1]
  rfl

namespace F

def mhi (x y:Nat):Nat:=x*y / 18446744073709551616

def mlo (x y:Nat):Nat:=x*y % 18446744073709551616

def dqm (l d:Nat):Nat:=l / d

def drm (l d:Nat):Nat:=l % d

def rnd (way:Int) (neg:Bool) (r d:Int):Bool:=bif way==1 then neg&&decide (0<r) else bif way==3 then !neg&&decide (0<r) else decide (d - r≤r)

def sclQ (n m d:Int):Nat:=n.natAbs*m.natAbs / d.natAbs

def sclR (n m d:Int):Nat:=n.natAbs*m.natAbs % d.natAbs

def sclP (n m d way:Int):Int:=bif rnd way (decide (n<0)) (sclR n m d) d then (sclQ n m d:Int)+1 else (sclQ n m d:Int)

def sclS (n m d way:Int):Int:=bif decide (1152921504606846976<sclP n m d way) then 1152921504606846976 else sclP n m d way

def scl (n m d way:Int):Int:=bif decide (n<0) then -(sclS n m d way) else sclS n m d way

end F

namespace M

theorem evRnd (way:Int) (neg:Bool) (r:Int) (d:Int):(runF en0 false Tryz.f97 [vI way,vB neg, .v (.int .u64 r), .v (.int .u64 d)]).val =
 bif way==1 then some ((vB (bif neg then decide ((0:Int)<r) else false)),[]) else bif way==3 then some ((vB (bif !neg then decide ((0:Int)<r)
 else false)),[]) else some ((vB (decide (IntKind.wrap IntKind.u64 (d - r)≤r))),[]):=(runFR_val).symm.trans (by kernel_rfl)

def encRnd1 (way:Int) (neg:Bool) (r:Int) (d:Int):List AV:=[vI way,vB neg, .v (.int .u64 r), .v (.int .u64 d)]

def encRnd (a:Int×Bool×Int×Int):List AV:=encRnd1 a.1 a.2.1 a.2.2.1 a.2.2.2

theorem encRnd_inj (a a':Int×Bool×Int×Int) (h:encRnd a=encRnd a'):a=a':=by
 simp only[encRnd,encRnd1]at h
 try simp[]at h
 grind

theorem unRnd (way:Int) (neg:Bool) (r:Int) (d:Int):unenc encRnd ([(vI way),(vB neg),AV.v (Value.int IntKind.u64 r),AV.v (Value.int IntKind.u64 d)])=some (way,neg,r,d):=unenc_of encRnd_inj (way,neg,r,d) rfl

def resRnd1 (way:Int) (neg:Bool) (r:Int) (d:Int):AV×Heap:=(vB (F.rnd way neg r d),[])

def preRnd1 (way:Int) (neg:Bool) (r:Int) (d:Int):Bool:=decide (0≤r)&&decide (r≤d)&&decide (d≤18446744073709551615)

noncomputable def oRnd:Orc:=orc 97 true encRnd (fun a=>preRnd1 a.1 a.2.1 a.2.2.1 a.2.2.2) fun a=>resRnd1 a.1 a.2.1 a.2.2.1 a.2.2.2

theorem okRnd:OrcOK Tryz.prog noG oRnd:=by
 refine mk_ok Tryz.f97 (keep:=false) (by kernel_rfl) (by kernel_rfl) en0_ok mixed (no_loops (by kernel_rfl)) (by first | exact fun _ _=>⟨rfl,rfl⟩ | (intro h;cases h)) ?_
 rintro⟨way,neg,r,d⟩ hpre hok
 show(runF en0 false _ (encRnd1 _ _ _ _)).val=some (resRnd1 _ _ _ _)
 unfold encRnd1 resRnd1
 rw[evRnd]
 simp only[preRnd1,Bool.and_eq_true,decide_eq_true_eq]at hpre
 obtain⟨⟨h1,h2⟩,h3⟩:=hpre
 have w1:IntKind.u64.wrap (d - r)=d - r:=by rw[IntKind.wrap_u64];omega
 simp only[w1,F.rnd]
 cases way==1
 ·cases way==3
  ·rfl
  ·cases neg<;>rfl
 ·cases neg<;>rfl

def encSiz1 (n:Int):List AV:=[vI n]

def encSiz (a:Int):List AV:=encSiz1 a

theorem encSiz_inj (a a':Int) (h:encSiz a=encSiz a'):a=a':=by
 simp only[encSiz,encSiz1]at h
 try simp[]at h
 grind

theorem unSiz (n:Int):unenc encSiz ([(vI n)])=some (n):=unenc_of encSiz_inj (n) rfl

def resSiz1 (n:Int):AV×Heap:=(.v (.int .u64 (n.natAbs:Int)),[])

def preSiz1 (n:Int):Bool:=F.i64B n

noncomputable def oSiz:Orc:=orc 95 true encSiz (fun a=>preSiz1 a) fun a=>resSiz1 a

theorem u64_ok {n:Nat} (h:n<18446744073709551616):okAtom (.int .u64 (n:Int)):=by
 show IntKind.u64.min≤_∧_≤IntKind.u64.max
 simp only[IntKind.min,IntKind.max,IntKind.signed,IntKind.bits]
 simp
 omega

theorem okSiz:OrcOK Tryz.prog noG oSiz:=by
 refine orc_ok ⟨Tryz.f95,by kernel_rfl,by kernel_rfl,by kernel_rfl⟩ (fun n hp _=>?_) (fun _ _=>⟨rfl,rfl⟩)
 simp only[preSiz1,F.i64B,Bool.and_eq_true,decide_eq_true_eq]at hp
 refine SpecP.below1 (fun w S=>rv_mk (u64_ok (by omega))) fun _ w S hG=>?_
 refine(size_walk n hp.1 hp.2 w).mono ?_
 rintro e w' ⟨he,rfl⟩
 exact⟨he,Below.refl _ _⟩

def encMul1 (x:Nat) (y:Nat):List AV:=[.v (.int .u64 x), .v (.int .u64 y)]

def encMul (a:Nat×Nat):List AV:=encMul1 a.1 a.2

theorem encMul_inj (a a':Nat×Nat) (h:encMul a=encMul a'):a=a':=by
 simp only[encMul,encMul1]at h
 try simp[]at h
 grind

theorem unMul (x:Nat) (y:Nat):unenc encMul ([AV.v (Value.int IntKind.u64 (↑x:Int)),AV.v (Value.int IntKind.u64 (↑y:Int))])=some (x,y):=unenc_of encMul_inj (x,y) rfl

def resMul1 (x:Nat) (y:Nat):AV×Heap:=(.tup [.v (.int .u64 (F.mhi x y:Nat)), .v (.int .u64 (F.mlo x y:Nat))],[])

def preMul1 (x:Nat) (y:Nat):Bool:=decide (x<18446744073709551616)&&decide (y<18446744073709551616)

noncomputable def oMul:Orc:=orc 94 true encMul (fun a=>preMul1 a.1 a.2) fun a=>resMul1 a.1 a.2

theorem pair_rv {a b:Nat} (ha:a<18446744073709551616) (hb:b<18446744073709551616) (w:World) (S:Nat→Prop):RV w S noKeys (.tup [.v (.int .u64 (a:Int)), .v (.int .u64 (b:Int))]) (.tuple #[.int .u64 (a:Int), .int .u64 (b:Int)]):=
 ⟨[.int .u64 (a:Int), .int .u64 (b:Int)],rfl,R0.v (w:=w) (S:=S) (u64_ok ha),R0.v (w:=w) (S:=S) (u64_ok hb),trivial⟩

theorem okMul:OrcOK Tryz.prog noG oMul:=by
 refine orc_ok ⟨Tryz.f94,by kernel_rfl,by kernel_rfl,by kernel_rfl⟩ (fun z hp _=>?_) (fun _ _=>⟨rfl,rfl⟩)
 obtain⟨x,y⟩:=z
 simp only[preMul1,Bool.and_eq_true,decide_eq_true_eq]at hp
 have h1:x*y≤18446744073709551615*18446744073709551615:=Nat.mul_le_mul (by omega) (by omega)
 refine SpecP.below2 (pair_rv (by show x*y / 18446744073709551616<_;generalize x*y=p at h1;omega) (by unfold F.mlo;omega)) fun _ _ w S hG=>?_
 refine(Tryz.bits_Mul64 x y hp.1 hp.2 w).mono ?_
 rintro e w' ⟨he,rfl⟩
 exact⟨he,Below.refl _ _⟩

def encDv01 (l:Nat) (d:Nat):List AV:=[.v (.int .u64 0), .v (.int .u64 l), .v (.int .u64 d)]

def encDv0 (a:Nat×Nat):List AV:=encDv01 a.1 a.2

theorem encDv0_inj (a a':Nat×Nat) (h:encDv0 a=encDv0 a'):a=a':=by
 simp only[encDv0,encDv01]at h
 try simp[]at h
 grind

theorem unDv0 (l:Nat) (d:Nat):unenc encDv0 ([AV.v (Value.int IntKind.u64 (0:Int)),AV.v (Value.int IntKind.u64 (↑l:Int)),AV.v (Value.int IntKind.u64 (↑d:Int))])=some (l,d):=unenc_of encDv0_inj (l,d) rfl

def resDv01 (l:Nat) (d:Nat):AV×Heap:=(.tup [.v (.int .u64 (F.dqm l d:Nat)), .v (.int .u64 (F.drm l d:Nat))],[])

def preDv01 (l:Nat) (d:Nat):Bool:=decide (0<d)&&decide (l<18446744073709551616)

noncomputable def oDv0:Orc:=orc 96 true encDv0 (fun a=>preDv01 a.1 a.2) fun a=>resDv01 a.1 a.2

theorem okDv0:OrcOK Tryz.prog noG oDv0:=by
 refine orc_ok ⟨Tryz.f96,by kernel_rfl,by kernel_rfl,by kernel_rfl⟩ (fun z hp _=>?_) (fun _ _=>⟨rfl,rfl⟩)
 obtain⟨l,d⟩:=z
 simp only[preDv01,Bool.and_eq_true,decide_eq_true_eq]at hp
 have h1:=Nat.div_le_self l d
 have h2:=Nat.mod_le l d
 have hr:=pair_rv (a:=F.dqm l d) (b:=F.drm l d) (by unfold F.dqm;omega) (by unfold F.drm;omega)
 intro w S cargs hlt hg hargs
 match cargs,hargs with
 | [u,v,t],⟨r1,r2,r3,_⟩=>
  obtain⟨rfl,_⟩:=rv_v r1
  obtain⟨rfl,_⟩:=rv_v r2
  obtain⟨rfl,_⟩:=rv_v r3
  exact below_ret hlt hr (div0_walk l d hp.1 hp.2 w)

noncomputable def enScl:Env:=envH ty noG lks [oSiz,oMul,oDv0,oRnd] [] [] []

theorem enScl_ok:EnvOK Tryz.prog enScl:=by
 refine envH_ok lks_ok ty_ok ?_ ?_
 ·simp only[List.forall_mem_cons]
  exact⟨okSiz,okMul,okDv0,okRnd,by simp⟩
 ·simp

theorem evScl (n:Int) (m:Int) (d:Int) (way:Int):(runF enScl false Tryz.f43 [vI n,vI m,vI d,vI way]).val =
 (fun(q:List AV)=>(fun(q_1:Option (AV×Heap))=>Option.bind (unenc encSiz [(vI n)]) fun z=>bif F.i64B z then Option.bind (unenc encMul [AV.v (Value.int
 IntKind.u64 (↑(Int.natAbs z):Int)),AV.v (Value.int IntKind.u64 (IntKind.wrap IntKind.u64 m))]) fun z=>bif decide (z.1<18446744073709551616)
 && decide (z.2<18446744073709551616) then bif decide ((↑(F.mhi z.1 z.2):Int)<IntKind.wrap IntKind.u64 d) then Option.bind (unenc encDv0 (AV.v
 (Value.int IntKind.u64 (↑(F.mhi z.1 z.2):Int))::AV.v (Value.int IntKind.u64 (↑(F.mlo z.1 z.2):Int))::q)) fun z=>(fun(q_2:Int)=>(fun
 (q_3:Int)=>(fun(q_4:Int)=>bif decide ((0:Nat)<z.2)&&decide (z.1<18446744073709551616) then Option.bind (unenc encRnd ((vI way)::(vB (decide
 (n<0)))::AV.v (Value.int IntKind.u64 (↑(F.drm z.1 z.2):Int))::q)) fun z=>bif decide ((0:Int)≤z.2.2.1)&&decide
 (z.2.2.1≤z.2.2.2)&&decide (z.2.2.2≤18446744073709551615) then bif F.rnd z.1 z.2.1 z.2.2.1 z.2.2.2 then bif decide
 ((1152921504606846976:Int)<q_3) then q_1 else bif decide (n<0) then some ((vI (IntKind.i64.wrap ((0:Int) - q_4))),[]) else some ((vI q_4),[])
 else bif decide ((1152921504606846976:Int)<q_2) then q_1 else bif decide (n<0) then some ((vI (IntKind.i64.wrap ((0:Int) - IntKind.wrap IntKind.i64
 q_2))),[]) else some ((vI (IntKind.i64.wrap q_2)),[]) else none else none) (IntKind.i64.wrap q_3)) (IntKind.wrap IntKind.u64 (q_2+1))) (↑(F.dqm
 z.1 z.2):Int) else Option.bind (unenc encRnd ((vI way)::(vB (decide (n<0)))::AV.v (Value.int IntKind.u64 (0:Int))::q)) fun z=>bif decide ((0:Int)≤z.2.2.1)&&decide (z.2.2.1≤z.2.2.2)&&decide (z.2.2.2≤18446744073709551615) then bif F.rnd z.1
 z.2.1 z.2.2.1 z.2.2.2 then q_1 else q_1 else none else none else none) (bif decide (n<0) then some ((vI (IntKind.i64.wrap ((0:Int) -
 IntKind.i64.wrap (1152921504606846976:Int)))),[]) else some ((vI (IntKind.i64.wrap (1152921504606846976:Int))),[]))) [AV.v (Value.int IntKind.u64
 (IntKind.wrap IntKind.u64 d))]:=(runFR_val).symm.trans (by kernel_rfl)

def encScl1 (n:Int) (m:Int) (d:Int) (way:Int):List AV:=[vI n,vI m,vI d,vI way]

def encScl (a:Int×Int×Int×Int):List AV:=encScl1 a.1 a.2.1 a.2.2.1 a.2.2.2

theorem encScl_inj (a a':Int×Int×Int×Int) (h:encScl a=encScl a'):a=a':=by
 simp only[encScl,encScl1]at h
 try simp[]at h
 grind

theorem unScl (n:Int) (m:Int) (d:Int) (way:Int):unenc encScl ([(vI n),(vI m),(vI d),(vI way)])=some (n,m,d,way):=unenc_of encScl_inj (n,m,d,way) rfl

def resScl1 (n:Int) (m:Int) (d:Int) (way:Int):AV×Heap:=(vI (F.scl n m d way),[])

def preScl1 (n:Int) (m:Int) (d:Int) (way:Int):Bool:=F.i64B n&&decide (0≤m)&&decide (m≤1000000)&&decide (1≤d)&&decide (d≤9223372036854775807)&&decide (n.natAbs*m.natAbs<9223372036854775808)

noncomputable def oScl:Orc:=orc 43 true encScl (fun a=>preScl1 a.1 a.2.1 a.2.2.1 a.2.2.2) fun a=>resScl1 a.1 a.2.1 a.2.2.1 a.2.2.2

theorem okScl:OrcOK Tryz.prog noG oScl:=by
 refine mk_ok Tryz.f43 (keep:=false) (by kernel_rfl) (by kernel_rfl) enScl_ok mixed (no_loops (by kernel_rfl)) (by first | exact fun _ _=>⟨rfl,rfl⟩ | (intro h;cases h)) ?_
 rintro⟨n,m,d,way⟩ hpre hok
 show(runF enScl false _ (encScl1 _ _ _ _)).val=some (resScl1 _ _ _ _)
 unfold encScl1 resScl1
 rw[evScl]
 simp only[preScl1,Bool.and_eq_true,decide_eq_true_eq]at hpre
 obtain⟨⟨⟨⟨⟨h1,h2⟩,h3⟩,h4⟩,h5⟩,h6⟩:=hpre
 have hn:=h1
 simp only[F.i64B,Bool.and_eq_true,decide_eq_true_eq]at hn
 have w1:IntKind.u64.wrap m=((m.natAbs:Nat):Int):=by rw[IntKind.wrap_u64];omega
 have w2:IntKind.u64.wrap d=((d.natAbs:Nat):Int):=by rw[IntKind.wrap_u64];omega
 have w3:((F.mhi n.natAbs m.natAbs:Nat):Int)=0:=by unfold F.mhi;omega
 have w4:F.mlo n.natAbs m.natAbs=n.natAbs*m.natAbs:=by unfold F.mlo;omega
 have hd:((d.natAbs:Nat):Int)=d:=by omega
 have hr:F.drm (n.natAbs*m.natAbs) d.natAbs<d.natAbs:=Nat.mod_lt _ (by omega)
 have hq:F.dqm (n.natAbs*m.natAbs) d.natAbs≤n.natAbs*m.natAbs:=Nat.div_le_self _ _
 simp only[unSiz,unMul,unDv0,unRnd,Option.bind_some,cond_true,h1,w1,w2,w3,w4]
 simp (disch:=omega) only [decide_eq_true,Bool.and_self,cond_true]
 unfold F.scl F.sclS F.sclP
 rw[show F.sclQ n m d=F.dqm (n.natAbs*m.natAbs) d.natAbs from rfl,show F.sclR n m d=F.drm (n.natAbs*m.natAbs) d.natAbs from rfl,hd]
 generalize F.dqm (n.natAbs*m.natAbs) d.natAbs=q at *
 generalize F.drm (n.natAbs*m.natAbs) d.natAbs=r at *
 generalize n.natAbs*m.natAbs=p at *
 have u1:IntKind.u64.wrap ((q:Int)+1)=(q:Int)+1:=by rw[IntKind.wrap_u64];omega
 rw[u1]
 have key : ∀x:Int,0≤x→x≤1152921504606846976→IntKind.i64.wrap x=x∧IntKind.i64.wrap (0 - x) = -x:=fun x h1 h2=>by
  rw[IntKind.wrap_i64,IntKind.wrap_i64];omega
 have kF:=key 1152921504606846976 (by omega) (by omega)
 cases F.rnd way (decide (n<0)) (r:Int) d
 ·simp only[cond_false]
  by_cases hx:(1152921504606846976:Int)<q
  ·rw[decide_eq_true hx]
   cases decide (n<0)<;>simp only[cond_true,cond_false,kF.1,kF.2]
  ·rw[decide_eq_false hx]
   have k1:=key q (by omega) (by omega)
   cases decide (n<0)<;>simp only[cond_true,cond_false,k1.1,k1.2]
 ·simp only[cond_true]
  by_cases hx:(1152921504606846976:Int)<q+1
  ·rw[decide_eq_true hx]
   cases decide (n<0)<;>simp only[cond_true,cond_false,kF.1,kF.2]
  ·rw[decide_eq_false hx]
   have k1:=key (q+1) (by omega) (by omega)
   cases decide (n<0)<;>simp only[cond_true,cond_false,k1.1,k1.2]

end M

def F.noTm (n:Int):Bool:=F.out n (-1000000000000000) 1000000000000000

def F.noScale (by_:Int):Bool:=F.out by_ 1 1000000000

def F.conv (n:Int) (by_:Int) (tt:Int) (way:Int):Int×Int:=
 bif F.noTm n||F.noScale by_||F.noScale tt then (0,1) else bif F.out way 1 3 then (0,4) else
 bif F.noTm (F.scl n tt by_ way) then (0,1) else (F.scl n tt by_ way,0)

namespace M

noncomputable def enNoS:Env:=envH ty noG lks [oOut] [] [] []

theorem enNoS_ok:EnvOK Tryz.prog enNoS:=by
 refine envH_ok lks_ok ty_ok ?_ ?_
 ·simp only[List.forall_mem_cons]
  exact⟨okOut,by simp⟩
 ·simp

theorem evNoS (n:Int):(runF enNoS false Tryz.f24 [vI n]).val =
 Option.bind (unenc encOut [(vI n),(vI 1),(vI 1000000000)]) fun z=>some ((vB (F.out z.1 z.2.1 z.2.2)),[]):=by kernel_rfl

def encNoS1 (n:Int):List AV:=[vI n]

def encNoS (a:Int):List AV:=encNoS1 a

theorem encNoS_inj (a a':Int) (h:encNoS a=encNoS a'):a=a':=by
 simp only[encNoS,encNoS1]at h
 try simp[]at h
 grind

theorem unNoS (n:Int):unenc encNoS ([(vI n)])=some (n):=unenc_of encNoS_inj (n) rfl

def resNoS1 (n:Int):AV×Heap:=(vB (F.noScale n),[])

def preNoS1 (n:Int):Bool:=true

noncomputable def oNoS:Orc:=orc 24 true encNoS (fun a=>preNoS1 a) fun a=>resNoS1 a

theorem okNoS:OrcOK Tryz.prog noG oNoS:=by
 refine mk_ok Tryz.f24 (keep:=false) (by kernel_rfl) (by kernel_rfl) enNoS_ok mixed (no_loops (by kernel_rfl)) (by first | exact fun _ _=>⟨rfl,rfl⟩ | (intro h;cases h)) ?_
 rintro n hpre hok
 show(runF enNoS false _ (encNoS1 _)).val=some (resNoS1 _)
 unfold encNoS1 resNoS1
 rw[evNoS]
 simp only[unOut,Option.bind_some,F.noScale]

noncomputable def enNoTm:Env:=envH ty noG lks [oOut] [] [] []

theorem enNoTm_ok:EnvOK Tryz.prog enNoTm:=by
 refine envH_ok lks_ok ty_ok ?_ ?_
 ·simp only[List.forall_mem_cons]
  exact⟨okOut,by simp⟩
 ·simp

theorem evNoTm (n:Int):(runF enNoTm false Tryz.f42 [vI n]).val =
 Option.bind (unenc encOut [(vI n),(vI (-1000000000000000:Int)),(vI 1000000000000000)]) fun z=>some ((vB (F.out z.1 z.2.1
 z.2.2)),[]):=by kernel_rfl

def encNoTm1 (n:Int):List AV:=[vI n]

def encNoTm (a:Int):List AV:=encNoTm1 a

theorem encNoTm_inj (a a':Int) (h:encNoTm a=encNoTm a'):a=a':=by
 simp only[encNoTm,encNoTm1]at h
 try simp[]at h
 grind

theorem unNoTm (n:Int):unenc encNoTm ([(vI n)])=some (n):=unenc_of encNoTm_inj (n) rfl

def resNoTm1 (n:Int):AV×Heap:=(vB (F.noTm n),[])

def preNoTm1 (n:Int):Bool:=true

noncomputable def oNoTm:Orc:=orc 42 true encNoTm (fun a=>preNoTm1 a) fun a=>resNoTm1 a

theorem okNoTm:OrcOK Tryz.prog noG oNoTm:=by
 refine mk_ok Tryz.f42 (keep:=false) (by kernel_rfl) (by kernel_rfl) enNoTm_ok mixed (no_loops (by kernel_rfl)) (by first | exact fun _ _=>⟨rfl,rfl⟩ | (intro h;cases h)) ?_
 rintro n hpre hok
 show(runF enNoTm false _ (encNoTm1 _)).val=some (resNoTm1 _)
 unfold encNoTm1 resNoTm1
 rw[evNoTm]
 simp only[unOut,Option.bind_some,F.noTm]
 done

theorem evNoW (n:Int):(runF enNoTm false Tryz.f116 [vI n]).val =
 Option.bind (unenc encOut [(vI n),(vI 1),(vI 3)]) fun z=>some ((vB (F.out z.1 z.2.1 z.2.2)),[]):=by kernel_rfl

def encNoW1 (n:Int):List AV:=[vI n]

def encNoW (a:Int):List AV:=encNoW1 a

theorem encNoW_inj (a a':Int) (h:encNoW a=encNoW a'):a=a':=by
 simp only[encNoW,encNoW1]at h
 try simp[]at h
 grind

theorem unNoW (n:Int):unenc encNoW ([(vI n)])=some (n):=unenc_of encNoW_inj (n) rfl

def resNoW1 (n:Int):AV×Heap:=(vB (F.out n 1 3),[])

def preNoW1 (n:Int):Bool:=true

noncomputable def oNoW:Orc:=orc 116 true encNoW (fun a=>preNoW1 a) fun a=>resNoW1 a

theorem okNoW:OrcOK Tryz.prog noG oNoW:=by
 refine mk_ok Tryz.f116 (keep:=false) (by kernel_rfl) (by kernel_rfl) enNoTm_ok mixed (no_loops (by kernel_rfl)) (by first | exact fun _ _=>⟨rfl,rfl⟩ | (intro h;cases h)) ?_
 rintro n hpre hok
 show(runF enNoTm false _ (encNoW1 _)).val=some (resNoW1 _)
 unfold encNoW1 resNoW1
 rw[evNoW]
 simp only[unOut,Option.bind_some]
 done

noncomputable def enCnv:Env:=envH ty noG lks [oNoTm,oNoS,oNoW,oScl] [] [] []

theorem enCnv_ok:EnvOK Tryz.prog enCnv:=by
 refine envH_ok lks_ok ty_ok ?_ ?_
 ·simp only[List.forall_mem_cons]
  exact⟨okNoTm,okNoS,okNoW,okScl,by simp⟩
 ·simp

theorem evCnv (n:Int) (by_:Int) (tt:Int) (way:Int):(runF enCnv false Tryz.f55 [vI n,vI by_,vI tt,vI way]).val =
 Option.bind (unenc encNoTm [(vI n)]) fun z=>bif !F.noTm z then Option.bind (unenc encNoS [(vI by_)]) fun z_1=>bif !bif F.noTm z then true else
 F.noScale z_1 then Option.bind (unenc encNoS [(vI tt)]) fun z_2=>bif bif bif F.noTm z then true else F.noScale z_1 then true else F.noScale z_2 then some (AV.tup
 [(vI 0),(vI 1)],[]) else Option.bind (unenc encNoW [(vI way)]) fun z=>bif F.out z (1:Int) (3:Int) then some (AV.tup [(vI 0),(vI 4)],[]) else Option.bind (unenc encScl [(vI n),(vI tt),(vI by_),(vI way)]) fun z=>bif F.i64B z.1&&decide ((0:Int)≤z.2.1)
 && decide (z.2.1≤1000000)&&decide ((1:Int)≤z.2.2.1)&&decide (z.2.2.1≤9223372036854775807)&&decide (Int.natAbs z.1 *
 Int.natAbs z.2.1<9223372036854775808) then Option.bind (unenc encNoTm [(vI (F.scl z.1 z.2.1 z.2.2.1 z.2.2.2))]) fun z_3=>bif
 F.noTm z_3 then some (AV.tup [(vI 0),(vI 1)],[]) else some (AV.tup [(vI (F.scl z.1 z.2.1 z.2.2.1 z.2.2.2)),(vI 0)],[]) else
 none else some (AV.tup [(vI 0),(vI 1)],[]) else some (AV.tup [(vI 0),(vI 1)],[]):=by kernel_rfl

def encCnv1 (n:Int) (by_:Int) (tt:Int) (way:Int):List AV:=[vI n,vI by_,vI tt,vI way]

def encCnv (a:Int×Int×Int×Int):List AV:=encCnv1 a.1 a.2.1 a.2.2.1 a.2.2.2

theorem encCnv_inj (a a':Int×Int×Int×Int) (h:encCnv a=encCnv a'):a=a':=by
 simp only[encCnv,encCnv1]at h
 try simp[]at h
 grind

theorem unCnv (n:Int) (by_:Int) (tt:Int) (way:Int):unenc encCnv ([(vI n),(vI by_),(vI tt),(vI way)])=some (n,by_,tt,way):=unenc_of encCnv_inj (n,by_,tt,way) rfl

def resCnv1 (n:Int) (by_:Int) (tt:Int) (way:Int):AV×Heap:=(.tup [vI (F.conv n by_ tt way).1,vI (F.conv n by_ tt way).2],[])

def preCnv1 (n:Int) (by_:Int) (tt:Int) (way:Int):Bool:=F.le tt 1000

noncomputable def oCnv:Orc:=orc 55 true encCnv (fun a=>preCnv1 a.1 a.2.1 a.2.2.1 a.2.2.2) fun a=>resCnv1 a.1 a.2.1 a.2.2.1 a.2.2.2

theorem okCnv:OrcOK Tryz.prog noG oCnv:=by
 refine mk_ok Tryz.f55 (keep:=false) (by kernel_rfl) (by kernel_rfl) enCnv_ok mixed (no_loops (by kernel_rfl)) (by first | exact fun _ _=>⟨rfl,rfl⟩ | (intro h;cases h)) ?_
 rintro⟨n,by_,tt,way⟩ hpre hok
 show(runF enCnv false _ (encCnv1 _ _ _ _)).val=some (resCnv1 _ _ _ _)
 unfold encCnv1 resCnv1
 rw[evCnv]
 simp only[preCnv1,F.le,decide_eq_true_eq]at hpre
 simp only[unNoTm,unNoS,unNoW,unScl,Option.bind_some,F.conv]
 cases h1:F.noTm n
 ·cases h2:F.noScale by_
  ·cases h3:F.noScale tt
   ·simp only[F.noTm,F.noScale,F.out,Bool.or_eq_false_iff,decide_eq_false_iff_not]at h1 h2 h3
    have a1:F.i64B n=true:=by simp only[F.i64B,Bool.and_eq_true,decide_eq_true_eq];omega
    have a2:n.natAbs*tt.natAbs<9223372036854775808:=by
     have:n.natAbs*tt.natAbs≤1000000000000000*1000:=Nat.mul_le_mul (by omega) (by omega)
     omega
    have a3:(1:Int)≤by_:=by omega
    have a4:by_≤(9223372036854775807:Int):=by omega
    have a5:(0:Int)≤tt:=by omega
    have a6:tt≤(1000000:Int):=by omega
    cases F.out way 1 3
    ·simp only[a1,decide_eq_true a2,decide_eq_true a3,decide_eq_true a4,decide_eq_true a5,decide_eq_true a6,Bool.and_self,Bool.or_false,cond_true,cond_false]
     cases F.noTm (F.scl n tt by_ way)<;>rfl
    ·rfl
   ·rfl
  ·rfl
 ·rfl

noncomputable def enAlv:Env:=envH ty noG lks [oCnv] [] [] []

theorem enAlv_ok:EnvOK Tryz.prog enAlv:=by
 refine envH_ok lks_ok ty_ok ?_ ?_
 ·simp only[List.forall_mem_cons]
  exact⟨okCnv,by simp⟩
 ·simp

theorem conv_al:F.conv 1 3 2 3=(1,0):=by kernel_rfl

theorem evAlv  : (runF enAlv false Tryz.f17 []).val =
 Option.bind (unenc encCnv [(vI 1),(vI 3),(vI 2),(vI 3)]) fun z=>bif F.le z.2.2.1 (1000:Int) then
 some ((vB (bif (F.conv z.1 z.2.1 z.2.2.1 z.2.2.2).snd==0 then (F.conv z.1 z.2.1 z.2.2.1 z.2.2.2).fst==1 else
 false)),[]) else none:=by kernel_rfl

def encAlv1  : List AV:=[]

def encAlv (a:Unit):List AV:=encAlv1

theorem encAlv_inj (a a':Unit) (h:encAlv a=encAlv a'):a=a':=rfl

theorem unAlv  : unenc encAlv ([])=some ():=unenc_of encAlv_inj () rfl

def resAlv1  : AV×Heap:=(vB true,[])

def preAlv1  : Bool:=true

noncomputable def oAlv:Orc:=orc 17 true encAlv (fun a=>preAlv1) fun a=>resAlv1

theorem okAlv:OrcOK Tryz.prog noG oAlv:=by
 refine mk_ok Tryz.f17 (keep:=false) (by kernel_rfl) (by kernel_rfl) enAlv_ok mixed (no_loops (by kernel_rfl)) (by first | exact fun _ _=>⟨rfl,rfl⟩ | (intro h;cases h)) ?_
 rintro⟨⟩ hpre hok
 show(runF enAlv false _ (encAlv1 )).val=some (resAlv1 )
 unfold encAlv1 resAlv1
 rw[evAlv]
 have e:F.le 2 1000=true:=rfl
 simp only[unCnv,Option.bind_some,F.le,conv_al]
 try rfl

end M

def F.sgB (s:Seg):Bool:=F.noTm s.begin||F.noTm s.lead||F.noTm s.length||F.noTm (s.begin+s.lead+s.length)

def F.bdN (n sc:Int):Int:=F.scl n 1000 sc 2

def F.bdG (f:Int→Int):List Seg→List Int
 | []=>[]
 | [s]=>[f (s.begin+s.lead),f (s.begin+s.lead+s.length)]
 | s::t::r=>f (s.begin+s.lead)::F.bdG f (t::r)

def F.bdL (sc:Int) (g:List Seg):List Int:=F.bdG (fun n=>F.bdN n sc) g

def F.txs (ps:List (List Cap)):List ByteArray×Int:=bif M.ffI F.longF ps != 0 then ([],M.ffI F.longF ps) else (ps.map F.longS,0)

def F.subs (l:List Cap) (g:List Seg) (sc:Int):List ByteArray×Int:=
 bif F.chkC l != 0 then ([],F.chkC l) else bif decide (g.length=0) then ([],9) else bif F.noScale sc then ([],1) else bif g.any F.sgB then ([],1) else
 bif (F.cutL l (F.bdL sc g)).2 != 0 then ([],(F.cutL l (F.bdL sc g)).2) else F.txs (F.cutL l (F.bdL sc g)).1

theorem F.sgB_ok {s:Seg} (h:F.sgB s=false):(-1000000000000000≤s.begin∧s.begin≤1000000000000000)∧(-1000000000000000≤s.lead∧s.lead≤1000000000000000)∧(-1000000000000000≤s.length∧s.length≤1000000000000000)∧(-1000000000000000≤s.begin+s.lead+s.length∧s.begin+s.lead+s.length≤1000000000000000):=by
 unfold F.sgB F.noTm F.out at h
 simp only[Bool.or_eq_false_iff,decide_eq_false_iff_not]at h
 omega

def F.sgW (s:Seg):Bool:=F.noTm s.begin||(F.noTm s.lead||(F.noTm s.length||F.noTm (IntKind.i64.wrap (IntKind.i64.wrap (s.begin+s.lead)+s.length))))

theorem F.sgW_eq (s:Seg):F.sgW s=F.sgB s:=by
 unfold F.sgW F.sgB
 cases h1:F.noTm s.begin
 ·cases h2:F.noTm s.lead
  ·cases h3:F.noTm s.length
   ·unfold F.noTm F.out at h1 h2 h3
    simp only[Bool.or_eq_false_iff,decide_eq_false_iff_not]at h1 h2 h3
    rw[M.wrap_id (n:=s.begin+s.lead) (by omega) (by omega),M.wrap_id (by omega) (by omega)]
    rfl
   ·rfl
  ·rfl
 ·rfl

theorem F.scl_pre {n sc:Int} (hn : -2000000000000000≤n∧n≤2000000000000000) (hs:F.noScale sc=false):F.i64B n=true∧n.natAbs*(1000:Int).natAbs<9223372036854775808∧1≤sc∧sc≤1000000000:=by
 unfold F.noScale F.out at hs
 simp only[Bool.or_eq_false_iff,decide_eq_false_iff_not]at hs
 have h3:(1000:Int).natAbs=1000:=rfl
 refine⟨?_,by rw[h3];omega,by omega,by omega⟩
 unfold F.i64B
 rw[decide_eq_true (by omega),decide_eq_true (by omega)]
 rfl

theorem F.bdG_last (f:Int→Int) (s:Seg):F.bdG f [s]=[f (s.begin+s.lead),f (s.begin+s.lead+s.length)]:=rfl

theorem F.bdG_more (f:Int→Int) (s:Seg) {r:List Seg} (h:r≠[]):F.bdG f (s::r)=f (s.begin+s.lead)::F.bdG f r:=by
 cases r with
 | nil=>exact absurd rfl h
 | cons t r=>rfl

namespace M

def stSb1 (l:List Cap) (g:List Seg) (sc:Int) (acc:List Int) (k:Nat):St:=⟨[(33,vI k),(32,vI g.length),(31, .sl (g.map eSeg)),(9, .own 9),(2,vI sc),(1, .sl (g.map eSeg)),(0, .sl (l.map eCap))],[(9,⟨false,3,1,acc.map eI⟩)]⟩

def stSb11 (a:(List Cap)×(List Seg)×Int×(List Int)×Nat):St:=stSb1 a.1 a.2.1 a.2.2.1 a.2.2.2.1 a.2.2.2.2

theorem stSb1_inj (a a':(List Cap)×(List Seg)×Int×(List Int)×Nat) (h:stSb11 a=stSb11 a'):a=a':=by
 simp only[stSb11,stSb1]at h
 try simp[ints_inj,eCaps_inj,eSegs_inj]at h
 grind

theorem unstSb10 (l:List Cap) (g:List Seg) (sc:Int)  : unenc stSb11 (St.mk [(33,(vI (0:Int))),(32,(vI (↑(List.length g):Int))),(31,AV.sl (List.map eSeg g)),(9, .own 9),(2,(vI sc)),(1,AV.sl (List.map eSeg g)),(0,AV.sl
 (List.map eCap l))] [(9,Blk.mk false 3 1 [])])=some (l,g,sc,[],0):=unenc_of stSb1_inj (l,g,sc,[],0) rfl

def outSb1 (l:List Cap) (g:List Seg) (sc:Int) (acc:List Int) (k:Nat):T (Ex×St):= .ifB (!((g.drop k).any F.sgB)) (.ret (.exit 1,⟨[(9, .own 9),(0, .sl (l.map eCap))],[(9,⟨false,3,1,(acc++F.bdL sc (g.drop k)).map eI⟩)]⟩)) (.ret (.ret,⟨[(7,vI 1),(6, .own 6)],[(6,⟨false,9,1,[]⟩)]⟩))

noncomputable def prlSb1 (l:List Cap) (g:List Seg) (sc:Int) (acc:List Int) (k:Nat):Bool:=decide (g.length≤1048576)&&decide (k≤g.length)&&decide (acc.length≤k∨k=g.length) && !F.noScale sc

noncomputable def lpSb1:Nat×(St→T (Ex×St)):=(10,lpo [33,32,31,9,2,1,0] [9] stSb11 (fun a=>prlSb1 a.1 a.2.1 a.2.2.1 a.2.2.2.1 a.2.2.2.2) fun a=>outSb1 a.1 a.2.1 a.2.2.1 a.2.2.2.1 a.2.2.2.2)

def stSb2 (ps:List (List Cap)) (acc:List ByteArray) (k:Nat):St:=⟨[(102,vI k),(101,vI ps.length),(100, .sl (ps.map eL_eCap)),(14, .own 14)],[(14,⟨false,9,1,acc.map eStr⟩)]⟩

def stSb21 (a:(List (List Cap))×(List ByteArray)×Nat):St:=stSb2 a.1 a.2.1 a.2.2

theorem stSb2_inj (a a':(List (List Cap))×(List ByteArray)×Nat) (h:stSb21 a=stSb21 a'):a=a':=by
 simp only[stSb21,stSb2]at h
 try simp[strs_inj,eL_eCaps_inj]at h
 grind

theorem unstSb20 (ps:List (List Cap))  : unenc stSb21 (St.mk [(102,(vI (0:Int))),(101,(vI (↑(List.length ps):Int))),(100,AV.sl (List.map eL_eCap ps)),(14, .own 14)] [(14,Blk.mk false 9 1 [])])=some (ps,[],0):=unenc_of stSb2_inj (ps,[],0) rfl

def outSb2 (ps:List (List Cap)) (acc:List ByteArray) (k:Nat):T (Ex×St):= .ifB (decide (M.ffI F.longF (ps.drop k)=0)) (.ret (.exit 3,⟨[(14, .own 14)],[(14,⟨false,9,1,(acc++(ps.drop k).map F.longS).map eStr⟩)]⟩)) (.ret (.ret,⟨[(7,vI (M.ffI F.longF (ps.drop k))),(6, .own 6)],[(6,⟨false,9,1,[]⟩)]⟩))

noncomputable def prlSb2 (ps:List (List Cap)) (acc:List ByteArray) (k:Nat):Bool:=F.smLL ps&&decide (ps.length≤1000)&&decide (k≤ps.length)&&decide (acc.length≤k)

noncomputable def lpSb2:Nat×(St→T (Ex×St)):=(23,lpo [102,101,100,14] [14] stSb21 (fun a=>prlSb2 a.1 a.2.1 a.2.2) fun a=>outSb2 a.1 a.2.1 a.2.2)

noncomputable def enSb:Env:=envH ty noG lks [oChC,oNoS,oNoTm,oScl,oSp,oLgp] [] [] [lpSb1,lpSb2]

theorem enSb_ok:EnvOK Tryz.prog enSb:=by
 refine envH_ok lks_ok ty_ok ?_ ?_
 ·simp only[List.forall_mem_cons]
  exact⟨okChC,okNoS,okNoTm,okScl,okSp,okLgp,by simp⟩
 ·simp

theorem evSb1L (l:List Cap) (g:List Seg) (sc:Int) (acc:List Int) (k:Nat):((exec enSb (loopN Tryz.f13 0) (stSb1 l g sc acc k)).bind (lessX ([33,32,31,9,2,1,0],[9]) ([9,0],[9]) ([7,6],[6]))).val =
 (fun(q:Seg)=>(fun(q_1:List AV)=>(fun(q_2:Option (Ex×St))=>(fun(q_3:List (Nat×AV))=>bif decide ((↑k:Int)<(↑(List.length g):Int)) then
 Option.bind (unenc (List.map eSeg) (List.map eSeg g)) fun z=>(fun(q_4:Int)=>(fun(q_5:AV)=>bif decide (k<List.length z) then Option.bind (unenc
 encNoTm [(vI (List.getD z k q).begin)]) fun z_1=>bif !F.noTm z_1 then Option.bind (unenc encNoTm [(vI (List.getD z k q).lead)]) fun z_2=>bif !F.noTm
 z_2 then Option.bind (unenc encNoTm [(vI (List.getD z k q).length)]) fun z=>bif !F.noTm z then Option.bind (unenc encNoTm [q_5]) fun z=>bif F.noTm z
 then q_2 else Option.bind (unenc encScl ((vI q_4)::q_1)) fun z=>(fun(q:List Row)=>bif F.i64B z.1&&decide ((0:Int)≤z.2.1) &&
 decide (z.2.1≤1000000)&&decide ((1:Int)≤z.2.2.1)&&decide (z.2.2.1≤9223372036854775807)&&decide (Int.natAbs z.1*Int.natAbs
 z.2.1<9223372036854775808) then bif Nat.ble ((List.length (List.map eI acc)+1)*8) 140737488355328&&true then bif (↑k:Int) ==
 IntKind.i64.wrap ((↑(List.length (List.map eSeg g)):Int) - (1:Int)) then Option.bind (unenc encScl (q_5::q_1)) fun z=>bif F.i64B
 z.1&&decide ((0:Int)≤z.2.1)&&decide (z.2.1≤1000000)&&decide ((1:Int)≤z.2.2.1)&&decide (z.2.2.1≤9223372036854775807)&&decide (Int.natAbs z.1*Int.natAbs z.2.1<9223372036854775808) then bif Nat.ble ((List.length q+1)*8) 140737488355328
 && true then some (Ex.normal,St.mk q_3 [(9,Blk.mk false 3 1 (q++[[(vI (F.scl z.1 z.2.1 z.2.2.1 z.2.2.2))]]))]) else none else none else some
 (Ex.normal,St.mk q_3 [(9,Blk.mk false 3 1 q)]) else none else none) (List.map eI acc++[[(vI (F.scl z.1 z.2.1 z.2.2.1 z.2.2.2))]]) else q_2 else q_2
 else q_2 else none) ((vI (IntKind.i64.wrap (q_4+(List.getD z k q).length))))) (IntKind.i64.wrap ((List.getD z k q).begin+(List.getD z k q).lead)) else
 some (Ex.exit (1:Nat),St.mk [(9, .own 9),(0,AV.sl (List.map eCap l))] [(9,Blk.mk false 3 1 (List.map eI acc))])) [(33,(vI (IntKind.i64.wrap ((↑k:Int)+1)))),(32,(vI (↑(List.length g):Int))),(31,AV.sl (List.map eSeg g)),(9, .own 9),(2,(vI sc)),(1,AV.sl (List.map eSeg g)),(0,AV.sl (List.map eCap l))])
 (some (Ex.ret,St.mk [(7,(vI 1)),(6, .own 6)] [(6,Blk.mk false 9 1 [])]))) [(vI 1000),(vI sc),(vI 2)]) (Seg.mk (0:Int) (0:Int) (0:Int)
 (0:Int) (0:Int) (0:Int) (0:Int)):=(execR_bind _ _ _).symm.trans (by kernel_rfl)

theorem lpSb1_ok (l:List Cap) (g:List Seg) (sc:Int) (acc:List Int) (k:Nat) (hp:prlSb1 l g sc acc k=true) : ∀ex s',(outSb1 l g sc acc k).val=some (ex,s')→LoopOK enSb (loopN Tryz.f13 0) (stSb1 l g sc acc k) ex s':=by
 simp only[prlSb1,Bool.and_eq_true,decide_eq_true_eq]at hp
 obtain⟨⟨⟨h1,h2⟩,h3⟩,h4⟩:=hp
 have h4:F.noScale sc=false:=by simpa using h4
 refine loop_gen (st:=fun a:List Int×Nat=>stSb1 l g sc a.1 a.2) (out:=fun a=>outSb1 l g sc a.1 a.2) (I:=fun a=>a.2≤g.length∧(a.1.length≤a.2∨a.2=g.length)) (n:=([33,32,31,9,2,1,0],[9])) (e:=([9,0],[9])) (r:=([7,6],[6])) (fun a=>g.length - a.2) ?_ (acc,k) ⟨h2,h3⟩
 clear h2 h3 acc k
 rintro⟨acc,k⟩ ⟨h2,h3⟩
 simp only at h2 h3
 by_cases hlt:k<g.length
 ·have hy:g[k]? = some g[k]:=List.getElem?_eq_getElem hlt
  have hd:g.drop k=g[k]::g.drop (k+1):=List.drop_eq_getElem_cons hlt
  generalize g[k]=s at hy hd
  have hN:=next_at hlt (by omega:g.length≤9223372036854775807)
  have hW:=F.sgW_eq s
  have h3:acc.length≤k:=h3.resolve_right (by omega)
  have z1:decide ((0:Int)≤1000)=true:=rfl
  have z2:decide ((1000:Int)≤1000000)=true:=rfl
  cases hb:F.sgB s
  ·obtain⟨a1,a2,a3,a4⟩:=F.sgB_ok hb
   have w1:IntKind.i64.wrap (s.begin+s.lead)=s.begin+s.lead:=wrap_id (by omega) (by omega)
   have w2:IntKind.i64.wrap (s.begin+s.lead+s.length)=s.begin+s.lead+s.length:=wrap_id (by omega) (by omega)
   have w3:IntKind.i64.wrap ((g.length:Int) - 1)=(g.length:Int) - 1:=wrap_id (by omega) (by omega)
   obtain⟨p1,p2,p3,p4⟩:=F.scl_pre (n:=s.begin+s.lead) (by omega) h4
   obtain⟨q1,q2,q3,q4⟩:=F.scl_pre (n:=s.begin+s.lead+s.length) (by omega) h4
   have n1:F.noTm s.begin=false:=by unfold F.noTm F.out;rw[decide_eq_false (by omega),decide_eq_false (by omega)];rfl
   have n2:F.noTm s.lead=false:=by unfold F.noTm F.out;rw[decide_eq_false (by omega),decide_eq_false (by omega)];rfl
   have n3:F.noTm s.length=false:=by unfold F.noTm F.out;rw[decide_eq_false (by omega),decide_eq_false (by omega)];rfl
   have n4:F.noTm (s.begin+s.lead+s.length)=false:=by unfold F.noTm F.out;rw[decide_eq_false (by omega),decide_eq_false (by omega)];rfl
   have b1:Nat.ble ((acc.length+1)*8) 140737488355328=true:=ble_t (by omega)
   have b2:Nat.ble ((acc.length+1+1)*8) 140737488355328=true:=ble_t (by omega)
   have b3:decide (sc≤9223372036854775807)=true:=decide_eq_true (by omega)
   right
   by_cases hlast:k+1=g.length
   ·have hdn:g.drop (k+1)=[]:=List.drop_eq_nil_of_le (by omega)
    have hi:((k:Int)==(g.length:Int) - 1)=true:=by rw[beq_iff_eq];omega
    refine⟨(acc++[F.bdN (s.begin+s.lead) sc,F.bdN (s.begin+s.lead+s.length) sc],k+1),?_,rfl,⟨hlt, .inr hlast⟩,by simp only;omega,?_⟩
    ·rw[evSb1L]
     simp only[unNoTm,unScl,Option.bind_some,List.length_map,unSegs,cond_true,cond_false,Bool.and_true,cast_lt hlt,decide_eq_true hlt,getD_at hy,hN,w1,w2,w3,n1,n2,n3,n4,p1,q1,decide_eq_true p2,decide_eq_true q2,decide_eq_true p3,hi,z1,z2,b3,Bool.and_self,Bool.not_false,List.length_append,List.length_singleton,b1,b2,appInts',List.append_assoc,List.singleton_append]
     try rfl
    ·simp only[outSb1,hd,hdn,F.bdL,F.bdG_last,List.any_cons,List.any_nil,hb,Bool.or_false,F.bdG,List.append_nil]
   ·have hdn:g.drop (k+1)≠[]:=fun e=>by
     have:=congrArg List.length e
     rw[List.length_drop]at this
     simp at this
     omega
    have hi:((k:Int)==(g.length:Int) - 1)=false:=by rw[beq_eq_false_iff_ne];omega
    refine⟨(acc++[F.bdN (s.begin+s.lead) sc],k+1),?_,rfl,⟨hlt, .inl (by simp only[List.length_append,List.length_singleton];omega)⟩,by simp only;omega,?_⟩
    ·rw[evSb1L]
     simp only[unNoTm,unScl,Option.bind_some,List.length_map,unSegs,cond_true,cond_false,Bool.and_true,cast_lt hlt,decide_eq_true hlt,getD_at hy,hN,w1,w2,w3,n1,n2,n3,n4,p1,decide_eq_true p2,decide_eq_true p3,hi,z1,z2,b3,Bool.and_self,Bool.not_false,List.length_append,List.length_singleton,b1,b2,appInts']
     try rfl
    ·simp only[outSb1,hd,F.bdL,F.bdG_more _ s hdn,List.any_cons,hb,Bool.false_or,List.append_assoc,List.singleton_append]
  ·left
   refine⟨(.ret,⟨[(7,vI 1),(6, .own 6)],[(6,⟨false,9,1,[]⟩)]⟩),?_,?_,by simp,rfl⟩
   ·rw[hb]at hW
    unfold F.sgW at hW
    rw[evSb1L]
    simp only[unNoTm,unScl,Option.bind_some,List.length_map,unSegs,cond_true,Bool.and_true,cast_lt hlt,decide_eq_true hlt,getD_at hy]
    cases c1:F.noTm s.begin
    ·rw[c1,Bool.false_or]at hW
     cases c2:F.noTm s.lead
     ·rw[c2,Bool.false_or]at hW
      cases c3:F.noTm s.length
      ·rw[c3,Bool.false_or]at hW
       simp only[hW,cond_true,Bool.not_false]
       try rfl
      ·rfl
     ·rfl
    ·rfl
   ·simp only[outSb1,hd,List.any_cons,hb,Bool.true_or,Bool.not_true]
    rfl
 ·have:k=g.length:=by omega
  subst this
  left
  refine⟨(.exit 1,⟨[(9, .own 9),(0, .sl (l.map eCap))],[(9,⟨false,3,1,acc.map eI⟩)]⟩),?_,?_,by simp,rfl⟩
  ·rw[evSb1L]
   simp only[unNoTm,unScl,Option.bind_some,List.length_map,unSegs,cond_false,Bool.and_true,cast_ge]
   try rfl
  ·simp only[outSb1,List.drop_length,F.bdL,F.bdG,List.any_nil,List.append_nil]
   rfl

theorem evSb2L (ps:List (List Cap)) (acc:List ByteArray) (k:Nat):((exec enSb (loopN Tryz.f13 1) (stSb2 ps acc k)).bind (lessX ([102,101,100,14],[14]) ([14],[14]) ([7,6],[6]))).val =
 bif decide ((↑k:Int)<(↑(List.length ps):Int)) then Option.bind (unenc (List.map eL_eCap) (List.map eL_eCap ps)) fun z=>bif decide (k <
 List.length z) then Option.bind (unenc encLgp [AV.sl (List.map eCap (List.getD z k []))]) fun z=>bif F.smC z then bif F.longF z != 0 then some
 (Ex.ret,St.mk [(7,(vI (F.longF z))),(6, .own 6)] [(6,Blk.mk false 9 1 [])]) else bif Nat.ble ((List.length (List.map eStr acc)+1)*16)
 (140737488355328:Nat)&&true then some (Ex.normal,St.mk [(102,(vI (IntKind.i64.wrap ((↑k:Int)+1)))),(101,(vI (↑(List.length ps):Int))),(100,
 AV.sl (List.map eL_eCap ps)),(14, .own 14)] [(14,Blk.mk false 9 1 (List.map eStr acc++[[(vS (F.longS z))]]))]) else none else none else none else some (Ex.exit (3 :
 Nat),St.mk [(14, .own 14)] [(14,Blk.mk false 9 1 (List.map eStr acc))]):=(execR_bind _ _ _).symm.trans (by kernel_rfl)

theorem lpSb2_ok (ps:List (List Cap)) (acc:List ByteArray) (k:Nat) (hp:prlSb2 ps acc k=true) : ∀ex s',(outSb2 ps acc k).val=some (ex,s')→LoopOK enSb (loopN Tryz.f13 1) (stSb2 ps acc k) ex s':=by
 simp only[prlSb2,Bool.and_eq_true,decide_eq_true_eq]at hp
 obtain⟨⟨⟨h1,h2⟩,h3⟩,h4⟩:=hp
 refine loop_gen (st:=fun a:List ByteArray×Nat=>stSb2 ps a.1 a.2) (out:=fun a=>outSb2 ps a.1 a.2) (I:=fun a=>a.2≤ps.length∧a.1.length≤a.2) (n:=([102,101,100,14],[14])) (e:=([14],[14])) (r:=([7,6],[6])) (fun a=>ps.length - a.2) ?_ (acc,k) ⟨h3,h4⟩
 clear h3 h4 acc k
 rintro⟨acc,k⟩ ⟨h3,h4⟩
 simp only at h3 h4
 by_cases hlt:k<ps.length
 ·have hy:ps[k]? = some ps[k]:=List.getElem?_eq_getElem hlt
  have hd:ps.drop k=ps[k]::ps.drop (k+1):=List.drop_eq_getElem_cons hlt
  generalize ps[k]=p at hy hd
  have hN:=next_at hlt (by omega:ps.length≤9223372036854775807)
  have hsm:F.smC p=true:=List.all_eq_true.1 h1 p (List.mem_of_getElem? hy)
  have b1:Nat.ble ((acc.length+1)*16) 140737488355328=true:=ble_t (by omega)
  by_cases h0:F.longF p=0
  ·right
   have hb:(F.longF p != 0)=false:=by simp[h0]
   refine⟨(acc++[F.longS p],k+1),?_,rfl,⟨hlt,by simp only[List.length_append,List.length_singleton];omega⟩,by simp only;omega,?_⟩
   ·rw[evSb2L]
    simp only[unLgp,Option.bind_some,List.length_map,uneL_eCaps,cond_true,cond_false,Bool.and_true,cast_lt hlt,decide_eq_true hlt,getD_at hy,hN,hsm,hb,b1,appStrs']
    try rfl
   ·simp only[outSb2,hd,M.ffI,h0,if_true,List.map_cons,List.append_assoc,List.singleton_append]
  ·left
   have hb:(F.longF p != 0)=true:=by simp[h0]
   refine⟨(.ret,⟨[(7,vI (F.longF p)),(6, .own 6)],[(6,⟨false,9,1,[]⟩)]⟩),?_,?_,by simp,rfl⟩
   ·rw[evSb2L]
    simp only[unLgp,Option.bind_some,List.length_map,uneL_eCaps,cond_true,Bool.and_true,cast_lt hlt,decide_eq_true hlt,getD_at hy,hN,hsm,hb]
    try rfl
   ·simp only[outSb2,hd,M.ffI,h0,if_false,decide_false]
    rfl
 ·have:k=ps.length:=by omega
  subst this
  left
  refine⟨(.exit 3,⟨[(14, .own 14)],[(14,⟨false,9,1,acc.map eStr⟩)]⟩),?_,?_,by simp,rfl⟩
  ·rw[evSb2L]
   simp only[unLgp,Option.bind_some,List.length_map,uneL_eCaps,cond_false,Bool.and_true,cast_ge]
   try rfl
  ·simp only[outSb2,List.drop_length,M.ffI,List.map_nil,List.append_nil,decide_true]
   rfl

theorem evSb (l:List Cap) (g:List Seg) (sc:Int):(runF enSb false Tryz.f13 [.sl (l.map eCap), .sl (g.map eSeg),vI sc]).val =
 Option.bind (unenc encChC [AV.sl (List.map eCap l)]) fun z=>bif F.smC z then bif F.chkC z != 0 then some (AV.tup [AV.sl [],(vI (F.chkC z))],[])
 else bif (↑(List.length (List.map eSeg g)):Int)==0 then some (AV.tup [AV.sl [],(vI 9)],[]) else Option.bind (unenc encNoS [(vI sc)]) fun z=>
 bif F.noScale z then some (AV.tup [AV.sl [],(vI 1)],[]) else Option.bind (unenc stSb11 (St.mk [(33,(vI 0)),(32,(vI (↑(List.length (List.map eSeg g)) :
 Int))),(31,AV.sl (List.map eSeg g)),(9, .own 9),(2,(vI sc)),(1,AV.sl (List.map eSeg g)),(0,AV.sl (List.map eCap l))] [(9,Blk.mk false 3 1 [])])) fun z=>(fun(q:Nat)=>bif decide (List.length z.2.1≤1048576)&&decide (q≤List.length z.2.1)&&decide
 (List.length z.2.2.2.1≤q∨q=List.length z.2.1) && !F.noScale z.2.2.1&&true then bif !List.any (List.drop q z.2.1) F.sgB then Option.bind
 (unenc encSp [AV.sl (List.map eCap z.1),AV.sl (List.map eI (z.2.2.2.1++F.bdL z.2.2.1 (List.drop q z.2.1)))]) fun z=>bif
 F.smC z.1 then bif (F.cutL z.1 z.2).snd != 0 then some (AV.tup [AV.sl [],(vI (F.cutL z.1 z.2).snd)],[]) else Option.bind (unenc stSb21 (St.mk [(102,
 (vI 0)),(101,(vI (↑(List.length (List.map eL_eCap (F.cutL z.1 z.2).fst)):Int))),(100,AV.sl (List.map eL_eCap (F.cutL z.1 z.2).fst)),(14, .own 14)]
 [(14,Blk.mk false 9 1 [])])) fun z=>(fun(q:Int)=>bif F.smLL z.1&&decide (List.length z.1≤1000)&&decide
 (z.2.2≤List.length z.1)&&decide (List.length z.2.1≤z.2.2)&&true then bif decide (q=(0:Int)) then some (AV.tup [AV.sl (List.map eStr (z.2.1 ++
 List.map F.longS (List.drop z.2.2 z.1))),(vI 0)],[]) else some (AV.tup [AV.sl [],(vI q)],[]) else none) (ffI F.longF (List.drop z.2.2 z.1)) else
 none else some (AV.tup [AV.sl [],(vI 1)],[]) else none) z.2.2.2.2 else none:=(runFR_val).symm.trans (by kernel_rfl)

def encSb1 (l:List Cap) (g:List Seg) (sc:Int):List AV:=[.sl (l.map eCap), .sl (g.map eSeg),vI sc]

def encSb (a:(List Cap)×(List Seg)×Int):List AV:=encSb1 a.1 a.2.1 a.2.2

theorem encSb_inj (a a':(List Cap)×(List Seg)×Int) (h:encSb a=encSb a'):a=a':=by
 simp only[encSb,encSb1]at h
 try simp[eCaps_inj,eSegs_inj]at h
 grind

theorem unSb (l:List Cap) (g:List Seg) (sc:Int):unenc encSb ([AV.sl (List.map eCap l),AV.sl (List.map eSeg g),(vI sc)])=some (l,g,sc):=unenc_of encSb_inj (l,g,sc) rfl

def resSb1 (l:List Cap) (g:List Seg) (sc:Int):AV×Heap:=(.tup [.sl ((F.subs l g sc).1.map eStr),vI (F.subs l g sc).2],[])

def preSb1 (l:List Cap) (g:List Seg) (sc:Int):Bool:=F.smC l&&decide (g.length≤1048576)

noncomputable def oSb:Orc:=orc 13 false encSb (fun a=>preSb1 a.1 a.2.1 a.2.2) fun a=>resSb1 a.1 a.2.1 a.2.2

theorem okSb:OrcOK Tryz.prog noG oSb:=by
 refine mk_ok Tryz.f13 (keep:=false) (by kernel_rfl) (by kernel_rfl) enSb_ok mixed (two_loops (x0:=loopN Tryz.f13 0) (x1:=loopN Tryz.f13 1) (by kernel_rfl) (lpo_ok ?_) (lpo_ok ?_)) (by first | exact fun _ _=>⟨rfl,rfl⟩ | (intro h;cases h)) ?_
 ·rintro⟨l,g,sc,acc,k⟩ hp
  exact lpSb1_ok l g sc acc k hp
 ·rintro⟨ps,acc,k⟩ hp
  exact lpSb2_ok ps acc k hp
 rintro⟨l,g,sc⟩ hpre hok
 show(runF enSb false _ (encSb1 _ _ _)).val=some (resSb1 _ _ _)
 unfold encSb1 resSb1
 rw[evSb]
 simp only[preSb1,Bool.and_eq_true,decide_eq_true_eq]at hpre
 obtain⟨hsm,hlen⟩:=hpre
 simp only
 simp only[unChC,unNoS,unSp,unstSb10,unstSb20,Option.bind_some,List.length_map,cond_true,Bool.and_true,hsm,List.drop_zero,List.nil_append]
 unfold F.subs F.txs
 by_cases hc:F.chkC l=0
 case neg=>
  rw[bne1 hc]
  rfl
 rw[bne0 hc]
 simp only[cond_false]
 have hg0:(((g.length:Nat):Int)==0)=decide (g.length=0):=by
  by_cases h:g.length=0
  ·rw[h];rfl
  ·rw[decide_eq_false h,beq_eq_false_iff_ne];omega
 rw[hg0]
 cases hg:decide (g.length=0)
 case true=>rfl
 simp only[cond_false]
 cases hs:F.noScale sc
 case true=>rfl
 simp only[cond_false,Bool.not_false,decide_eq_true hlen,decide_eq_true (Nat.zero_le g.length),List.length_nil,Nat.le_refl,true_or,decide_true,Bool.and_self,cond_true]
 cases ha:g.any F.sgB
 case true=>rfl
 simp only[Bool.not_false,cond_true,cond_false]
 by_cases hk:(F.cutL l (F.bdL sc g)).2=0
 case neg=>
  rw[bne1 hk]
  rfl
 rw[bne0 hk]
 have e:(F.cutL l (F.bdL sc g)).1=F.splitB l (F.bdL sc g):=by
  unfold F.cutL at hk ⊢
  rw[bne0 hc]at hk ⊢
  by_cases hb:F.bnds (F.bdL sc g)=0
  ·rw[bne0 hb];rfl
  ·rw[bne1 hb]at hk;exact absurd hk hb
 have hsl:F.smLL (F.cutL l (F.bdL sc g)).1=true:=by rw[e];exact Jn.split_sm hsm _
 have hln:(F.cutL l (F.bdL sc g)).1.length≤1000:=by
  have hb:F.bnds (F.bdL sc g)=0:=by
   unfold F.cutL at hk
   rw[bne0 hc]at hk
   by_cases hb:F.bnds (F.bdL sc g)=0
   ·exact hb
   ·rw[bne1 hb]at hk;exact absurd hk hb
  obtain⟨b1,b2⟩:=F.bnds_ok hb
  rw[e]
  have:=Jn.split_len (l:=l) (bs:=F.bdL sc g) (by intro e;rw[e]at b1;simp at b1)
  omega
 simp only[cond_false,hsl,decide_eq_true hln,decide_eq_true (Nat.zero_le (F.cutL l (F.bdL sc g)).1.length),Bool.and_self,cond_true]
 by_cases h0:M.ffI F.longF (F.cutL l (F.bdL sc g)).1=0
 ·rw[h0]
  rfl
 ·rw[decide_eq_false h0,bne1 h0]
  rfl

end M

def F.vl:List Int→Int
 | []=>0
 | x::l=>x+10000*F.vl l

def F.lb (n:Nat):List Int:=if h:n=0 then [] else ((n % 10000:Nat):Int)::F.lb (n / 10000)
termination_by n
decreasing_by omega

def F.okLm (l:List Int):Prop:=∀x∈l,0≤x∧x≤9999

theorem F.lb_zero:F.lb 0=[]:=by rw[F.lb];rfl

theorem F.lb_pos {n:Nat} (h:n≠0):F.lb n=((n % 10000:Nat):Int)::F.lb (n / 10000):=by rw[F.lb,dif_neg h]

theorem F.vl_lb (n:Nat):F.vl (F.lb n)=n:=by
 induction n using Nat.strongRecOn with
 | ind n ih=>
  by_cases h:n=0
  ·subst h;rw[F.lb_zero];rfl
  ·rw[F.lb_pos h,F.vl,ih (n / 10000) (by omega)]
   omega

theorem F.lb_ok (n:Nat):F.okLm (F.lb n):=by
 induction n using Nat.strongRecOn with
 | ind n ih=>
  by_cases h:n=0
  ·subst h;rw[F.lb_zero];intro x hx;cases hx
  ·rw[F.lb_pos h]
   intro x hx
   rcases List.mem_cons.1 hx with rfl | hx
   ·omega
   ·exact ih (n / 10000) (by omega) x hx

theorem F.vl_nn : ∀ {l:List Int},F.okLm l→0≤F.vl l
 | [],_=>Int.le_refl _
 | x::l,h=>by
  have h1:=h x (List.mem_cons_self ..)
  have h2:=F.vl_nn (l:=l) fun y hy=>h y (List.mem_cons_of_mem _ hy)
  rw[F.vl];omega

def F.trimL:List Int→List Int
 | []=>[]
 | x::l=>match F.trimL l with
  | []=>if x=0 then [] else [x]
  | y::r=>x::y::r

theorem F.trimL_eq : ∀ {l:List Int},F.okLm l→F.trimL l=F.lb (F.vl l).toNat
 | [],_=>by rw[F.vl];exact F.lb_zero.symm
 | x::l,h=>by
  have h1:=h x (List.mem_cons_self ..)
  have h2:F.okLm l:=fun y hy=>h y (List.mem_cons_of_mem _ hy)
  have h3:=F.vl_nn h2
  have ih:=F.trimL_eq h2
  rw[F.trimL,ih,F.vl]
  by_cases hz:(F.vl l).toNat=0
  ·rw[hz,F.lb_zero]
   by_cases hx:x=0
   ·rw[if_pos hx,show(x+10000*F.vl l).toNat=0 by omega,F.lb_zero]
   ·rw[if_neg hx,F.lb_pos (by omega),show(x+10000*F.vl l).toNat / 10000=0 by omega,F.lb_zero]
    simp only[List.cons.injEq,and_true]
    omega
  ·rw[F.lb_pos (n:=(x+10000*F.vl l).toNat) (by omega),show(x+10000*F.vl l).toNat / 10000=(F.vl l).toNat by omega]
   rw[F.lb_pos hz]
   simp only[List.cons.injEq,and_true]
   omega

theorem F.lb_len {k : Nat} : ∀ {n : Nat}, n < 10000 ^ k → (F.lb n).length ≤ k := by
  induction k with
  | zero => intro n h; have : n = 0 := by simpa using h
            subst this; rw [F.lb_zero]; exact Nat.le_refl _
  | succ k ih =>
    intro n h
    by_cases hz : n = 0
    · subst hz; rw [F.lb_zero]; exact Nat.zero_le _
    · rw [F.lb_pos hz, List.length_cons]
      have := ih (n := n / 10000) (by rw [Nat.pow_succ] at h; omega)
      omega

theorem F.lb_ge {k : Nat} : ∀ {n : Nat}, 10000 ^ k ≤ n → k < (F.lb n).length := by
  induction k with
  | zero => intro n h; rw [F.lb_pos (by have : 1 ≤ n := by simpa using h
                                        omega), List.length_cons]; omega
  | succ k ih =>
    intro n h
    have hp : 1 ≤ 10000 ^ k := Nat.one_le_pow _ _ (by decide)
    rw [Nat.pow_succ] at h
    rw [F.lb_pos (by omega), List.length_cons]
    have := ih (n := n / 10000) (by omega)
    omega

def F.addL:Int→List Int→List Int→List Int
 | c,[],[]=>if 0<c then [c] else []
 | c,x::a,[]=>(c+x) % 10000::F.addL ((c+x) / 10000) a []
 | c,[],y::b=>(c+y) % 10000::F.addL ((c+y) / 10000) [] b
 | c,x::a,y::b=>(c+x+y) % 10000::F.addL ((c+x+y) / 10000) a b
termination_by _ a b=>a.length+b.length

theorem F.addL_eq : ∀(k m n c:Nat),m+n≤k→c≤1→F.addL c (F.lb m) (F.lb n)=F.lb (c+m+n):=by
 intro k
 induction k with
 | zero=>
  intro m n c hk hc
  have hm:m=0:=by omega
  have hn:n=0:=by omega
  subst hm;subst hn
  rw[F.lb_zero,F.addL]
  by_cases h:c=0
  ·subst h;simp[F.lb_zero]
  ·have:c=1:=by omega
   subst this
   rw[F.lb_pos (by omega),F.lb_zero];simp
 | succ k ih=>
  intro m n c hk hc
  by_cases hm:m=0
  ·subst hm
   by_cases hn:n=0
   ·subst hn
    exact ih 0 0 c (by omega) hc
   ·rw[F.lb_zero,F.lb_pos hn,F.addL]
    have h2:=ih 0 (n / 10000) ((c+n % 10000) / 10000) (by omega) (by omega)
    rw[F.lb_zero]at h2
    rw[F.lb_pos (n:=c+0+n) (by omega),show(c+0+n) / 10000=(c+n % 10000) / 10000+0+n / 10000 by omega,←h2]
    congr 1
    omega
  ·by_cases hn:n=0
   ·subst hn
    rw[F.lb_zero,F.lb_pos hm,F.addL]
    have h2:=ih (m / 10000) 0 ((c+m % 10000) / 10000) (by omega) (by omega)
    rw[F.lb_zero]at h2
    rw[F.lb_pos (n:=c+m+0) (by omega),show(c+m+0) / 10000=(c+m % 10000) / 10000+m / 10000+0 by omega,←h2]
    congr 1
    omega
   ·rw[F.lb_pos hm,F.lb_pos hn,F.addL]
    have h2:=ih (m / 10000) (n / 10000) ((c+m % 10000+n % 10000) / 10000) (by omega) (by omega)
    rw[F.lb_pos (n:=c+m+n) (by omega),show(c+m+n) / 10000=(c+m % 10000+n % 10000) / 10000+m / 10000+n / 10000 by omega,←h2]
    congr 1
    omega

def F.subL:Int→List Int→List Int→List Int
 | _,[],_=>[]
 | c,x::a,[]=>if x - c<0 then (x - c+10000)::F.subL 1 a [] else (x - c)::F.subL 0 a []
 | c,x::a,y::b=>if x - c - y<0 then (x - c - y+10000)::F.subL 1 a b else (x - c - y)::F.subL 0 a b

theorem F.okLm_cons {x:Int} {l:List Int} (h1:0≤x∧x≤9999) (h2:F.okLm l):F.okLm (x::l):=fun y hy=>by
 rcases List.mem_cons.1 hy with rfl | hy
 ·exact h1
 ·exact h2 y hy

theorem F.okLm_nil:F.okLm []:=fun y hy=>by cases hy

theorem F.subL_eq : ∀(a b:List Int) (c:Int),F.okLm a→F.okLm b→b.length≤a.length→(c=0∨c=1) →
  F.okLm (F.subL c a b)∧(F.vl (F.subL c a b)=F.vl a - F.vl b - c∨F.vl a - F.vl b - c<0)
 | [],[],c,_,_,_,hc=>⟨by rw[F.subL];exact F.okLm_nil,by
   simp only[F.subL,F.vl];omega⟩
 | [],y::b,c,_,_,h,_=>by simp at h
 | x::a,[],c,ha,hb,_,hc=>by
  have h1:=ha x (List.mem_cons_self ..)
  have h2:F.okLm a:=fun y hy=>ha y (List.mem_cons_of_mem _ hy)
  rw[F.subL]
  by_cases hx:x - c<0
  ·rw[if_pos hx]
   obtain⟨q1,q2⟩:=F.subL_eq a [] 1 h2 hb (by simp) (.inr rfl)
   refine⟨F.okLm_cons (by omega) q1,?_⟩
   simp only[F.vl]at q2 ⊢
   omega
  ·rw[if_neg hx]
   obtain⟨q1,q2⟩:=F.subL_eq a [] 0 h2 hb (by simp) (.inl rfl)
   refine⟨F.okLm_cons (by omega) q1,?_⟩
   simp only[F.vl]at q2 ⊢
   omega
 | x::a,y::b,c,ha,hb,h,hc=>by
  have h1:=ha x (List.mem_cons_self ..)
  have h2:F.okLm a:=fun y hy=>ha y (List.mem_cons_of_mem _ hy)
  have h3:=hb y (List.mem_cons_self ..)
  have h4:F.okLm b:=fun z hz=>hb z (List.mem_cons_of_mem _ hz)
  rw[F.subL]
  by_cases hx:x - c - y<0
  ·rw[if_pos hx]
   obtain⟨q1,q2⟩:=F.subL_eq a b 1 h2 h4 (by simpa using h) (.inr rfl)
   refine⟨F.okLm_cons (by omega) q1,?_⟩
   simp only[F.vl]at q2 ⊢
   omega
  ·rw[if_neg hx]
   obtain⟨q1,q2⟩:=F.subL_eq a b 0 h2 h4 (by simpa using h) (.inl rfl)
   refine⟨F.okLm_cons (by omega) q1,?_⟩
   simp only[F.vl]at q2 ⊢
   omega

theorem F.lb_mono {m n:Nat} (h:m≤n):(F.lb m).length≤(F.lb n).length:=by
 rcases Nat.eq_zero_or_pos (F.lb m).length with h0 | h0
 ·omega
 ·obtain⟨k,hk⟩ : ∃k,(F.lb m).length=k+1:=⟨(F.lb m).length - 1,by omega⟩
  rcases Nat.lt_or_ge m (10000 ^ k)with h1 | h1
  ·have:=F.lb_len h1;omega
  ·have:=F.lb_ge (Nat.le_trans h1 h);omega

theorem F.sub_lb {m n:Nat} (h:n≤m):F.trimL (F.subL 0 (F.lb m) (F.lb n))=F.lb (m - n):=by
 obtain⟨q1,q2⟩:=F.subL_eq (F.lb m) (F.lb n) 0 (F.lb_ok m) (F.lb_ok n) (F.lb_mono h) (.inl rfl)
 rw[F.vl_lb,F.vl_lb]at q2
 rw[F.trimL_eq q1]
 congr 1
 omega

def F.cmpA:List Int→List Int→Int
 | x::a,y::b=>if F.cmpA a b≠0 then F.cmpA a b else if x<y then -1 else if y<x then 1 else 0
 | _,_=>0

def F.cmpL (a b:List Int):Int:=if a.length<b.length then -1 else if b.length<a.length then 1 else F.cmpA a b

def F.sgnL (a b:Int):Int:=if a<b then -1 else if b<a then 1 else 0

theorem F.sgnL_step {x y p q:Int} (h1:0≤x∧x≤9999) (h3:0≤y∧y≤9999) :
  (if F.sgnL p q≠0 then F.sgnL p q else if x<y then -1 else if y<x then 1 else 0)=F.sgnL (x+10000*p) (y+10000*q):=by
 unfold F.sgnL
 by_cases c1:p<q
 ·rw[if_pos c1,if_pos (by decide),if_pos (show x+10000*p<y+10000*q by omega)]
 ·by_cases c2:q<p
  ·rw[if_neg c1,if_pos c2,if_pos (by decide),if_neg (show ¬x+10000*p<y+10000*q by omega),if_pos (show y+10000*q<x+10000*p by omega)]
  ·have:p=q:=by omega
   subst this
   rw[if_neg c1,if_neg c1,if_neg (by decide)]
   by_cases d1:x<y
   ·rw[if_pos d1,if_pos (by omega)]
   ·by_cases d2:y<x
    ·rw[if_neg d1,if_pos d2,if_neg (by omega),if_pos (by omega)]
    ·rw[if_neg d1,if_neg d2,if_neg (by omega),if_neg (by omega)]

theorem F.cmpA_eq : ∀ {a b:List Int},F.okLm a→F.okLm b→a.length=b.length→F.cmpA a b=F.sgnL (F.vl a) (F.vl b)
 | [],[],_,_,_=>rfl
 | x::a,y::b,ha,hb,h=>by
  have h1:=ha x (List.mem_cons_self ..)
  have h3:=hb y (List.mem_cons_self ..)
  have ih:=F.cmpA_eq (a:=a) (b:=b) (fun z hz=>ha z (List.mem_cons_of_mem _ hz)) (fun z hz=>hb z (List.mem_cons_of_mem _ hz)) (by simpa using h)
  rw[F.cmpA,ih]
  exact F.sgnL_step h1 h3
 | [],y::b,_,_,h=>by simp at h
 | x::a,[],_,_,h=>by simp at h

theorem F.cmp_lb (m n:Nat):F.cmpL (F.lb m) (F.lb n)=F.sgnL m n:=by
 unfold F.cmpL
 by_cases h1:(F.lb m).length<(F.lb n).length
 ·have:m<n:=Nat.lt_of_not_le fun h=>by have:=F.lb_mono h;omega
  rw[if_pos h1,F.sgnL,if_pos (by omega)]
 ·by_cases h2:(F.lb n).length<(F.lb m).length
  ·have:n<m:=Nat.lt_of_not_le fun h=>by have:=F.lb_mono h;omega
   rw[if_neg h1,if_pos h2,F.sgnL,if_neg (by omega),if_pos (by omega)]
  ·rw[if_neg h1,if_neg h2,F.cmpA_eq (F.lb_ok m) (F.lb_ok n) (by omega),F.vl_lb,F.vl_lb]

def F.mrow (x:Int):Int→List Int→List Int→List Int
 | c,o::os,y::b=>(o+x*y+c) % 10000::F.mrow x ((o+x*y+c) / 10000) os b
 | c,o::os,[]=>(o+c)::os
 | _,[],_=>[]

theorem F.mul_bd {x y:Int} (hx:0≤x∧x≤9999) (hy:0≤y∧y≤9999):0≤x*y∧x*y≤99980001:=by
 refine⟨Int.mul_nonneg hx.1 hy.1,?_⟩
 have h1:x*y≤9999*y:=Int.mul_le_mul_of_nonneg_right hx.2 hy.1
 omega

theorem F.mrow_eq {x:Int} (hx:0≤x∧x≤9999) : ∀(b os:List Int) (c:Int),F.okLm b→F.okLm os→b.length<os.length→(0≤c∧c≤9999) →
  F.vl (F.mrow x c os b)=F.vl os+x*F.vl b+c∧(F.mrow x c os b).length=os.length
 | [],o::os,c,_,_,_,_=>by
  rw[F.mrow]
  refine⟨?_,rfl⟩
  simp only[F.vl,Int.mul_zero]
  omega
 | y::b,o::os,c,hb,ho2,h,hc=>by
  have h3:=hb y (List.mem_cons_self ..)
  rw[F.mrow]
  have hm:=F.mul_bd hx h3
  have ho:=ho2 o (List.mem_cons_self ..)
  obtain⟨q1,q2⟩:=F.mrow_eq hx b os ((o+x*y+c) / 10000) (fun z hz=>hb z (List.mem_cons_of_mem _ hz)) (fun z hz=>ho2 z (List.mem_cons_of_mem _ hz)) (by simpa using h) (by omega)
  refine⟨?_,by rw[List.length_cons,q2,List.length_cons]⟩
  simp only[F.vl,q1,Int.mul_add]
  rw[show x*(10000*F.vl b)=10000*(x*F.vl b) by rw[←Int.mul_assoc,Int.mul_comm x 10000,Int.mul_assoc]]
  omega
 | [],[],c,_,_,h,_=>by simp at h
 | y::b,[],c,_,_,h,_=>by simp at h

def F.zeroFrom (k:Nat) (l:List Int):Prop:=∀z∈l.drop k,z=0

theorem F.mrow_ok {x:Int} (hx:0≤x∧x≤9999) : ∀(b os:List Int) (c:Int),F.okLm b→F.okLm os→F.zeroFrom b.length os→(0≤c∧c≤9999) →
  F.okLm (F.mrow x c os b)∧F.zeroFrom (b.length+1) (F.mrow x c os b)
 | [],o::os,c,_,ho,hz,hc=>by
  have h0:o=0:=hz o (by simp)
  rw[F.mrow]
  refine⟨F.okLm_cons (by omega) fun z h=>ho z (List.mem_cons_of_mem _ h),fun z h=>hz z ?_⟩
  exact List.mem_cons_of_mem _ (by simpa using h)
 | y::b,o::os,c,hb,ho2,hz,hc=>by
  have h3:=hb y (List.mem_cons_self ..)
  have hm:=F.mul_bd hx h3
  have ho:=ho2 o (List.mem_cons_self ..)
  rw[F.mrow]
  obtain⟨q1,q2⟩:=F.mrow_ok hx b os ((o+x*y+c) / 10000) (fun z hz=>hb z (List.mem_cons_of_mem _ hz)) (fun z hz=>ho2 z (List.mem_cons_of_mem _ hz)) (fun z h=>hz z (by simpa using h)) (by omega)
  exact⟨F.okLm_cons (by omega) q1,fun z h=>q2 z (by simpa using h)⟩
 | [],[],c,_,_,_,_=>by
  rw[F.mrow]
  exact⟨F.okLm_nil,fun z h=>by simp at h⟩
 | y::b,[],c,_,_,_,_=>by
  rw[F.mrow]
  exact⟨F.okLm_nil,fun z h=>by simp at h⟩

def F.mulR (b:List Int):List Int→List Int→List Int
 | [],out=>out
 | x::a,out=>match F.mrow x 0 out b with
  | []=>[]
  | o::os=>o::F.mulR b a os

theorem F.mulR_eq {b:List Int} (hb:F.okLm b) : ∀(a out:List Int),F.okLm a→F.okLm out→F.zeroFrom b.length out→a.length+b.length≤out.length →
  F.okLm (F.mulR b a out)∧F.vl (F.mulR b a out)=F.vl out+F.vl a*F.vl b∧(F.mulR b a out).length=out.length
 | [],out,_,ho,_,_=>by
  rw[F.mulR]
  exact⟨ho,by rw[F.vl,Int.zero_mul];omega,rfl⟩
 | x::a,out,ha,ho,hz,hl=>by
  have h1:=ha x (List.mem_cons_self ..)
  rw[List.length_cons]at hl
  obtain⟨q1,q2⟩:=F.mrow_eq h1 b out 0 hb ho (by omega) (by omega)
  obtain⟨q3,q4⟩:=F.mrow_ok h1 b out 0 hb ho hz (by omega)
  rw[F.mulR]
  cases hr:F.mrow x 0 out b with
  | nil=>rw[hr]at q2;simp at q2;omega
  | cons o os=>
   rw[hr]at q1 q2 q3 q4
   rw[List.length_cons]at q2
   obtain⟨r1,r2,r3⟩:=F.mulR_eq hb a os (fun z h=>ha z (List.mem_cons_of_mem _ h)) (fun z h=>q3 z (List.mem_cons_of_mem _ h)) (fun z h=>q4 z (by simpa using h)) (by omega)
   refine⟨F.okLm_cons (q3 o (List.mem_cons_self ..)) r1,?_,by simp only[List.length_cons,r3];omega⟩
   simp only[F.vl,r2]at q1 ⊢
   rw[Int.add_mul,Int.mul_assoc]
   omega

theorem F.mul_lb (m n:Nat):F.trimL (F.mulR (F.lb n) (F.lb m) (List.replicate ((F.lb m).length+(F.lb n).length) 0))=F.lb (m*n):=by
 have hz : ∀k:Nat,F.vl (List.replicate k 0)=0:=fun k=>by
  induction k with
  | zero=>rfl
  | succ k ih=>rw[List.replicate_succ,F.vl,ih];rfl
 obtain⟨q1,q2,q3⟩:=F.mulR_eq (F.lb_ok n) (F.lb m) (List.replicate ((F.lb m).length+(F.lb n).length) 0) (F.lb_ok m)
  (fun x hx=>by have:=(List.mem_replicate.1 hx).2;omega) (fun x hx=>(List.mem_replicate.1 (List.mem_of_mem_drop hx)).2) (by simp)
 rw[F.trimL_eq q1,q2,hz,F.vl_lb,F.vl_lb]
 congr 1
 have:(0:Int)+(m:Int)*(n:Int)=((m*n:Nat):Int):=by rw[Int.natCast_mul];omega
 rw[this]
 rfl

def F.nv (l:List Int):Nat:=(F.vl l).toNat

theorem F.nv_lb (n:Nat):F.nv (F.lb n)=n:=by unfold F.nv;rw[F.vl_lb];rfl

def F.nk (k:Nat) (l:List Int):Bool:=decide (F.lb (F.nv l)=l)&&decide (l.length≤k)

theorem F.nk_of {k:Nat} {l:List Int} (h:F.nk k l=true) : ∃n,l=F.lb n∧n<10000 ^ k:=by
 unfold F.nk at h
 simp only[Bool.and_eq_true,decide_eq_true_eq]at h
 refine⟨F.nv l,h.1.symm,?_⟩
 rcases Nat.lt_or_ge (F.nv l) (10000 ^ k)with h1 | h1
 ·exact h1
 ·have:=F.lb_ge h1
  rw[h.1]at this
  omega

theorem F.nk_lb {k n:Nat} (h:n<10000 ^ k):F.nk k (F.lb n)=true:=by
 unfold F.nk
 rw[F.nv_lb,decide_eq_true rfl,decide_eq_true (F.lb_len h)]
 rfl

theorem F.nk_len {k:Nat} {l:List Int} (h:F.nk k l=true):l.length≤k:=by
 unfold F.nk at h
 simp only[Bool.and_eq_true,decide_eq_true_eq]at h
 exact h.2

theorem F.lb_nil {n:Nat}:F.lb n=[]↔n=0:=by
 constructor
 ·intro h
  have:=congrArg F.nv h
  rw[F.nv_lb]at this
  exact this
 ·rintro rfl;exact F.lb_zero

theorem F.lb_emp (n:Nat):(F.lb n).length=0↔n=0:=by rw[List.length_eq_zero_iff,F.lb_nil]

theorem F.lb_one:F.lb 1=[1]:=by rw[F.lb_pos (by decide),show(1:Nat) / 10000=0 by decide,F.lb_zero];rfl

theorem F.trimL_cons {x r:Nat} (hx:x≤9999):F.trimL ((x:Int)::F.lb r)=F.lb (x+10000*r):=by
 rw[F.trimL_eq (F.okLm_cons (by omega) (F.lb_ok r)),F.vl,F.vl_lb]
 congr 1

def F.dqo (b:Nat):List Int→List Int×Nat
 | []=>([],0)
 | x::l=>((((x.toNat+10000*(F.dqo b l).2) / b:Nat):Int)::(F.dqo b l).1,(x.toNat+10000*(F.dqo b l).2) % b)

theorem F.dqo_eq {b:Nat} (hb:0<b) : ∀ {l:List Int},F.okLm l →
  F.okLm (F.dqo b l).1∧F.vl (F.dqo b l).1=((F.nv l / b:Nat):Int)∧(F.dqo b l).2=F.nv l % b∧(F.dqo b l).1.length=l.length
 | [],_=>⟨F.okLm_nil,by rw[F.dqo,F.vl,show F.nv []=0 from rfl,Nat.zero_div];rfl,by rw[F.dqo,show F.nv []=0 from rfl,Nat.zero_mod],rfl⟩
 | x::l,h=>by
  have h1:=h x (List.mem_cons_self ..)
  have h2:F.okLm l:=fun y hy=>h y (List.mem_cons_of_mem _ hy)
  obtain⟨q1,q2,q3,q4⟩:=F.dqo_eq hb h2
  have h3:=F.vl_nn h2
  have hr:(F.dqo b l).2<b:=by rw[q3];exact Nat.mod_lt _ hb
  have hv:F.nv (x::l)=x.toNat+10000*F.nv l:=by unfold F.nv;rw[F.vl];omega
  have e1:=Nat.div_add_mod (F.nv l) b
  rw[←q3]at e1
  have hd:F.nv (x::l)=(x.toNat+10000*(F.dqo b l).2)+b*(10000*(F.nv l / b)):=by
   rw[hv,Nat.mul_left_comm];omega
  have hlt:(x.toNat+10000*(F.dqo b l).2) / b<10000:=by
   rw[Nat.div_lt_iff_lt_mul hb];omega
  rw[F.dqo]
  refine⟨F.okLm_cons (by generalize (x.toNat+10000*(F.dqo b l).2) / b=q at hlt ⊢;omega) q1,?_,?_,by simp[q4]⟩
  ·show F.vl (_::_)=_
   rw[F.vl,q2,hd,Nat.add_mul_div_left _ _ hb]
   omega
  ·show _ % b=_
   rw[hd,Nat.add_mul_mod_self_left]

theorem F.dqo_lb {b:Nat} (hb:0<b) (a:Nat):F.trimL (F.dqo b (F.lb a)).1=F.lb (a / b)∧(F.dqo b (F.lb a)).2=a % b:=by
 obtain⟨q1,q2,q3,q4⟩:=F.dqo_eq hb (F.lb_ok a)
 rw[F.nv_lb]at q2 q3
 refine⟨?_,q3⟩
 rw[F.trimL_eq q1,q2];rfl

theorem F.lb_lt {m k n:Nat} (h:n<10000 ^ m) (hm:m≤k):n<10000 ^ k:=Nat.lt_of_lt_of_le h (Nat.pow_le_pow_right (by decide) hm)

theorem F.mul_lt {m n j k:Nat} (h1:m<10000 ^ j) (h2:n<10000 ^ k):m*n<10000 ^ (j+k):=by
 rw[Nat.pow_add];exact Nat.mul_lt_mul'' h1 h2

theorem F.add_lt {m n k:Nat} (h1:m<10000 ^ k) (h2:n<10000 ^ k):m+n<10000 ^ (k+1):=by
 rw[Nat.pow_succ];omega

theorem F.sgnL_le (m n:Nat):decide (F.sgnL (m:Int) (n:Int)≤0)=decide (m≤n):=by
 unfold F.sgnL
 by_cases h:m≤n
 ·rw[decide_eq_true h]
  by_cases h2:m<n
  ·rw[if_pos (by omega)];rfl
  ·rw[if_neg (by omega),if_neg (by omega)];rfl
 ·rw[decide_eq_false h,if_neg (by omega),if_pos (by omega)];rfl

theorem F.sgnL_ge (m n:Nat):decide (0≤F.sgnL (m:Int) (n:Int))=decide (n≤m):=by
 unfold F.sgnL
 by_cases h:n≤m
 ·rw[decide_eq_true h,if_neg (by omega)]
  by_cases h2:n<m
  ·rw[if_pos (by omega)];rfl
  ·rw[if_neg (by omega)];rfl
 ·rw[decide_eq_false h,if_pos (by omega)];rfl

theorem F.sgnL_eq (m n:Nat):(F.sgnL (m:Int) (n:Int)==0)=decide (m=n):=by
 unfold F.sgnL
 by_cases h:m=n
 ·rw[decide_eq_true h,if_neg (by omega),if_neg (by omega)];rfl
 ·rw[decide_eq_false h]
  by_cases h2:m<n
  ·rw[if_pos (by omega)];rfl
  ·rw[if_neg (by omega),if_pos (by omega)];rfl

theorem F.div_le {b R mid:Nat} (hb:0<b):b*mid≤R↔mid≤R / b:=by
 rw[Nat.le_div_iff_mul_le hb,Nat.mul_comm]

def F.trimN (l:List Int):Nat→Nat
 | 0=>0
 | n+1=>bif l.getD n 0==0 then F.trimN l n else n+1

theorem F.trimN_le (l:List Int) : ∀n,F.trimN l n≤n
 | 0=>Nat.le_refl _
 | n+1=>by
  have:=F.trimN_le l n
  rw[F.trimN]
  cases l.getD n 0==0
  ·exact Nat.le_refl _
  ·exact Nat.le_succ_of_le this

theorem F.trimL_z : ∀l:List Int,F.trimL (l++[0])=F.trimL l
 | []=>rfl
 | x::l=>by
  have ih:=F.trimL_z l
  rw[List.cons_append,F.trimL,ih,F.trimL]

theorem F.trimL_x {x:Int} (h:x≠0) : ∀l:List Int,F.trimL (l++[x])=l++[x]
 | []=>by rw[List.nil_append,F.trimL,F.trimL];simp[h]
 | y::l=>by
  have ih:=F.trimL_x h l
  rw[List.cons_append,F.trimL,ih]
  cases l<;>rfl

theorem F.trimN_eq (l:List Int) : ∀n,n≤l.length→l.take (F.trimN l n)=F.trimL (l.take n)
 | 0,_=>by rw[F.trimN,List.take_zero];rfl
 | n+1,h=>by
  have hlt:n<l.length:=h
  have ih:=F.trimN_eq l n (by omega)
  have hg:l.getD n 0=l[n]:=by simp[List.getD,List.getElem?_eq_getElem hlt]
  rw[F.trimN,hg,List.take_succ_eq_append_getElem hlt]
  cases hc:l[n]==0
  ·have hx:l[n]≠0:=by simpa using hc
   rw[F.trimL_x hx,cond_false,List.take_succ_eq_append_getElem hlt]
  ·have hx:l[n]=0:=by simpa using hc
   rw[hx,F.trimL_z,cond_true,ih]

namespace M

theorem idx_n {j:Nat} (h:j+1≤9223372036854775807):idx (j:Int)=some j:=by
 have hw:IntKind.i64.wrap (((j+1:Nat):Int) - 1)=(j:Int):=by rw[wrap_id (by omega) (by omega)];omega
 have:=idx_sub h
 rw[hw]at this
 exact this

def stTrm (l:List Int) (n:Nat):St:=⟨[(3,vI n),(0, .sl (l.map eI))],[]⟩

def stTrm1 (a:(List Int)×Nat):St:=stTrm a.1 a.2

theorem stTrm_inj (a a':(List Int)×Nat) (h:stTrm1 a=stTrm1 a'):a=a':=by
 simp only[stTrm1,stTrm]at h
 try simp[ints_inj]at h
 grind

theorem unstTrm (l:List Int) (n:Nat):unenc stTrm1 (St.mk [(3,(vI (↑n:Int))),(0,AV.sl (List.map eI l))] [])=some (l,n):=unenc_of stTrm_inj (l,n) rfl

def outTrm (l:List Int) (n:Nat):T (Ex×St):= .ret (.exit 0,⟨[(3,vI (F.trimN l n)),(0, .sl (l.map eI))],[]⟩)

noncomputable def prlTrm (l:List Int) (n:Nat):Bool:=decide (l.length≤100000)&&decide (n≤l.length)

noncomputable def lpTrm:Nat×(St→T (Ex×St)):=(2,lpo [3,0] [] stTrm1 (fun a=>prlTrm a.1 a.2) fun a=>outTrm a.1 a.2)

noncomputable def enTrm:Env:=envH ty noG lks [] [] [] [lpTrm]

theorem enTrm_ok:EnvOK Tryz.prog enTrm:=by
 refine envH_ok lks_ok ty_ok ?_ ?_
 ·simp
 ·simp

theorem evTrmL (l:List Int) (n:Nat):((exec enTrm (loopN Tryz.f208 0) (stTrm l n)).bind (lessX ([3,0],[]) ([3,0],[]) ([],[]))).val =
 bif decide ((0:Int)<(↑n:Int)) then Option.bind (idx (IntKind.i64.wrap ((↑n:Int) - (1:Int)))) fun z=>Option.bind (unenc (List.map eI) (List.map
 eI l)) fun z_1=>bif decide (z<List.length z_1) then bif List.getD z_1 z 0==0 then some (Ex.normal,St.mk [(3,(vI (IntKind.wrap
 IntKind.i64 ((↑n:Int) - (1:Int))))),(0,AV.sl (List.map eI l))] []) else some (Ex.exit (0:Nat),St.mk [(3,(vI (↑n:Int))),(0,AV.sl (List.map eI l))] []) else
 none else some (Ex.exit (0:Nat),St.mk [(3,(vI (↑n:Int))),(0,AV.sl (List.map eI l))] []):=(execR_bind _ _ _).symm.trans (by kernel_rfl)

theorem lpTrm_ok (l:List Int) (n:Nat) (hp:prlTrm l n=true) : ∀ex s',(outTrm l n).val=some (ex,s')→LoopOK enTrm (loopN Tryz.f208 0) (stTrm l n) ex s':=by
 simp only[prlTrm,Bool.and_eq_true,decide_eq_true_eq]at hp
 refine loop_gen (st:=fun n=>stTrm l n) (out:=fun n=>outTrm l n) (I:=fun n=>n≤l.length) (n:=([3,0],[])) (e:=([3,0],[])) (r:=([],[])) (fun n=>n) ?_ n hp.2
 intro n hn
 have h1:=hp.1
 cases n with
 | zero=>
  left
  refine⟨(.exit 0,⟨[(3,vI 0),(0, .sl (l.map eI))],[]⟩),?_,rfl,by simp,rfl⟩
  rw[evTrmL]
  simp
 | succ j=>
  have hlt:j<l.length:=hn
  have hy:l[j]? = some l[j]:=List.getElem?_eq_getElem hlt
  have hg:l.getD j 0=l[j]:=by simp[hy]
  generalize l[j]=y at hy hg
  have hz:decide ((0:Int)<((j+1:Nat):Int))=true:=decide_eq_true (by omega)
  have hw:IntKind.i64.wrap (((j+1:Nat):Int) - 1)=(j:Int):=by rw[wrap_id (by omega) (by omega)];omega
  have hi:idx ((j:Nat):Int)=some j:=by
   have:=idx_sub (j:=j) (by omega)
   rw[hw]at this
   exact this
  cases hc:(y==0)
  ·left
   refine⟨(.exit 0,⟨[(3,vI (j+1:Nat)),(0, .sl (l.map eI))],[]⟩),?_,?_,by simp,rfl⟩
   ·rw[evTrmL]
    simp only[Option.bind_some,unInts,cond_true,cond_false,hz,idx_sub (by omega:j+1≤9223372036854775807),decide_eq_true hlt,getD_at hy,hc]
   ·simp only[outTrm,F.trimN,hg,hc]
    rfl
  ·right
   refine⟨j,?_,rfl,by omega,by omega,?_⟩
   ·rw[evTrmL]
    simp only[Option.bind_some,unInts,cond_true,hz,hw,hi,decide_eq_true hlt,getD_at hy,hc,stTrm]
   ·simp only[outTrm,F.trimN,hg,hc,cond_true]

theorem evTrm (l:List Int):(runF enTrm false Tryz.f208 [.sl (l.map eI)]).val =
 Option.bind (unenc stTrm1 (St.mk [(3,(vI (↑(List.length (List.map eI l)):Int))),(0,AV.sl (List.map eI l))] [])) fun z=>bif decide (List.length
 z.1≤100000)&&decide (z.2≤List.length z.1)&&true then bif Nat.ble (0:Nat) (F.trimN z.1 z.2)&&Nat.ble (F.trimN z.1 z.2) (List.length
 (List.map eI z.1))&&List.all (List.map eI z.1) fun(r:Row)=>Nat.beq (List.length r) (1:Nat) then some (AV.sl (List.take (F.trimN z.1 z.2) (List.map eI
 z.1)),[]) else none else none:=(runFR_val).symm.trans (by kernel_rfl)

def encTrm1 (l:List Int):List AV:=[.sl (l.map eI)]

def encTrm (a:(List Int)):List AV:=encTrm1 a

theorem encTrm_inj (a a':(List Int)) (h:encTrm a=encTrm a'):a=a':=by
 simp only[encTrm,encTrm1]at h
 try simp[ints_inj]at h
 grind

theorem unTrm (l:List Int):unenc encTrm ([AV.sl (List.map eI l)])=some (l):=unenc_of encTrm_inj (l) rfl

def resTrm1 (l:List Int):AV×Heap:=(.sl ((F.trimL l).map eI),[])

def preTrm1 (l:List Int):Bool:=decide (l.length≤100000)

noncomputable def oTrm:Orc:=orc 208 false encTrm (fun a=>preTrm1 a) fun a=>resTrm1 a

theorem okTrm:OrcOK Tryz.prog noG oTrm:=by
 refine mk_ok Tryz.f208 (keep:=false) (by kernel_rfl) (by kernel_rfl) enTrm_ok mixed (one_loop (x0:=loopN Tryz.f208 0) (by kernel_rfl) (lpo_ok ?_)) (by first | exact fun _ _=>⟨rfl,rfl⟩ | (intro h;cases h)) ?_
 ·rintro⟨l,n⟩ hp
  exact lpTrm_ok l n hp
 rintro l hpre hok
 show(runF enTrm false _ (encTrm1 _)).val=some (resTrm1 _)
 unfold encTrm1 resTrm1
 rw[evTrm]
 have hx:l.length≤100000:=of_decide_eq_true hpre
 have ht:=F.trimN_le l l.length
 have e:=F.trimN_eq l l.length (Nat.le_refl _)
 rw[List.take_length]at e
 simp only[unstTrm,Option.bind_some,List.length_map,cond_true,Bool.and_true,hx,Nat.le_refl,decide_true]
 have h3:((l.map eI).all fun r=>(List.length r).beq 1)=true:=List.all_eq_true.2 fun r hr=>by
  obtain⟨x,_,rfl⟩:=List.mem_map.1 hr
  rfl
 rw[ble_t (Nat.zero_le _),ble_t ht,h3,←List.map_take,e]
 rfl

end M

def F.cmpK (a b:List Int):Nat→Int
 | 0=>0
 | k+1=>bif decide (a.getD k 0<b.getD k 0) then -1 else bif decide (b.getD k 0<a.getD k 0) then 1 else F.cmpK a b k

theorem F.cmpA_app : ∀(a b:List Int) (x y:Int),a.length=b.length→F.cmpA (a++[x]) (b++[y])=if x<y then -1 else if y<x then 1 else F.cmpA a b
 | [],[],x,y,_=>by simp[F.cmpA]
 | p::a,q::b,x,y,h=>by
  have ih:=F.cmpA_app a b x y (by simpa using h)
  rw[List.cons_append,List.cons_append,F.cmpA,ih,F.cmpA]
  by_cases h1:x<y
  ·simp[h1]
  ·by_cases h2:y<x
   ·simp[h1,h2]
   ·simp[h1,h2]

theorem F.cmpK_eq {a b:List Int} (h:a.length=b.length) : ∀k,k≤a.length→F.cmpK a b k=F.cmpA (a.take k) (b.take k)
 | 0,_=>rfl
 | k+1,hk=>by
  have h1:k<a.length:=hk
  have h2:k<b.length:=by omega
  have ih:=F.cmpK_eq h k (by omega)
  rw[List.take_succ_eq_append_getElem h1,List.take_succ_eq_append_getElem h2,F.cmpA_app _ _ _ _ (by simp;omega),F.cmpK,ih]
  simp only[List.getD,List.getElem?_eq_getElem h1,List.getElem?_eq_getElem h2,Option.getD_some,Bool.cond_decide]

theorem F.cmpK_all {a b:List Int} (h:a.length=b.length):F.cmpK a b a.length=F.cmpL a b:=by
 rw[F.cmpK_eq h _ (Nat.le_refl _),List.take_length,h,List.take_length]
 unfold F.cmpL
 rw[if_neg (by omega),if_neg (by omega)]

namespace M

def stCpr (a:List Int) (b:List Int) (i:Int):St:=⟨[(5,vI i),(1, .sl (b.map eI)),(0, .sl (a.map eI))],[]⟩

def stCpr1 (a:(List Int)×(List Int)×Int):St:=stCpr a.1 a.2.1 a.2.2

theorem stCpr_inj (a a':(List Int)×(List Int)×Int) (h:stCpr1 a=stCpr1 a'):a=a':=by
 simp only[stCpr1,stCpr]at h
 try simp[ints_inj]at h
 grind

theorem unstCpr (a:List Int) (b:List Int) (i:Int):unenc stCpr1 (St.mk [(5,(vI i)),(1,AV.sl (List.map eI b)),(0,AV.sl (List.map eI a))] [])=some (a,b,i):=unenc_of stCpr_inj (a,b,i) rfl

def outCpr (a:List Int) (b:List Int) (i:Int):T (Ex×St):= .ifB (F.cmpK a b (i+1).toNat==0) (.ret (.exit 0,⟨[],[]⟩)) (.ret (.ret,⟨[(4,vI (F.cmpK a b (i+1).toNat))],[]⟩))

noncomputable def prlCpr (a:List Int) (b:List Int) (i:Int):Bool:=decide (a.length≤1000)&&decide (a.length=b.length)&&decide (-1≤i)&&decide (i<a.length)

noncomputable def lpCpr:Nat×(St→T (Ex×St)):=(6,lpo [5,1,0] [] stCpr1 (fun a=>prlCpr a.1 a.2.1 a.2.2) fun a=>outCpr a.1 a.2.1 a.2.2)

noncomputable def enCpr:Env:=envH ty noG lks [] [] [] [lpCpr]

theorem enCpr_ok:EnvOK Tryz.prog enCpr:=by
 refine envH_ok lks_ok ty_ok ?_ ?_
 ·simp
 ·simp

theorem evCprL (a:List Int) (b:List Int) (i:Int):((exec enCpr (loopN Tryz.f162 0) (stCpr a b i)).bind (lessX ([5,1,0],[]) ([],[]) ([4],[]))).val =
 bif decide ((0:Int)≤i) then Option.bind (idx i) fun z=>Option.bind (unenc (List.map eI) (List.map eI a)) fun z_1=>bif decide (z<List.length
 z_1) then Option.bind (idx i) fun z_2=>Option.bind (unenc (List.map eI) (List.map eI b)) fun z_3=>bif decide (z_2<List.length z_3) then bif
 decide (List.getD z_1 z 0<List.getD z_3 z_2 0) then some (Ex.ret,St.mk [(4,(vI (-1:Int)))] []) else Option.bind (idx i) fun z=>Option.bind
 (unenc (List.map eI) (List.map eI a)) fun z_4=>bif decide (z<List.length z_4) then Option.bind (idx i) fun z_5=>Option.bind (unenc (List.map eI)
 (List.map eI b)) fun z_6=>bif decide (z_5<List.length z_6) then bif decide (List.getD z_6 z_5 0<List.getD z_4 z 0) then some (Ex.ret,
 St.mk [(4,(vI 1))] []) else some (Ex.normal,St.mk [(5,(vI (IntKind.i64.wrap (i - (1:Int))))),(1,AV.sl (List.map eI b)),(0,AV.sl (List.map eI a))]
 []) else none else none else none else none else some (Ex.exit (0:Nat),St.mk [] []):=(execR_bind _ _ _).symm.trans (by kernel_rfl)

theorem lpCpr_ok (a:List Int) (b:List Int) (i:Int) (hp:prlCpr a b i=true) : ∀ex s',(outCpr a b i).val=some (ex,s')→LoopOK enCpr (loopN Tryz.f162 0) (stCpr a b i) ex s':=by
 simp only[prlCpr,Bool.and_eq_true,decide_eq_true_eq]at hp
 obtain⟨⟨⟨h1,h2⟩,h3⟩,h4⟩:=hp
 obtain⟨n,rfl⟩ : ∃n:Nat,i=(n:Int) - 1:=⟨(i+1).toNat,by omega⟩
 refine loop_gen (st:=fun n:Nat=>stCpr a b ((n:Int) - 1)) (out:=fun n:Nat=>outCpr a b ((n:Int) - 1)) (I:=fun n=>n≤a.length) (n:=([5,1,0],[])) (e:=([],[])) (r:=([4],[])) (fun n=>n) ?_ n (by omega)
 intro n hn
 have e:((n:Int) - 1+1).toNat=n:=by omega
 cases n with
 | zero=>
  left
  refine⟨(.exit 0,⟨[],[]⟩),?_,?_,by simp,rfl⟩
  ·rw[evCprL];simp
  ·simp only[outCpr,e];rfl
 | succ j=>
  have hlt:j<a.length:=hn
  have hlt2:j<b.length:=by omega
  have hy:a[j]? = some a[j]:=List.getElem?_eq_getElem hlt
  have hz:b[j]? = some b[j]:=List.getElem?_eq_getElem hlt2
  have hg:a.getD j 0=a[j]:=by simp[hy]
  have hg2:b.getD j 0=b[j]:=by simp[hz]
  generalize a[j]=y at hy hg
  generalize b[j]=z at hz hg2
  have hj:(((j+1:Nat):Int) - 1)=(j:Int):=by omega
  have hw:IntKind.i64.wrap ((j:Int) - 1)=(j:Int) - 1:=wrap_id (by omega) (by omega)
  rw[hj]at e ⊢
  have hi:idx ((j:Nat):Int)=some j:=idx_n (by omega)
  have h0:decide ((0:Int)≤(j:Int))=true:=decide_eq_true (by omega)
  by_cases c1:y<z
  ·left
   refine⟨(.ret,⟨[(4,vI (-1))],[]⟩),?_,?_,by simp,rfl⟩
   ·rw[evCprL]
    simp only[Option.bind_some,unInts,cond_true,hi,h0,decide_eq_true hlt,decide_eq_true hlt2,getD_at hy,getD_at hz,decide_eq_true c1]
   ·simp only[outCpr,e,F.cmpK,hg,hg2,decide_eq_true c1];rfl
  ·by_cases c2:z<y
   ·left
    refine⟨(.ret,⟨[(4,vI 1)],[]⟩),?_,?_,by simp,rfl⟩
    ·rw[evCprL]
     simp only[Option.bind_some,unInts,cond_true,cond_false,hi,h0,decide_eq_true hlt,decide_eq_true hlt2,getD_at hy,getD_at hz,decide_eq_false c1,decide_eq_true c2]
    ·simp only[outCpr,e,F.cmpK,hg,hg2,decide_eq_false c1,decide_eq_true c2];rfl
   ·right
    refine⟨j,?_,rfl,by omega,by omega,?_⟩
    ·rw[evCprL]
     simp only[Option.bind_some,unInts,cond_true,cond_false,hi,h0,decide_eq_true hlt,decide_eq_true hlt2,getD_at hy,getD_at hz,decide_eq_false c1,decide_eq_false c2,hw,stCpr]
    ·have e2:((j:Int) - 1+1).toNat=j:=by omega
     simp only[outCpr,e,e2,F.cmpK,hg,hg2,decide_eq_false c1,decide_eq_false c2,cond_false]

theorem evCpr (a:List Int) (b:List Int):(runF enCpr false Tryz.f162 [.sl (a.map eI), .sl (b.map eI)]).val =
 bif (↑(List.length (List.map eI a)):Int) != (↑(List.length (List.map eI b)):Int) then bif decide ((↑(List.length (List.map eI a)):Int)<(↑(List.length (List.map eI
 b)):Int)) then some ((vI (-1:Int)),[]) else some ((vI 1),[]) else Option.bind (unenc stCpr1 (St.mk [(5,(vI (IntKind.i64.wrap ((↑(List.length
 (List.map eI a)):Int) - (1:Int))))),(1,AV.sl (List.map eI b)),(0,AV.sl (List.map eI a))] [])) fun z=>bif decide (List.length z.1
 ≤ 1000)&&decide (List.length z.1=List.length z.2.1)&&decide ((-1:Int)≤z.2.2)&&decide (z.2.2<(↑(List.length z.1):Int))&&true then
 bif F.cmpK z.1 z.2.1 (Int.toNat (z.2.2+1))==0 then some ((vI 0),[]) else some ((vI (F.cmpK z.1 z.2.1 (Int.toNat (z.2.2 +
 (1:Int))))),[]) else none:=(runFR_val).symm.trans (by kernel_rfl)

def encCpr1 (a:List Int) (b:List Int):List AV:=[.sl (a.map eI), .sl (b.map eI)]

def encCpr (a:(List Int)×(List Int)):List AV:=encCpr1 a.1 a.2

theorem encCpr_inj (a a':(List Int)×(List Int)) (h:encCpr a=encCpr a'):a=a':=by
 simp only[encCpr,encCpr1]at h
 try simp[ints_inj]at h
 grind

theorem unCpr (a:List Int) (b:List Int):unenc encCpr ([AV.sl (List.map eI a),AV.sl (List.map eI b)])=some (a,b):=unenc_of encCpr_inj (a,b) rfl

def resCpr1 (a:List Int) (b:List Int):AV×Heap:=(vI (F.sgnL (F.nv a) (F.nv b)),[])

def preCpr1 (a:List Int) (b:List Int):Bool:=F.nk 1000 a&&F.nk 1000 b

noncomputable def oCpr:Orc:=orc 162 true encCpr (fun a=>preCpr1 a.1 a.2) fun a=>resCpr1 a.1 a.2

theorem okCpr:OrcOK Tryz.prog noG oCpr:=by
 refine mk_ok Tryz.f162 (keep:=false) (by kernel_rfl) (by kernel_rfl) enCpr_ok mixed (one_loop (x0:=loopN Tryz.f162 0) (by kernel_rfl) (lpo_ok ?_)) (by first | exact fun _ _=>⟨rfl,rfl⟩ | (intro h;cases h)) ?_
 ·rintro⟨a,b,i⟩ hp
  exact lpCpr_ok a b i hp
 rintro⟨a,b⟩ hpre hok
 show(runF enCpr false _ (encCpr1 _ _)).val=some (resCpr1 _ _)
 unfold encCpr1 resCpr1
 rw[evCpr]
 have hpre:(F.nk 1000 a&&F.nk 1000 b)=true:=hpre
 rw[Bool.and_eq_true]at hpre
 have l1:=F.nk_len hpre.1
 have l2:=F.nk_len hpre.2
 have hres:F.sgnL ((F.nv a:Nat):Int) ((F.nv b:Nat):Int)=F.cmpL a b:=by
  obtain⟨m,hm1,hm⟩:=F.nk_of hpre.1
  obtain⟨n,hn1,hn⟩:=F.nk_of hpre.2
  rw[hm1,hn1,F.nv_lb,F.nv_lb,F.cmp_lb]
 have hw:IntKind.i64.wrap ((a.length:Int) - 1)=(a.length:Int) - 1:=wrap_id (by omega) (by omega)
 by_cases h:a.length=b.length
 ·have e:(((a.length:Int) - 1)+1).toNat=a.length:=by omega
  have hk:=F.cmpK_all h
  have hb:((a.length:Int) != (b.length:Int))=false:=by rw[h];simp
  simp only[unstCpr,Option.bind_some,List.length_map,cond_true,cond_false,Bool.and_true,hw,hb,e,hk,hres,decide_eq_true h,decide_eq_true l1,decide_eq_true (by omega:(-1:Int)≤(a.length:Int) - 1),decide_eq_true (by omega:(a.length:Int) - 1<(a.length:Int))]
  cases hc:F.cmpL a b==0
  ·rfl
  ·have:F.cmpL a b=0:=by simpa using hc
   rw[this];rfl
 ·have hb:((a.length:Int) != (b.length:Int))=true:=by simp;omega
  simp only[unstCpr,Option.bind_some,List.length_map,cond_true,Bool.and_true,hb,hres]
  unfold F.cmpL
  by_cases c:a.length<b.length
  ·rw[decide_eq_true (by omega:(a.length:Int)<(b.length:Int)),if_pos c];rfl
  ·rw[decide_eq_false (by omega : ¬(a.length:Int)<(b.length:Int)),if_neg c,if_pos (by omega)];rfl

end M

def F.at0 (a:List Int) (k:Nat):Int:=bif decide (k<a.length) then a.getD k 0 else 0

def F.addR (a b:List Int):Nat→Nat→Int→List Int×Int
 | 0,_,c=>([],c)
 | n+1,k,c=>((c+F.at0 a k+F.at0 b k) % 10000::(F.addR a b n (k+1) ((c+F.at0 a k+F.at0 b k) / 10000)).1,(F.addR a b n (k+1) ((c+F.at0 a k+F.at0 b k) / 10000)).2)

theorem F.at0_nil (k:Nat):F.at0 [] k=0:=rfl

theorem F.at0_z (x:Int) (a:List Int):F.at0 (x::a) 0=x:=by simp[F.at0]

theorem F.at0_s (x:Int) (a:List Int) (k:Nat):F.at0 (x::a) (k+1)=F.at0 a k:=by
 unfold F.at0
 by_cases h:k<a.length
 ·simp[h]
 ·simp[h]

theorem F.addR_ss (x y:Int) (a b:List Int) : ∀n k c,F.addR (x::a) (y::b) n (k+1) c=F.addR a b n k c
 | 0,k,c=>rfl
 | n+1,k,c=>by rw[F.addR,F.addR,F.at0_s,F.at0_s,F.addR_ss]

theorem F.addR_sn (x:Int) (a:List Int) : ∀n k c,F.addR (x::a) [] n (k+1) c=F.addR a [] n k c
 | 0,k,c=>rfl
 | n+1,k,c=>by rw[F.addR,F.addR,F.at0_s,F.at0_nil,F.at0_nil,F.addR_sn]

theorem F.addR_ns (y:Int) (b:List Int) : ∀n k c,F.addR [] (y::b) n (k+1) c=F.addR [] b n k c
 | 0,k,c=>rfl
 | n+1,k,c=>by rw[F.addR,F.addR,F.at0_s,F.at0_nil,F.at0_nil,F.addR_ns]

theorem F.addL_R : ∀(c:Int) (a b:List Int),F.addL c a b=(F.addR a b (max a.length b.length) 0 c).1++(if 0<(F.addR a b (max a.length b.length) 0 c).2 then [(F.addR a b (max a.length b.length) 0 c).2] else [])
 | c,[],[]=>by rw[F.addL];rfl
 | c,x::a,[]=>by
  have ih:=F.addL_R ((c+x) / 10000) a []
  have e:max (x::a).length ([]:List Int).length=max a.length ([]:List Int).length+1:=by simp
  rw[F.addL,ih,e,F.addR,F.at0_z,F.at0_nil,Int.add_zero,F.addR_sn]
  rfl
 | c,[],y::b=>by
  have ih:=F.addL_R ((c+y) / 10000) [] b
  have e:max ([]:List Int).length (y::b).length=max ([]:List Int).length b.length+1:=by simp
  rw[F.addL,ih,e,F.addR,F.at0_z,F.at0_nil,Int.add_zero,F.addR_ns]
  rfl
 | c,x::a,y::b=>by
  have ih:=F.addL_R ((c+x+y) / 10000) a b
  have e:max (x::a).length (y::b).length=max a.length b.length+1:=by simp only[List.length_cons];omega
  rw[F.addL,ih,e,F.addR,F.at0_z,F.at0_z,F.addR_ss]
  rfl
termination_by _ a b=>a.length+b.length

theorem F.addR_len (a b:List Int) : ∀n k c,(F.addR a b n k c).1.length=n
 | 0,k,c=>rfl
 | n+1,k,c=>by rw[F.addR];simp only[List.length_cons,F.addR_len]

theorem F.at0_ok {a:List Int} (h:F.okLm a) (k:Nat):0≤F.at0 a k∧F.at0 a k≤9999:=by
 unfold F.at0
 by_cases hk:k<a.length
 ·simp only[decide_eq_true hk,cond_true,List.getD,List.getElem?_eq_getElem hk,Option.getD_some]
  exact h _ (List.getElem_mem hk)
 ·rw[decide_eq_false hk];simp

theorem F.nk_ok {k:Nat} {a:List Int} (h:F.nk k a=true):F.okLm a:=by
 obtain⟨m,rfl,_⟩:=F.nk_of h
 exact F.lb_ok m

theorem F.addR_c {a b:List Int} (ha:F.okLm a) (hb:F.okLm b) : ∀n k c,0≤c∧c≤1→0≤(F.addR a b n k c).2∧(F.addR a b n k c).2≤1
 | 0,k,c,h=>h
 | n+1,k,c,h=>by
  rw[F.addR]
  have h1:=F.at0_ok ha k
  have h2:=F.at0_ok hb k
  exact F.addR_c ha hb n (k+1) _ (by omega)

namespace M

def stAdd (a:List Int) (b:List Int) (acc:List Int) (c:Int) (k:Nat):St:=⟨[(7,vI k),(6,vI c),(5, .own 5),(1, .sl (b.map eI)),(0, .sl (a.map eI))],[(5,⟨false,3,1,acc.map eI⟩)]⟩

def stAdd1 (a:(List Int)×(List Int)×(List Int)×Int×Nat):St:=stAdd a.1 a.2.1 a.2.2.1 a.2.2.2.1 a.2.2.2.2

theorem stAdd_inj (a a':(List Int)×(List Int)×(List Int)×Int×Nat) (h:stAdd1 a=stAdd1 a'):a=a':=by
 simp only[stAdd1,stAdd]at h
 try simp[ints_inj]at h
 grind

theorem unstAdd0 (a:List Int) (b:List Int)  : unenc stAdd1 (St.mk [(7,(vI (0:Int))),(6,(vI (0:Int))),(5, .own 5),(1,AV.sl (List.map eI b)),(0,AV.sl (List.map eI a))] [(5,Blk.mk false 3 1 [])])=some (a,b,[],0,0):=unenc_of stAdd_inj (a,b,[],0,0) rfl

def outAdd (a:List Int) (b:List Int) (acc:List Int) (c:Int) (k:Nat):T (Ex×St):= .ret (.exit 0,⟨[(6,vI (F.addR a b (max a.length b.length - k) k c).2),(5, .own 5)],[(5,⟨false,3,1,(acc++(F.addR a b (max a.length b.length - k) k c).1).map eI⟩)]⟩)

noncomputable def prlAdd (a:List Int) (b:List Int) (acc:List Int) (c:Int) (k:Nat):Bool:=F.nk 1000 a&&F.nk 1000 b&&decide (0≤c)&&decide (c≤1)&&decide (acc.length≤k)&&decide (k≤max a.length b.length)

noncomputable def lpAdd:Nat×(St→T (Ex×St)):=(4,lpo [7,6,5,1,0] [5] stAdd1 (fun a=>prlAdd a.1 a.2.1 a.2.2.1 a.2.2.2.1 a.2.2.2.2) fun a=>outAdd a.1 a.2.1 a.2.2.1 a.2.2.2.1 a.2.2.2.2)

noncomputable def enAdd:Env:=envH ty noG lks [] [] [] [lpAdd]

theorem enAdd_ok:EnvOK Tryz.prog enAdd:=by
 refine envH_ok lks_ok ty_ok ?_ ?_
 ·simp
 ·simp

theorem evAddL (a:List Int) (b:List Int) (acc:List Int) (c:Int) (k:Nat):((exec enAdd (loopN Tryz.f207 0) (stAdd a b acc c k)).bind (lessX ([7,6,5,1,0],[5]) ([6,5],[5]) ([],[]))).val =
 (fun(q:Bool)=>(fun(q_1:Nat×AV)=>(fun(q_2:Bool)=>(fun(q_3:List (Nat×AV))=>bif bif decide ((↑k:Int)<(↑(List.length (List.map eI a)):Int)) then
 true else q then bif decide ((↑k:Int)<(↑(List.length (List.map eI a)):Int)) then Option.bind (unenc (List.map eI) (List.map eI a)) fun z=>(fun(q_4 :
 Int)=>bif decide (k<List.length z) then bif q then Option.bind (unenc (List.map eI) (List.map eI b)) fun z=>bif decide (k<List.length z) then bif q_2
 then some (Ex.normal,St.mk (q_1::(6,(vI (IntKind.i64.wrap (Int.tdiv (IntKind.i64.wrap (q_4+List.getD z k 0)) (10000:Int)))))::q_3) [(5,
 Blk.mk false 3 1 (List.map eI acc++[[(vI (Int.tmod (IntKind.i64.wrap (q_4+List.getD z k 0)) (10000:Int)))]]))]) else none else none else bif q_2 then
 some (Ex.normal,St.mk (q_1::(6,(vI (IntKind.i64.wrap (Int.tdiv q_4 (10000:Int)))))::q_3) [(5,Blk.mk false 3 1 (List.map eI acc++[[(vI (Int.tmod q_4
 (10000:Int)))]]))]) else none else none) (IntKind.i64.wrap (c+List.getD z k 0)) else bif q then Option.bind (unenc (List.map eI) (List.map eI b)) fun
 (z:List Int)=>bif decide (k<List.length z) then bif q_2 then some (Ex.normal,St.mk (q_1::(6,(vI (IntKind.i64.wrap (Int.tdiv (IntKind.i64.wrap (c
 + List.getD z k 0)) (10000:Int)))))::q_3) [(5,Blk.mk false 3 1 (List.map eI acc++[[(vI (Int.tmod (IntKind.i64.wrap (c+List.getD z k 0))
 (10000:Int)))]]))]) else none else none else bif q_2 then some (Ex.normal,St.mk (q_1::(6,(vI (IntKind.i64.wrap (Int.tdiv c (10000:Int)))))::q_3) [(5,
 Blk.mk false 3 1 (List.map eI acc++[[(vI (Int.tmod c (10000:Int)))]]))]) else none else some (Ex.exit (0:Nat),St.mk [(6,(vI c)),(5, .own 5)] [(5,Blk.mk false 3 1
 (List.map eI acc))])) [(5, .own 5),(1,AV.sl (List.map eI b)),(0,AV.sl (List.map eI a))]) (Nat.ble ((List.length (List.map eI acc)+1)*8)
 (140737488355328:Nat)&&true)) (7,(vI (IntKind.i64.wrap ((↑k:Int)+1))))) (decide ((↑k:Int)<(↑(List.length (List.map eI b)):Int))):=(execR_bind _ _ _).symm.trans (by kernel_rfl)

theorem lpAdd_ok (a:List Int) (b:List Int) (acc:List Int) (c:Int) (k:Nat) (hp:prlAdd a b acc c k=true) : ∀ex s',(outAdd a b acc c k).val=some (ex,s')→LoopOK enAdd (loopN Tryz.f207 0) (stAdd a b acc c k) ex s':=by
 simp only[prlAdd,Bool.and_eq_true,decide_eq_true_eq]at hp
 obtain⟨⟨⟨⟨⟨h1,h2⟩,h3⟩,h4⟩,h5⟩,h6⟩:=hp
 have l1:=F.nk_len h1
 have l2:=F.nk_len h2
 have o1:=F.nk_ok h1
 have o2:=F.nk_ok h2
 clear h1 h2
 refine loop_gen (st:=fun p:List Int×Int×Nat=>stAdd a b p.1 p.2.1 p.2.2) (out:=fun p=>outAdd a b p.1 p.2.1 p.2.2) (I:=fun p=>(0≤p.2.1∧p.2.1≤1)∧p.1.length≤p.2.2∧p.2.2≤max a.length b.length) (n:=([7,6,5,1,0],[5])) (e:=([6,5],[5])) (r:=([],[])) (fun p=>max a.length b.length - p.2.2) ?_ (acc,c,k) ⟨⟨h3,h4⟩,h5,h6⟩
 rintro⟨acc,c,k⟩ ⟨⟨g1,g2⟩,g3,g4⟩
 simp only at g1 g2 g3 g4
 by_cases hlt:k<max a.length b.length
 ·right
  have hb:Nat.ble ((acc.length+1)*8) 140737488355328=true:=ble_t (by omega)
  have q1:=F.at0_ok o1 k
  have q2:=F.at0_ok o2 k
  have hs:(0≤c+F.at0 a k+F.at0 b k)∧c+F.at0 a k+F.at0 b k<20000:=by omega
  have hn:max a.length b.length - k=(max a.length b.length - (k+1))+1:=by omega
  have hw:IntKind.i64.wrap ((k:Int)+1)=((k+1:Nat):Int):=by rw[wrap_id (by omega) (by omega)];rfl
  have hm:(c+F.at0 a k+F.at0 b k).tmod 10000=(c+F.at0 a k+F.at0 b k) % 10000:=Int.tmod_eq_emod_of_nonneg hs.1
  have hd:(c+F.at0 a k+F.at0 b k).tdiv 10000=(c+F.at0 a k+F.at0 b k) / 10000:=Int.tdiv_eq_ediv_of_nonneg hs.1
  refine⟨(acc++[(c+F.at0 a k+F.at0 b k) % 10000],(c+F.at0 a k+F.at0 b k) / 10000,k+1),?_,rfl,⟨by simp only;omega,by simp only[List.length_append,List.length_singleton];omega,by simp only;omega⟩,by simp only;omega,?_⟩
  ·have hi:idx (k:Int)=some k:=idx_n (by omega)
   by_cases ca:k<a.length
   ·have hy:a[k]? = some a[k]:=List.getElem?_eq_getElem ca
    have ea:F.at0 a k=a[k]:=by simp[F.at0,ca]
    rw[ea]at q1 hs hm hd ⊢
    generalize a[k]=x at hy ea q1 hs hm hd ⊢
    have w1:IntKind.i64.wrap (c+x)=c+x:=wrap_id (by omega) (by omega)
    by_cases cb:k<b.length
    ·have hz:b[k]? = some b[k]:=List.getElem?_eq_getElem cb
     have eb:F.at0 b k=b[k]:=by simp[F.at0,cb]
     rw[eb]at q2 hs hm hd ⊢
     generalize b[k]=y at hz eb q2 hs hm hd ⊢
     have w2:IntKind.i64.wrap (c+x+y)=c+x+y:=wrap_id (by omega) (by omega)
     have w3:IntKind.i64.wrap ((c+x+y) % 10000)=(c+x+y) % 10000:=wrap_id (by omega) (by omega)
     have w4:IntKind.i64.wrap ((c+x+y) / 10000)=(c+x+y) / 10000:=wrap_id (by omega) (by omega)
     rw[evAddL]
     simp only[Option.bind_some,List.length_map,unInts,cond_true,Bool.and_true,cast_lt ca,cast_lt cb,decide_eq_true ca,decide_eq_true cb,hw,getD_at hy,getD_at hz,w1,w2,hm,hd,w4,hb,stAdd]
     rw[List.map_append]
     rfl
    ·have eb:F.at0 b k=0:=by simp[F.at0,cb]
     rw[eb,Int.add_zero]at hs hm hd ⊢
     have w3:IntKind.i64.wrap ((c+x) % 10000)=(c+x) % 10000:=wrap_id (by omega) (by omega)
     have w4:IntKind.i64.wrap ((c+x) / 10000)=(c+x) / 10000:=wrap_id (by omega) (by omega)
     have cb2 : ¬(k:Int)<(b.length:Int):=by omega
     rw[evAddL]
     simp only[Option.bind_some,List.length_map,unInts,cond_true,cond_false,Bool.and_true,cast_lt ca,decide_eq_false cb2,decide_eq_true ca,hw,getD_at hy,w1,hm,hd,w4,hb,stAdd]
     rw[List.map_append]
     rfl
   ·have ea:F.at0 a k=0:=by simp[F.at0,ca]
    have ca2 : ¬(k:Int)<(a.length:Int):=by omega
    have cb:k<b.length:=by omega
    have hz:b[k]? = some b[k]:=List.getElem?_eq_getElem cb
    have eb:F.at0 b k=b[k]:=by simp[F.at0,cb]
    rw[ea,eb,Int.add_zero]at hs hm hd ⊢
    rw[eb]at q2
    generalize b[k]=y at hz eb q2 hs hm hd ⊢
    have w2:IntKind.i64.wrap (c+y)=c+y:=wrap_id (by omega) (by omega)
    have w3:IntKind.i64.wrap ((c+y) % 10000)=(c+y) % 10000:=wrap_id (by omega) (by omega)
    have w4:IntKind.i64.wrap ((c+y) / 10000)=(c+y) / 10000:=wrap_id (by omega) (by omega)
    rw[evAddL]
    simp only[Option.bind_some,List.length_map,unInts,cond_true,cond_false,Bool.and_true,decide_eq_false ca2,cast_lt cb,decide_eq_true cb,hw,getD_at hz,w2,hm,hd,w4,hb,stAdd]
    rw[List.map_append]
    rfl
  ·simp only[outAdd,hn,F.addR,List.append_assoc,List.singleton_append]
   done
 ·have hk:k=max a.length b.length:=by omega
  left
  refine⟨(.exit 0,⟨[(6,vI c),(5, .own 5)],[(5,⟨false,3,1,acc.map eI⟩)]⟩),?_,?_,by simp,rfl⟩
  ·have ca2 : ¬(k:Int)<(a.length:Int):=by omega
   have cb2 : ¬(k:Int)<(b.length:Int):=by omega
   rw[evAddL]
   simp only[Option.bind_some,List.length_map,unInts,cond_false,Bool.and_true,decide_eq_false ca2,decide_eq_false cb2]
  ·have hn:max a.length b.length - k=0:=by omega
   simp only[outAdd,hn,F.addR,List.append_nil]
   rfl

theorem evAdd (a:List Int) (b:List Int):(runF enAdd false Tryz.f207 [.sl (a.map eI), .sl (b.map eI)]).val =
 Option.bind (unenc stAdd1 (St.mk [(7,(vI 0)),(6,(vI 0)),(5, .own 5),(1,AV.sl (List.map eI b)),(0,AV.sl (List.map eI a))] [(5,Blk.mk false 3 1
 [])])) fun z=>bif F.nk (1000:Nat) z.1&&F.nk (1000:Nat) z.2.1&&decide ((0:Int)≤z.2.2.2.1) &&
 decide (z.2.2.2.1≤1)&&decide (List.length z.2.2.1≤z.2.2.2.2)&&decide (z.2.2.2.2≤max (List.length z.1) (List.length
 z.2.1))&&true then bif decide ((0:Int)<(F.addR z.1 z.2.1 (max (List.length z.1) (List.length z.2.1) - z.2.2.2.2) z.2.2.2.2
 z.2.2.2.1).snd) then bif Nat.ble ((List.length (List.map eI (z.2.2.1++(F.addR z.1 z.2.1 (max (List.length z.1) (List.length z.2.1) -
 z.2.2.2.2) z.2.2.2.2 z.2.2.2.1).fst))+1)*8) (140737488355328:Nat)&&true then some (AV.sl (List.map eI (z.2.2.1 ++
 (F.addR z.1 z.2.1 (max (List.length z.1) (List.length z.2.1) - z.2.2.2.2) z.2.2.2.2 z.2.2.2.1).fst)++[[(vI (F.addR z.1 z.2.1
 (max (List.length z.1) (List.length z.2.1) - z.2.2.2.2) z.2.2.2.2 z.2.2.2.1).snd)]]),[]) else none else some (AV.sl (List.map eI
 (z.2.2.1++(F.addR z.1 z.2.1 (max (List.length z.1) (List.length z.2.1) - z.2.2.2.2) z.2.2.2.2 z.2.2.2.1).fst)),[]) else none:=(runFR_val).symm.trans (by kernel_rfl)

def encAdd1 (a:List Int) (b:List Int):List AV:=[.sl (a.map eI), .sl (b.map eI)]

def encAdd (a:(List Int)×(List Int)):List AV:=encAdd1 a.1 a.2

theorem encAdd_inj (a a':(List Int)×(List Int)) (h:encAdd a=encAdd a'):a=a':=by
 simp only[encAdd,encAdd1]at h
 try simp[ints_inj]at h
 grind

theorem unAdd (a:List Int) (b:List Int):unenc encAdd ([AV.sl (List.map eI a),AV.sl (List.map eI b)])=some (a,b):=unenc_of encAdd_inj (a,b) rfl

def resAdd1 (a:List Int) (b:List Int):AV×Heap:=(.sl ((F.lb (F.nv a+F.nv b)).map eI),[])

def preAdd1 (a:List Int) (b:List Int):Bool:=F.nk 1000 a&&F.nk 1000 b

noncomputable def oAdd:Orc:=orc 207 false encAdd (fun a=>preAdd1 a.1 a.2) fun a=>resAdd1 a.1 a.2

theorem okAdd:OrcOK Tryz.prog noG oAdd:=by
 refine mk_ok Tryz.f207 (keep:=false) (by kernel_rfl) (by kernel_rfl) enAdd_ok mixed (one_loop (x0:=loopN Tryz.f207 0) (by kernel_rfl) (lpo_ok ?_)) (by first | exact fun _ _=>⟨rfl,rfl⟩ | (intro h;cases h)) ?_
 ·rintro⟨a,b,acc,c,k⟩ hp
  exact lpAdd_ok a b acc c k hp
 rintro⟨a,b⟩ hpre hok
 show(runF enAdd false _ (encAdd1 _ _)).val=some (resAdd1 _ _)
 unfold encAdd1 resAdd1
 rw[evAdd]
 have hpre:(F.nk 1000 a&&F.nk 1000 b)=true:=hpre
 have hpre2:=hpre
 rw[Bool.and_eq_true]at hpre2
 have l1:=F.nk_len hpre2.1
 have l2:=F.nk_len hpre2.2
 have hres:F.lb (F.nv a+F.nv b)=F.addL 0 a b:=by
  obtain⟨m,hm1,hm⟩:=F.nk_of hpre2.1
  obtain⟨n,hn1,hn⟩:=F.nk_of hpre2.2
  have:=F.addL_eq (m+n) m n 0 (Nat.le_refl _) (by decide)
  rw[Nat.zero_add]at this
  rw[hm1,hn1,F.nv_lb,F.nv_lb,←this]
  rfl
 have hc:=F.addR_c (F.nk_ok hpre2.1) (F.nk_ok hpre2.2) (max a.length b.length) 0 0 (by decide)
 have hl:=F.addR_len a b (max a.length b.length) 0 0
 have hR:=F.addL_R 0 a b
 have hb:Nat.ble (((F.addR a b (max a.length b.length) 0 0).1.length+1)*8) 140737488355328=true:=ble_t (by omega)
 simp only[unstAdd0,Option.bind_some,List.length_map,cond_true,Bool.and_true,hpre,hres,hR,decide_true,Nat.zero_le,Nat.sub_zero,List.nil_append,List.length_nil,Int.le_refl,hb,(by decide:decide ((0:Int)≤1)=true)]
 cases hq:decide (0<(F.addR a b (max a.length b.length) 0 0).2)
 ·have hq:=of_decide_eq_false hq
  simp[if_neg hq]
 ·have hq:=of_decide_eq_true hq
  simp[if_pos hq]
  rfl

end M

def F.subV (v:Int):Int:=bif decide (v<0) then v+10000 else v

def F.subC (v:Int):Int:=bif decide (v<0) then 1 else 0

def F.subR (a b:List Int):Nat→Nat→Int→List Int
 | 0,_,_=>[]
 | n+1,k,c=>F.subV (F.at0 a k - c - F.at0 b k)::F.subR a b n (k+1) (F.subC (F.at0 a k - c - F.at0 b k))

theorem F.subR_ss (x y:Int) (a b:List Int) : ∀n k c,F.subR (x::a) (y::b) n (k+1) c=F.subR a b n k c
 | 0,k,c=>rfl
 | n+1,k,c=>by rw[F.subR,F.subR,F.at0_s,F.at0_s,F.subR_ss]

theorem F.subR_sn (x:Int) (a:List Int) : ∀n k c,F.subR (x::a) [] n (k+1) c=F.subR a [] n k c
 | 0,k,c=>rfl
 | n+1,k,c=>by rw[F.subR,F.subR,F.at0_s,F.at0_nil,F.at0_nil,F.subR_sn]

theorem F.subL_R : ∀(c:Int) (a b:List Int),F.subL c a b=F.subR a b a.length 0 c
 | c,[],b=>by cases b<;>rfl
 | c,x::a,[]=>by
  rw[F.subL,List.length_cons,F.subR,F.at0_z,F.at0_nil,Int.sub_zero,F.subR_sn,←F.subL_R]
  unfold F.subV F.subC
  by_cases h:x - c<0
  ·simp[h]
  ·simp[h]
 | c,x::a,y::b=>by
  rw[F.subL,List.length_cons,F.subR,F.at0_z,F.at0_z,F.subR_ss,←F.subL_R]
  unfold F.subV F.subC
  by_cases h:x - c - y<0
  ·simp[h]
  ·simp[h]

theorem F.subR_len (a b:List Int) : ∀n k c,(F.subR a b n k c).length=n
 | 0,k,c=>rfl
 | n+1,k,c=>by rw[F.subR];simp only[List.length_cons,F.subR_len]

namespace M

def stLes (a:List Int) (b:List Int) (acc:List Int) (c:Int) (k:Nat):St:=⟨[(7,vI k),(6,vI c),(5, .own 5),(1, .sl (b.map eI)),(0, .sl (a.map eI))],[(5,⟨false,3,1,acc.map eI⟩)]⟩

def stLes1 (a:(List Int)×(List Int)×(List Int)×Int×Nat):St:=stLes a.1 a.2.1 a.2.2.1 a.2.2.2.1 a.2.2.2.2

theorem stLes_inj (a a':(List Int)×(List Int)×(List Int)×Int×Nat) (h:stLes1 a=stLes1 a'):a=a':=by
 simp only[stLes1,stLes]at h
 try simp[ints_inj]at h
 grind

theorem unstLes0 (a:List Int) (b:List Int)  : unenc stLes1 (St.mk [(7,(vI (0:Int))),(6,(vI (0:Int))),(5, .own 5),(1,AV.sl (List.map eI b)),(0,AV.sl (List.map eI a))] [(5,Blk.mk false 3 1 [])])=some (a,b,[],0,0):=unenc_of stLes_inj (a,b,[],0,0) rfl

def outLes (a:List Int) (b:List Int) (acc:List Int) (c:Int) (k:Nat):T (Ex×St):= .ret (.exit 0,⟨[(5, .own 5)],[(5,⟨false,3,1,(acc++F.subR a b (a.length - k) k c).map eI⟩)]⟩)

noncomputable def prlLes (a:List Int) (b:List Int) (acc:List Int) (c:Int) (k:Nat):Bool:=F.nk 1000 a&&F.nk 1000 b&&decide (0≤c)&&decide (c≤1)&&decide (acc.length≤k)&&decide (k≤a.length)

noncomputable def lpLes:Nat×(St→T (Ex×St)):=(4,lpo [7,6,5,1,0] [5] stLes1 (fun a=>prlLes a.1 a.2.1 a.2.2.1 a.2.2.2.1 a.2.2.2.2) fun a=>outLes a.1 a.2.1 a.2.2.1 a.2.2.2.1 a.2.2.2.2)

noncomputable def enLes:Env:=envH ty noG lks [oTrm] [] [] [lpLes]

theorem enLes_ok:EnvOK Tryz.prog enLes:=by
 refine envH_ok lks_ok ty_ok ?_ ?_
 ·simp only[List.forall_mem_cons]
  exact⟨okTrm,by simp⟩
 ·simp

theorem evLesL (a:List Int) (b:List Int) (acc:List Int) (c:Int) (k:Nat):((exec enLes (loopN Tryz.f238 0) (stLes a b acc c k)).bind (lessX ([7,6,5,1,0],[5]) ([5],[5]) ([],[]))).val =
 (fun(q:Nat×AV)=>(fun(q_1:Bool)=>(fun(q_2:List (Nat×AV))=>(fun(q_3:List (Nat×AV))=>(fun(q:List (Nat×AV))=>bif decide ((↑k:Int) <
 (↑(List.length (List.map eI a)):Int)) then Option.bind (unenc (List.map eI) (List.map eI a)) fun z=>(fun(q_4:Int)=>bif decide (k<List.length z)
 then bif decide ((↑k:Int)<(↑(List.length (List.map eI b)):Int)) then Option.bind (unenc (List.map eI) (List.map eI b)) fun z=>(fun(q_5:Int)=>bif
 decide (k<List.length z) then bif decide (q_5<0) then bif q_1 then some (Ex.normal,St.mk q [(5,Blk.mk false 3 1 (List.map eI acc++[[(vI (IntKind.wrap
 IntKind.i64 (q_5+10000)))]]))]) else none else bif q_1 then some (Ex.normal,St.mk q_3 [(5,Blk.mk false 3 1 (List.map eI acc++[[(vI q_5)]]))]) else none else
 none) (IntKind.i64.wrap (q_4 - List.getD z k 0)) else bif decide (q_4<0) then bif q_1 then some (Ex.normal,St.mk q [(5,Blk.mk false 3 1
 (List.map eI acc++[[(vI (IntKind.i64.wrap (q_4+10000)))]]))]) else none else bif q_1 then some (Ex.normal,St.mk q_3 [(5,Blk.mk false 3 1 (List.map eI
 acc++[[(vI q_4)]]))]) else none else none) (IntKind.i64.wrap (List.getD z k 0 - c)) else some (Ex.exit (0:Nat),St.mk [(5, .own 5)] [(5,Blk.mk false 3
 1 (List.map eI acc))])) (q::(6,(vI 1))::q_2)) (q::(6,(vI 0))::q_2)) [(5, .own 5),(1,AV.sl (List.map eI b)),(0,AV.sl (List.map eI a))])
 (Nat.ble ((List.length (List.map eI acc)+1)*8) 140737488355328&&true)) (7,(vI (IntKind.i64.wrap ((↑k:Int)+1)))):=(execR_bind _ _ _).symm.trans (by kernel_rfl)

theorem lpLes_ok (a:List Int) (b:List Int) (acc:List Int) (c:Int) (k:Nat) (hp:prlLes a b acc c k=true) : ∀ex s',(outLes a b acc c k).val=some (ex,s')→LoopOK enLes (loopN Tryz.f238 0) (stLes a b acc c k) ex s':=by
 simp only[prlLes,Bool.and_eq_true,decide_eq_true_eq]at hp
 obtain⟨⟨⟨⟨⟨h1,h2⟩,h3⟩,h4⟩,h5⟩,h6⟩:=hp
 have l1:=F.nk_len h1
 have l2:=F.nk_len h2
 have o1:=F.nk_ok h1
 have o2:=F.nk_ok h2
 clear h1 h2
 refine loop_gen (st:=fun p:List Int×Int×Nat=>stLes a b p.1 p.2.1 p.2.2) (out:=fun p=>outLes a b p.1 p.2.1 p.2.2) (I:=fun p=>(0≤p.2.1∧p.2.1≤1)∧p.1.length≤p.2.2∧p.2.2≤a.length) (n:=([7,6,5,1,0],[5])) (e:=([5],[5])) (r:=([],[])) (fun p=>a.length - p.2.2) ?_ (acc,c,k) ⟨⟨h3,h4⟩,h5,h6⟩
 rintro⟨acc,c,k⟩ ⟨⟨g1,g2⟩,g3,g4⟩
 simp only at g1 g2 g3 g4
 by_cases hlt:k<a.length
 ·right
  have hb:Nat.ble ((acc.length+1)*8) 140737488355328=true:=ble_t (by omega)
  have q1:=F.at0_ok o1 k
  have q2:=F.at0_ok o2 k
  have hn:a.length - k=(a.length - (k+1))+1:=by omega
  have hw:IntKind.i64.wrap ((k:Int)+1)=((k+1:Nat):Int):=by rw[wrap_id (by omega) (by omega)];rfl
  have hcc:0≤F.subC (F.at0 a k - c - F.at0 b k)∧F.subC (F.at0 a k - c - F.at0 b k)≤1:=by
   unfold F.subC
   cases decide (F.at0 a k - c - F.at0 b k<0)<;>simp
  refine⟨(acc++[F.subV (F.at0 a k - c - F.at0 b k)],F.subC (F.at0 a k - c - F.at0 b k),k+1),?_,rfl,⟨hcc,by simp only[List.length_append,List.length_singleton];omega,by simp only;omega⟩,by simp only;omega,?_⟩
  ·have hi:idx (k:Int)=some k:=idx_n (by omega)
   have hy:a[k]? = some a[k]:=List.getElem?_eq_getElem hlt
   have ea:F.at0 a k=a[k]:=by simp[F.at0,hlt]
   rw[ea]at q1 ⊢
   generalize a[k]=x at hy ea q1 ⊢
   have w1:IntKind.i64.wrap (x - c)=x - c:=wrap_id (by omega) (by omega)
   by_cases cb:k<b.length
   ·have hz:b[k]? = some b[k]:=List.getElem?_eq_getElem cb
    have eb:F.at0 b k=b[k]:=by simp[F.at0,cb]
    rw[eb]at q2 ⊢
    generalize b[k]=y at hz eb q2 ⊢
    have w2:IntKind.i64.wrap (x - c - y)=x - c - y:=wrap_id (by omega) (by omega)
    have w3:IntKind.i64.wrap (x - c - y+10000)=x - c - y+10000:=wrap_id (by omega) (by omega)
    rw[evLesL]
    simp only[Option.bind_some,List.length_map,unInts,cond_true,Bool.and_true,cast_lt hlt,cast_lt cb,decide_eq_true hlt,decide_eq_true cb,hw,getD_at hy,getD_at hz,w1,w2,w3,hb,stLes,F.subV,F.subC]
    rw[List.map_append]
    cases decide (x - c - y<0)<;>rfl
   ·have eb:F.at0 b k=0:=by simp[F.at0,cb]
    rw[eb,Int.sub_zero]
    have w3:IntKind.i64.wrap (x - c+10000)=x - c+10000:=wrap_id (by omega) (by omega)
    have cb2 : ¬(k:Int)<(b.length:Int):=by omega
    rw[evLesL]
    simp only[Option.bind_some,List.length_map,unInts,cond_true,cond_false,Bool.and_true,cast_lt hlt,decide_eq_false cb2,decide_eq_true hlt,hw,getD_at hy,w1,w3,hb,stLes,F.subV,F.subC]
    rw[List.map_append]
    cases decide (x - c<0)<;>rfl
  ·simp only[outLes,hn,F.subR,List.append_assoc,List.singleton_append]
 ·have hk:k=a.length:=by omega
  left
  refine⟨(.exit 0,⟨[(5, .own 5)],[(5,⟨false,3,1,acc.map eI⟩)]⟩),?_,?_,by simp,rfl⟩
  ·have ca2 : ¬(k:Int)<(a.length:Int):=by omega
   rw[evLesL]
   simp only[Option.bind_some,List.length_map,unInts,cond_false,Bool.and_true,decide_eq_false ca2]
  ·have hn:a.length - k=0:=by omega
   simp only[outLes,hn,F.subR,List.append_nil]
   rfl

theorem evLes (a:List Int) (b:List Int):(runF enLes false Tryz.f238 [.sl (a.map eI), .sl (b.map eI)]).val =
 Option.bind (unenc stLes1 (St.mk [(7,(vI 0)),(6,(vI 0)),(5, .own 5),(1,AV.sl (List.map eI b)),(0,AV.sl (List.map eI a))] [(5,Blk.mk false 3 1
 [])])) fun z=>bif F.nk (1000:Nat) z.1&&F.nk (1000:Nat) z.2.1&&decide ((0:Int)≤z.2.2.2.1) &&
 decide (z.2.2.2.1≤1)&&decide (List.length z.2.2.1≤z.2.2.2.2)&&decide (z.2.2.2.2≤List.length z.1)&&true then Option.bind
 (unenc encTrm [AV.sl (List.map eI (z.2.2.1++F.subR z.1 z.2.1 (List.length z.1 - z.2.2.2.2) z.2.2.2.2 z.2.2.2.1))]) fun z=>bif decide (List.length z≤100000) then some (AV.sl (List.map eI (F.trimL z)),[]) else none else none:=(runFR_val).symm.trans (by kernel_rfl)

def encLes1 (a:List Int) (b:List Int):List AV:=[.sl (a.map eI), .sl (b.map eI)]

def encLes (a:(List Int)×(List Int)):List AV:=encLes1 a.1 a.2

theorem encLes_inj (a a':(List Int)×(List Int)) (h:encLes a=encLes a'):a=a':=by
 simp only[encLes,encLes1]at h
 try simp[ints_inj]at h
 grind

theorem unLes (a:List Int) (b:List Int):unenc encLes ([AV.sl (List.map eI a),AV.sl (List.map eI b)])=some (a,b):=unenc_of encLes_inj (a,b) rfl

def resLes1 (a:List Int) (b:List Int):AV×Heap:=(.sl ((F.lb (F.nv a - F.nv b)).map eI),[])

def preLes1 (a:List Int) (b:List Int):Bool:=F.nk 1000 a&&F.nk 1000 b&&decide (F.nv b≤F.nv a)

noncomputable def oLes:Orc:=orc 238 false encLes (fun a=>preLes1 a.1 a.2) fun a=>resLes1 a.1 a.2

theorem okLes:OrcOK Tryz.prog noG oLes:=by
 refine mk_ok Tryz.f238 (keep:=false) (by kernel_rfl) (by kernel_rfl) enLes_ok mixed (one_loop (x0:=loopN Tryz.f238 0) (by kernel_rfl) (lpo_ok ?_)) (by first | exact fun _ _=>⟨rfl,rfl⟩ | (intro h;cases h)) ?_
 ·rintro⟨a,b,acc,c,k⟩ hp
  exact lpLes_ok a b acc c k hp
 rintro⟨a,b⟩ hpre hok
 show(runF enLes false _ (encLes1 _ _)).val=some (resLes1 _ _)
 unfold encLes1 resLes1
 rw[evLes]
 have hpre:(F.nk 1000 a&&F.nk 1000 b&&decide (F.nv b≤F.nv a))=true:=hpre
 have hpre2:=hpre
 rw[Bool.and_eq_true,Bool.and_eq_true,decide_eq_true_eq]at hpre2
 obtain⟨⟨p1,p2⟩,p3⟩:=hpre2
 have l1:=F.nk_len p1
 have l2:=F.nk_len p2
 have hres:F.trimL (F.subR a b a.length 0 0)=F.lb (F.nv a - F.nv b):=by
  obtain⟨m,hm1,hm⟩:=F.nk_of p1
  obtain⟨n,hn1,hn⟩:=F.nk_of p2
  rw[←F.subL_R]
  rw[hm1,hn1,F.nv_lb,F.nv_lb]at p3 ⊢
  exact F.sub_lb p3
 have hl:=F.subR_len a b a.length 0 0
 have hb:decide ((F.subR a b a.length 0 0).length≤100000)=true:=decide_eq_true (by omega)
 simp only[unTrm,unstLes0,Option.bind_some,cond_true,Bool.and_true,p1,p2,decide_true,Nat.zero_le,Nat.sub_zero,List.nil_append,List.length_nil,Int.le_refl,hb,hres,(by decide:decide ((0:Int)≤1)=true)]
 done

end M

def F.rowD (x:Int):Int→List Int→List Int→List Int×Int
 | c,o::os,y::b=>((o+x*y+c) % 10000::(F.rowD x ((o+x*y+c) / 10000) os b).1,(F.rowD x ((o+x*y+c) / 10000) os b).2)
 | c,os,[]=>(os,c)
 | c,[],_::_=>([],c)

theorem F.rowD_nil (x c:Int) (os:List Int):F.rowD x c os []=(os,c):=by cases os<;>rfl

theorem F.mrow_D (x:Int) : ∀(b os:List Int) (c:Int),b.length<os.length→F.mrow x c os b=(F.rowD x c os b).1.set b.length ((F.rowD x c os b).1.getD b.length 0+(F.rowD x c os b).2)
 | [],o::os,c,_=>by rw[F.mrow,F.rowD_nil];rfl
 | y::b,o::os,c,h=>by
  have ih:=F.mrow_D x b os ((o+x*y+c) / 10000) (by simpa using h)
  rw[F.mrow,ih,F.rowD]
  rfl
 | [],[],c,h=>by simp at h
 | y::b,[],c,h=>by simp at h

theorem F.rowD_len (x:Int) : ∀(b os:List Int) (c:Int),(F.rowD x c os b).1.length=os.length
 | [],os,c=>by rw[F.rowD_nil]
 | y::b,o::os,c=>by rw[F.rowD];simp only[List.length_cons,F.rowD_len]
 | y::b,[],c=>rfl

theorem F.rowD_ok {x:Int} (hx:0≤x∧x≤9999) : ∀(b os:List Int) (c:Int),F.okLm b→F.okLm os→(0≤c∧c≤9999)→F.okLm (F.rowD x c os b).1∧0≤(F.rowD x c os b).2∧(F.rowD x c os b).2≤9999
 | [],os,c,_,ho,hc=>by rw[F.rowD_nil];exact⟨ho,hc⟩
 | y::b,o::os,c,hb,ho2,hc=>by
  have h3:=hb y (List.mem_cons_self ..)
  have hm:=F.mul_bd hx h3
  have ho:=ho2 o (List.mem_cons_self ..)
  obtain⟨q1,q2⟩:=F.rowD_ok hx b os ((o+x*y+c) / 10000) (fun z hz=>hb z (List.mem_cons_of_mem _ hz)) (fun z hz=>ho2 z (List.mem_cons_of_mem _ hz)) (by omega)
  rw[F.rowD]
  exact⟨F.okLm_cons (by omega) q1,q2⟩
 | y::b,[],c,_,_,hc=>⟨F.okLm_nil,hc⟩

theorem F.rowD_z {x:Int} : ∀(b os:List Int) (c:Int),b.length<os.length→F.zeroFrom b.length os→(F.rowD x c os b).1.getD b.length 0=0
 | [],o::os,c,_,hz=>by rw[F.rowD_nil];exact hz o (by simp)
 | y::b,o::os,c,h,hz=>by
  have:=F.rowD_z (x:=x) b os ((o+x*y+c) / 10000) (by simpa using h) (fun z h=>hz z (by simpa using h))
  rw[F.rowD]
  simpa using this
 | [],[],c,h,_=>by simp at h
 | y::b,[],c,h,_=>by simp at h

def F.okBm (l:List Int):Bool:=l.all fun x=>decide (0≤x)&&decide (x≤9999)

theorem F.okBm_iff {l:List Int}:F.okBm l=true↔F.okLm l:=by
 unfold F.okBm F.okLm
 rw[List.all_eq_true]
 constructor
 ·intro h x hx;have:=h x hx;simpa using this
 ·intro h x hx;have:=h x hx;simpa using this

def F.zB (k:Nat) (l:List Int):Bool:=(l.drop k).all fun x=>x==0

theorem F.zB_iff {k:Nat} {l:List Int}:F.zB k l=true↔F.zeroFrom k l:=by
 unfold F.zB F.zeroFrom
 rw[List.all_eq_true]
 constructor
 ·intro h x hx;have:=h x hx;simpa using this
 ·intro h x hx;have:=h x hx;simpa using this

theorem F.okLm_app {a b:List Int} (h1:F.okLm a) (h2:F.okLm b):F.okLm (a++b):=fun x hx=>by
 rcases List.mem_append.1 hx with h | h
 ·exact h1 x h
 ·exact h2 x h

theorem F.okLm_drop {a:List Int} (k:Nat) (h:F.okLm a):F.okLm (a.drop k):=fun x hx=>h x (List.mem_of_mem_drop hx)

theorem F.okLm_take {a:List Int} (k:Nat) (h:F.okLm a):F.okLm (a.take k):=fun x hx=>h x (List.mem_of_mem_take hx)

namespace M

theorem drop_y {α:Type} {l:List α} {k:Nat} {y:α} (h:l[k]? = some y):l.drop k=y::l.drop (k+1):=by
 obtain⟨h1,rfl⟩:=List.getElem?_eq_some_iff.1 h
 exact List.drop_eq_getElem_cons h1

def stTin (a:List Int) (b:List Int) (i:Nat) (out:List Int) (c:Int) (k:Nat):St:=⟨[(8,vI k),(7,vI c),(6,vI i),(5, .own 15),(1, .sl (b.map eI)),(0, .sl (a.map eI))],[(15,⟨false,3,1,out.map eI⟩)]⟩

def stTin1 (a:(List Int)×(List Int)×Nat×(List Int)×Int×Nat):St:=stTin a.1 a.2.1 a.2.2.1 a.2.2.2.1 a.2.2.2.2.1 a.2.2.2.2.2

theorem stTin_inj (a a':(List Int)×(List Int)×Nat×(List Int)×Int×Nat) (h:stTin1 a=stTin1 a'):a=a':=by
 simp only[stTin1,stTin]at h
 try simp[ints_inj]at h
 grind

theorem unstTin0 (a:List Int) (b:List Int) (i:Nat) (out:List Int)  : unenc stTin1 (St.mk [(8,(vI (0:Int))),(7,(vI (0:Int))),(6,(vI (↑i:Int))),(5, .own 15),(1,AV.sl (List.map eI b)),(0,AV.sl (List.map eI a))] [(15,Blk.mk false 3 1
 (List.map eI out))])=some (a,b,i,out,0,0):=unenc_of stTin_inj (a,b,i,out,0,0) rfl

def outTin (a:List Int) (b:List Int) (i:Nat) (out:List Int) (c:Int) (k:Nat):T (Ex×St):= .ret (.exit 2,⟨[(7,vI (F.rowD (a.getD i 0) c (out.drop (i+k)) (b.drop k)).2),(6,vI i),(5, .own 15),(1, .sl (b.map eI)),(0, .sl (a.map eI))],[(15,⟨false,3,1,(out.take (i+k)++(F.rowD (a.getD i 0) c (out.drop (i+k)) (b.drop k)).1).map eI⟩)]⟩)

noncomputable def prlTin (a:List Int) (b:List Int) (i:Nat) (out:List Int) (c:Int) (k:Nat):Bool:=F.nk 400 a&&F.nk 400 b&&F.okBm out&&decide (0≤c)&&decide (c≤9999)&&decide (k≤b.length)&&decide (i<a.length)&&decide (out.length=a.length+b.length)

noncomputable def lpTin:Nat×(St→T (Ex×St)):=(7,lpo [8,7,6,5,1,0] [15] stTin1 (fun a=>prlTin a.1 a.2.1 a.2.2.1 a.2.2.2.1 a.2.2.2.2.1 a.2.2.2.2.2) fun a=>outTin a.1 a.2.1 a.2.2.1 a.2.2.2.1 a.2.2.2.2.1 a.2.2.2.2.2)

def stTmz (a:List Int) (b:List Int) (out:List Int) (i:Nat):St:=⟨[(6,vI i),(5, .own 15),(1, .sl (b.map eI)),(0, .sl (a.map eI))],[(15,⟨false,3,1,out.map eI⟩)]⟩

def stTmz1 (a:(List Int)×(List Int)×(List Int)×Nat):St:=stTmz a.1 a.2.1 a.2.2.1 a.2.2.2

theorem stTmz_inj (a a':(List Int)×(List Int)×(List Int)×Nat) (h:stTmz1 a=stTmz1 a'):a=a':=by
 simp only[stTmz1,stTmz]at h
 try simp[ints_inj]at h
 grind

theorem unstTmz0 (a:List Int) (b:List Int) (out:List Int)  : unenc stTmz1 (St.mk [(6,(vI (0:Int))),(5, .own 15),(1,AV.sl (List.map eI b)),(0,AV.sl (List.map eI a))] [(15,Blk.mk false 3 1 (List.map eI out))])=some (a,b,out,0):=unenc_of stTmz_inj (a,b,out,0) rfl

def outTmz (a:List Int) (b:List Int) (out:List Int) (i:Nat):T (Ex×St):= .ret (.exit 0,⟨[(5, .own 15)],[(15,⟨false,3,1,(out.take i++F.mulR b (a.drop i) (out.drop i)).map eI⟩)]⟩)

noncomputable def prlTmz (a:List Int) (b:List Int) (out:List Int) (i:Nat):Bool:=F.nk 400 a&&F.nk 400 b&&F.okBm out&&F.zB (i+b.length) out&&decide (i≤a.length)&&decide (out.length=a.length+b.length)

noncomputable def lpTmz:Nat×(St→T (Ex×St)):=(3,lpo [6,5,1,0] [15] stTmz1 (fun a=>prlTmz a.1 a.2.1 a.2.2.1 a.2.2.2) fun a=>outTmz a.1 a.2.1 a.2.2.1 a.2.2.2)

noncomputable def enTmz:Env:=envH ty noG lks [oTrm] [] [] [lpTmz,lpTin]

theorem enTmz_ok:EnvOK Tryz.prog enTmz:=by
 refine envH_ok lks_ok ty_ok ?_ ?_
 ·simp only[List.forall_mem_cons]
  exact⟨okTrm,by simp⟩
 ·simp

theorem evTinL (a:List Int) (b:List Int) (i:Nat) (out:List Int) (c:Int) (k:Nat):((exec enTmz (loopN Tryz.f167 1) (stTin a b i out c k)).bind (lessX ([8,7,6,5,1,0],[15]) ([7,6,5,1,0],[15]) ([],[]))).val =
 bif decide ((↑k:Int)<(↑(List.length (List.map eI b)):Int)) then Option.bind (idx (IntKind.i64.wrap ((↑i:Int)+(↑k:Int)))) fun z=>bif decide (z
 < List.length (Blk.mk false 3 1 (List.map eI out)).rows) then Option.bind (unenc (List.map eI) (List.map eI out)) fun z_1=>bif decide (z<List.length z_1)
 then Option.bind (unenc (List.map eI) (List.map eI a)) fun z_2=>bif decide (i<List.length z_2) then Option.bind (unenc (List.map eI) (List.map eI b)) fun
 (z_3:List Int)=>bif decide (k<List.length z_3) then Option.bind (idx (IntKind.i64.wrap ((↑i:Int)+(↑k:Int)))) fun z_4=>bif decide (z_4 <
 List.length (Blk.mk false 3 1 (List.map eI out)).rows) then Option.bind (unenc (List.map eI) (List.map eI out)) fun z_5=>bif decide (z_4<List.length z_5)
 then some (Ex.normal,St.mk [(8,(vI (IntKind.i64.wrap ((↑k:Int)+1)))),(7,(vI (IntKind.i64.wrap (Int.tdiv (IntKind.wrap IntKind.i64
 (IntKind.i64.wrap (List.getD z_1 z 0+IntKind.i64.wrap (List.getD z_2 i 0*List.getD z_3 k 0))+c)) (10000:Int))))),(6,(vI
 (↑i:Int))),(5, .own 15),(1,AV.sl (List.map eI b)),(0,AV.sl (List.map eI a))] [(15,Blk.mk false 3 1 (List.set (List.map eI out) z_4 [(vI (Int.tmod (IntKind.wrap
 IntKind.i64 (IntKind.i64.wrap (List.getD z_1 z 0+IntKind.i64.wrap (List.getD z_2 i 0*List.getD z_3 k 0))+c)) (10000 :
 Int)))]))]) else none else none else none else none else none else none else some (Ex.exit (2:Nat),St.mk [(7,(vI c)),(6,(vI (↑i:Int))),(5, .own 15),(1,AV.sl
 (List.map eI b)),(0,AV.sl (List.map eI a))] [(15,Blk.mk false 3 1 (List.map eI out))]):=(execR_bind _ _ _).symm.trans (by kernel_rfl)

theorem lpTin_ok (a:List Int) (b:List Int) (i:Nat) (out:List Int) (c:Int) (k:Nat) (hp:prlTin a b i out c k=true) : ∀ex s',(outTin a b i out c k).val=some (ex,s')→LoopOK enTmz (loopN Tryz.f167 1) (stTin a b i out c k) ex s':=by
 simp only[prlTin,Bool.and_eq_true,decide_eq_true_eq]at hp
 obtain⟨⟨⟨⟨⟨⟨⟨h1,h2⟩,h3⟩,h4⟩,h5⟩,h6⟩,h7⟩,h8⟩:=hp
 have l1:=F.nk_len h1
 have l2:=F.nk_len h2
 have o1:=F.nk_ok h1
 have o2:=F.nk_ok h2
 have h3:=F.okBm_iff.1 h3
 have hx:a[i]? = some a[i]:=List.getElem?_eq_getElem h7
 have hxg:a.getD i 0=a[i]:=by simp[hx]
 have hxo:=o1 _ (List.getElem_mem h7)
 clear h1 h2
 refine loop_gen (st:=fun p:List Int×Int×Nat=>stTin a b i p.1 p.2.1 p.2.2) (out:=fun p=>outTin a b i p.1 p.2.1 p.2.2) (I:=fun p=>F.okLm p.1∧(0≤p.2.1∧p.2.1≤9999)∧p.2.2≤b.length∧p.1.length=a.length+b.length) (n:=([8,7,6,5,1,0],[15])) (e:=([7,6,5,1,0],[15])) (r:=([],[])) (fun p=>b.length - p.2.2) ?_ (out,c,k) ⟨h3,⟨h4,h5⟩,h6,h8⟩
 rintro⟨out,c,k⟩ ⟨g0,⟨g1,g2⟩,g3,g4⟩
 simp only at g0 g1 g2 g3 g4
 generalize hxe:a[i]=x at hx hxg hxo
 by_cases hlt:k<b.length
 ·right
  have hy:b[k]? = some b[k]:=List.getElem?_eq_getElem hlt
  have hyo:=o2 _ (List.getElem_mem hlt)
  have hq:i+k<out.length:=by omega
  have ho:out[i+k]? = some out[i+k]:=List.getElem?_eq_getElem hq
  have hoo:=g0 _ (List.getElem_mem hq)
  generalize b[k]=y at hy hyo
  generalize out[i+k]=o at ho hoo
  have hm:=F.mul_bd hxo hyo
  have w0:IntKind.i64.wrap ((i:Int)+(k:Int))=((i+k:Nat):Int):=by rw[wrap_id (by omega) (by omega)];rfl
  have w1:IntKind.i64.wrap (x*y)=x*y:=wrap_id (by omega) (by omega)
  have w2:IntKind.i64.wrap (o+x*y)=o+x*y:=wrap_id (by omega) (by omega)
  have w3:IntKind.i64.wrap (o+x*y+c)=o+x*y+c:=wrap_id (by omega) (by omega)
  have hs:(0:Int)≤o+x*y+c:=by omega
  have w4:IntKind.i64.wrap ((o+x*y+c) % 10000)=(o+x*y+c) % 10000:=wrap_id (by omega) (by omega)
  have w5:IntKind.i64.wrap ((o+x*y+c) / 10000)=(o+x*y+c) / 10000:=wrap_id (by omega) (by omega)
  have m1:(o+x*y+c).tmod 10000=(o+x*y+c) % 10000:=Int.tmod_eq_emod_of_nonneg hs
  have m2:(o+x*y+c).tdiv 10000=(o+x*y+c) / 10000:=Int.tdiv_eq_ediv_of_nonneg hs
  have hw:IntKind.i64.wrap ((k:Int)+1)=((k+1:Nat):Int):=by rw[wrap_id (by omega) (by omega)];rfl
  have i1:idx (k:Int)=some k:=idx_n (by omega)
  have i2:idx (i:Int)=some i:=idx_n (by omega)
  have i3:idx ((i+k:Nat):Int)=some (i+k):=idx_n (by omega)
  have hd:=drop_y hy
  have hod:=drop_y ho
  refine⟨(out.set (i+k) ((o+x*y+c) % 10000),(o+x*y+c) / 10000,k+1),?_,rfl,⟨?_,by simp only;omega,by simp only;omega,by simp only[List.length_set];omega⟩,by simp only;omega,?_⟩
  ·rw[evTinL]
   simp only[Option.bind_some,List.length_map,unInts,cond_true,cast_lt hlt,decide_eq_true hlt,decide_eq_true h7,decide_eq_true hq,w0,i3,hw,getD_at hx,getD_at hy,getD_at ho,w1,w2,w3,m1,m2,w5,stTin]
   rw[List.map_set]
   rfl
  ·intro z hz
   rcases List.mem_or_eq_of_mem_set hz with h | rfl
   ·exact g0 z h
   ·omega
  ·have e1:(out.set (i+k) ((o+x*y+c) % 10000)).drop (i+(k+1))=out.drop (i+k+1):=by
    rw[List.drop_set_of_lt (by omega)]
    rfl
   have e2:(out.set (i+k) ((o+x*y+c) % 10000)).take (i+(k+1))=out.take (i+k)++[(o+x*y+c) % 10000]:=by
    rw[show i+(k+1)=i+k+1 from rfl,List.take_succ_eq_append_getElem (by simpa using hq),List.take_set_of_le (Nat.le_refl _),List.getElem_set_self]
   simp only[outTin,hxg,e1,e2,hd,hod,F.rowD,List.append_assoc,List.singleton_append]
 ·have hk:k=b.length:=by omega
  left
  refine⟨(.exit 2,⟨[(7,vI c),(6,vI i),(5, .own 15),(1, .sl (b.map eI)),(0, .sl (a.map eI))],[(15,⟨false,3,1,out.map eI⟩)]⟩),?_,?_,by simp,rfl⟩
  ·have c2 : ¬(k:Int)<(b.length:Int):=by omega
   rw[evTinL]
   simp only[Option.bind_some,List.length_map,unInts,cond_false,decide_eq_false c2]
  ·simp only[outTin,hk,List.drop_length,F.rowD_nil,List.take_append_drop]
   rfl

end M

theorem F.mulR_cons (b:List Int) (x:Int) (a out:List Int) (h:out≠[]):F.mrow x 0 out b=(F.mrow x 0 out b).headD 0::(F.mrow x 0 out b).tail ∧
  F.mulR b (x::a) out=(F.mrow x 0 out b).headD 0::F.mulR b a (F.mrow x 0 out b).tail:=by
 cases out with
 | nil=>exact absurd rfl h
 | cons o os=>
  cases b with
  | nil=>exact⟨rfl,by rw[F.mulR,F.mrow];rfl⟩
  | cons y b=>exact⟨rfl,by rw[F.mulR,F.mrow];rfl⟩

theorem F.set_app {p q:List Int} {n:Nat} (k:Nat) (v:Int) (h:p.length=n):(p++q).set (n+k) v=p++q.set k v:=by
 rw[List.set_append_right _ _ (by omega),h,Nat.add_sub_cancel_left]

theorem F.getD_app {p q:List Int} {n:Nat} (k:Nat) (h:p.length=n):(p++q).getD (n+k) 0=q.getD k 0:=by
 simp only[List.getD]
 rw[List.getElem?_append_right (by omega),h,Nat.add_sub_cancel_left]

namespace M

theorem evTmzL (a:List Int) (b:List Int) (out:List Int) (i:Nat):((exec enTmz (loopN Tryz.f167 0) (stTmz a b out i)).bind (lessX ([6,5,1,0],[15]) ([5],[15]) ([],[]))).val =
 bif decide ((↑i:Int)<(↑(List.length (List.map eI a)):Int)) then Option.bind (unenc stTin1 (St.mk [(8,(vI 0)),(7,(vI 0)),(6,(vI (↑i:Int))),(5,
 .own 15),(1,AV.sl (List.map eI b)),(0,AV.sl (List.map eI a))] [(15,Blk.mk false 3 1 (List.map eI out))])) fun(z:List Int×List Int×Nat×List Int×Int×Nat)
 =>(fun(q:Nat)=>(fun(q_1:Int)=>(fun(q_2:Option Nat)=>(fun(q_3:List Int×Int)=>(fun(q_4:List Row)=>(fun(q_5:Option (List Int))=>(fun(q_6 :
 Nat)=>bif F.nk (400:Nat) z.1&&F.nk (400:Nat) z.2.1&&F.okBm z.2.2.2.1&&decide ((0:Int)≤q_1)&&decide (q_1≤9999)&&decide (q ≤
 List.length z.2.1)&&decide (z.2.2.1<List.length z.1)&&decide (List.length z.2.2.2.1=List.length z.1+List.length z.2.1)&&true then
 Option.bind q_2 fun z_1=>bif decide (z_1<q_6) then Option.bind q_5 fun z_2=>bif decide (z_1<List.length z_2) then Option.bind q_2 fun(z_3 :
 Nat)=>bif decide (z_3<q_6) then Option.bind q_5 fun z_4=>bif decide (z_3<List.length z_4) then some (Ex.normal,St.mk [(6,(vI (IntKind.wrap
 IntKind.i64 ((↑z.2.2.1:Int)+1)))),(5, .own 15),(1,AV.sl (List.map eI z.2.1)),(0,AV.sl (List.map eI z.1))] [(15,Blk.mk false 3 1 (List.set q_4
 z_3 [(vI (IntKind.i64.wrap (List.getD z_2 z_1 0+q_3.snd)))]))]) else none else none else none else none else none) (List.length (Blk.mk false 3 1
 q_4).rows)) (unenc (List.map eI) q_4)) (List.map eI (List.take (z.2.2.1+q) z.2.2.2.1++q_3.fst))) (F.rowD (List.getD z.1 z.2.2.1 (0:Int)) q_1
 (List.drop (z.2.2.1+q) z.2.2.2.1) (List.drop q z.2.1))) (idx (IntKind.i64.wrap ((↑z.2.2.1:Int)+(↑(List.length (List.map eI
 z.2.1)):Int))))) z.2.2.2.2.1) z.2.2.2.2.2 else some (Ex.exit (0:Nat),St.mk [(5, .own 15)] [(15,Blk.mk false 3 1 (List.map eI out))]):=(execR_bind _ _ _).symm.trans (by kernel_rfl)

theorem lpTmz_ok (a:List Int) (b:List Int) (out:List Int) (i:Nat) (hp:prlTmz a b out i=true) : ∀ex s',(outTmz a b out i).val=some (ex,s')→LoopOK enTmz (loopN Tryz.f167 0) (stTmz a b out i) ex s':=by
 simp only[prlTmz,Bool.and_eq_true,decide_eq_true_eq]at hp
 obtain⟨⟨⟨⟨⟨h1,h2⟩,h3⟩,h4⟩,h5⟩,h6⟩:=hp
 have l1:=F.nk_len h1
 have l2:=F.nk_len h2
 have o1:=F.nk_ok h1
 have o2:=F.nk_ok h2
 have h3:=F.okBm_iff.1 h3
 have h4:=F.zB_iff.1 h4
 refine loop_gen (st:=fun p:List Int×Nat=>stTmz a b p.1 p.2) (out:=fun p=>outTmz a b p.1 p.2) (I:=fun p=>F.okLm p.1∧F.zeroFrom (p.2+b.length) p.1∧p.2≤a.length∧p.1.length=a.length+b.length) (n:=([6,5,1,0],[15])) (e:=([5],[15])) (r:=([],[])) (fun p=>a.length - p.2) ?_ (out,i) ⟨h3,h4,h5,h6⟩
 clear h3 h4 h5 h6
 rintro⟨out,i⟩ ⟨g0,g1,g2,g3⟩
 simp only at g0 g1 g2 g3
 by_cases hlt:i<a.length
 ·right
  have hx:a[i]? = some a[i]:=List.getElem?_eq_getElem hlt
  have hxg:a.getD i 0=a[i]:=by simp[hx]
  have hxo:=o1 _ (List.getElem_mem hlt)
  generalize a[i]=x at hx hxg hxo
  have hod:=F.okLm_drop i g0
  have hzd:F.zeroFrom b.length (out.drop i):=fun z hz=>g1 z (by rw[List.drop_drop]at hz;exact hz)
  have hbl:b.length<(out.drop i).length:=by rw[List.length_drop];omega
  have hD:=F.mrow_D x b (out.drop i) 0 hbl
  obtain⟨k1,k2,k3⟩:=F.rowD_ok hxo b (out.drop i) 0 o2 hod (by decide)
  have kz:=F.rowD_z (x:=x) b (out.drop i) 0 hbl hzd
  have kl:=F.rowD_len x b (out.drop i) 0
  obtain⟨m1,m2⟩:=F.mrow_ok hxo b (out.drop i) 0 o2 hod hzd (by decide)
  have htl:(out.take i).length=i:=by rw[List.length_take];omega
  have hll:(out.take i++(F.rowD x 0 (out.drop i) b).1).length=a.length+b.length:=by rw[List.length_append,kl,htl,List.length_drop];omega
  have hml:(F.mrow x 0 (out.drop i) b).length=(out.drop i).length:=by rw[hD,List.length_set,kl]
  have hgd:=F.getD_app (p:=out.take i) (q:=(F.rowD x 0 (out.drop i) b).1) b.length htl
  have hst:=F.set_app (p:=out.take i) (q:=(F.rowD x 0 (out.drop i) b).1) b.length ((F.rowD x 0 (out.drop i) b).1.getD b.length 0+(F.rowD x 0 (out.drop i) b).2) htl
  rw[←hD]at hst
  rw[kz,Int.zero_add]at hst
  rw[kz]at hgd
  have w0:IntKind.i64.wrap ((i:Int)+(b.length:Int))=((i+b.length:Nat):Int):=by rw[wrap_id (by omega) (by omega)];rfl
  have w1:IntKind.i64.wrap (0+(F.rowD x 0 (out.drop i) b).2)=(F.rowD x 0 (out.drop i) b).2:=by rw[Int.zero_add];exact wrap_id (by omega) (by omega)
  have hw:IntKind.i64.wrap ((i:Int)+1)=((i+1:Nat):Int):=by rw[wrap_id (by omega) (by omega)];rfl
  have i3:idx ((i+b.length:Nat):Int)=some (i+b.length):=idx_n (by omega)
  have hle:decide (i+b.length<(out.take i++(F.rowD x 0 (out.drop i) b).1).length)=true:=decide_eq_true (by omega)
  have hob:=F.okBm_iff.2 g0
  refine⟨(out.take i++F.mrow x 0 (out.drop i) b,i+1),?_,rfl,⟨F.okLm_app (F.okLm_take i g0) m1,?_,by simp only;omega,by simp only[List.length_append,htl,hml,List.length_drop];omega⟩,by simp only;omega,?_⟩
  ·rw[evTmzL]
   simp only[unstTin0,Option.bind_some,List.length_map,unInts,cond_true,Bool.and_true,cast_lt hlt,h1,h2,hob,decide_eq_true hlt,g3,decide_true,Int.le_refl,(by decide:decide ((0:Int)≤9999)=true),Nat.zero_le,Nat.add_zero,List.drop_zero,hxg,w0,i3,hle,hgd,w1,hw,stTmz]
   rw[←hst,List.map_set]
   rfl
  ·intro z hz
   simp only at hz
   rw[List.drop_append,List.drop_of_length_le (by omega),List.nil_append,htl,show i+1+b.length - i=b.length+1 by omega]at hz
   exact m2 z hz
  ·have hne:out.drop i≠[]:=fun e=>by rw[e]at hbl;simp at hbl
   obtain⟨e1,e2⟩:=F.mulR_cons b x (a.drop (i+1)) (out.drop i) hne
   have e3:(out.take i++F.mrow x 0 (out.drop i) b).take (i+1)=out.take i++[(F.mrow x 0 (out.drop i) b).headD 0]:=by
    rw[List.take_append,List.take_of_length_le (by omega),htl,show i+1 - i=1 by omega]
    congr 1
    rw[e1];rfl
   have e4:(out.take i++F.mrow x 0 (out.drop i) b).drop (i+1)=(F.mrow x 0 (out.drop i) b).tail:=by
    rw[List.drop_append,List.drop_of_length_le (by omega),List.nil_append,htl,show i+1 - i=1 by omega,List.drop_one]
   simp only[outTmz,drop_y hx,e2,e3,e4,List.append_assoc,List.singleton_append]
 ·have hk:i=a.length:=by omega
  left
  refine⟨(.exit 0,⟨[(5, .own 15)],[(15,⟨false,3,1,out.map eI⟩)]⟩),?_,?_,by simp,rfl⟩
  ·have c2 : ¬(i:Int)<(a.length:Int):=by omega
   rw[evTmzL]
   simp only[unstTin0,Option.bind_some,List.length_map,unInts,cond_false,Bool.and_true,decide_eq_false c2]
  ·simp only[outTmz,hk,List.drop_length,F.mulR,List.take_append_drop]
   rfl

theorem evTmz (a:List Int) (b:List Int):(runF enTmz false Tryz.f167 [.sl (a.map eI), .sl (b.map eI)]).val =
 Option.bind (idx (IntKind.i64.wrap ((↑(List.length (List.map eI a)):Int)+(↑(List.length (List.map eI b)):Int)))) fun z=>Option.bind (idx
 (IntKind.i64.wrap ((↑(List.length (List.map eI a)):Int)+(↑(List.length (List.map eI b)):Int)))) fun z_1=>bif Nat.ble z z_1&&Nat.ble (z_1*8) 140737488355328 then Option.bind (unenc stTmz1 (St.mk [(6,(vI 0)),(5, .own 15),(1,AV.sl (List.map eI b)),(0,AV.sl (List.map eI a))] [(15,
 Blk.mk false 3 1 (List.replicate z [(vI 0)]))])) fun z=>bif F.nk (400:Nat) z.1&&F.nk (400:Nat) z.2.1 &&
 F.okBm z.2.2.1&&F.zB (z.2.2.2+List.length z.2.1) z.2.2.1&&decide (z.2.2.2≤List.length z.1)&&decide (List.length z.2.2.1 =
 List.length z.1+List.length z.2.1)&&true then Option.bind (unenc encTrm [AV.sl (List.map eI (List.take z.2.2.2 z.2.2.1++F.mulR z.2.1 (List.drop
 z.2.2.2 z.1) (List.drop z.2.2.2 z.2.2.1)))]) fun z=>bif decide (List.length z≤100000) then some (AV.sl (List.map eI (F.trimL
 z)),[]) else none else none else none:=(runFR_val).symm.trans (by kernel_rfl)

def encTmz1 (a:List Int) (b:List Int):List AV:=[.sl (a.map eI), .sl (b.map eI)]

def encTmz (a:(List Int)×(List Int)):List AV:=encTmz1 a.1 a.2

theorem encTmz_inj (a a':(List Int)×(List Int)) (h:encTmz a=encTmz a'):a=a':=by
 simp only[encTmz,encTmz1]at h
 try simp[ints_inj]at h
 grind

theorem unTmz (a:List Int) (b:List Int):unenc encTmz ([AV.sl (List.map eI a),AV.sl (List.map eI b)])=some (a,b):=unenc_of encTmz_inj (a,b) rfl

def resTmz1 (a:List Int) (b:List Int):AV×Heap:=(.sl ((F.lb (F.nv a*F.nv b)).map eI),[])

def preTmz1 (a:List Int) (b:List Int):Bool:=F.nk 400 a&&F.nk 400 b

noncomputable def oTmz:Orc:=orc 167 false encTmz (fun a=>preTmz1 a.1 a.2) fun a=>resTmz1 a.1 a.2

theorem okTmz:OrcOK Tryz.prog noG oTmz:=by
 refine mk_ok Tryz.f167 (keep:=false) (by kernel_rfl) (by kernel_rfl) enTmz_ok mixed (two_loops (x0:=loopN Tryz.f167 0) (x1:=loopN Tryz.f167 1) (by kernel_rfl) (lpo_ok ?_) (lpo_ok ?_)) (by first | exact fun _ _=>⟨rfl,rfl⟩ | (intro h;cases h)) ?_
 ·rintro⟨a,b,out,i⟩ hp
  exact lpTmz_ok a b out i hp
 ·rintro⟨a,b,i,out,c,k⟩ hp
  exact lpTin_ok a b i out c k hp
 rintro⟨a,b⟩ hpre hok
 show(runF enTmz false _ (encTmz1 _ _)).val=some (resTmz1 _ _)
 unfold encTmz1 resTmz1
 rw[evTmz]
 have hpre:(F.nk 400 a&&F.nk 400 b)=true:=hpre
 have hpre2:=hpre
 rw[Bool.and_eq_true]at hpre2
 obtain⟨p1,p2⟩:=hpre2
 have l1:=F.nk_len p1
 have l2:=F.nk_len p2
 have hres:F.trimL (F.mulR b a (List.replicate (a.length+b.length) 0))=F.lb (F.nv a*F.nv b):=by
  obtain⟨m,hm1,hm⟩:=F.nk_of p1
  obtain⟨n,hn1,hn⟩:=F.nk_of p2
  rw[hm1,hn1,F.nv_lb,F.nv_lb]
  exact F.mul_lb m n
 have hrep : ∀n:Nat,List.replicate n [vI (0:Int)]=(List.replicate n (0:Int)).map eI:=fun n=>by rw[List.map_replicate];rfl
 have w0:IntKind.i64.wrap ((a.length:Int)+(b.length:Int))=((a.length+b.length:Nat):Int):=by rw[wrap_id (by omega) (by omega)];rfl
 have i0:idx ((a.length+b.length:Nat):Int)=some (a.length+b.length):=idx_n (by omega)
 have hb1:Nat.ble (a.length+b.length) (a.length+b.length)=true:=ble_t (Nat.le_refl _)
 have hb2:Nat.ble ((a.length+b.length)*8) 140737488355328=true:=ble_t (by omega)
 have hok:F.okBm (List.replicate (a.length+b.length) 0)=true:=F.okBm_iff.2 fun x hx=>by rw[(List.mem_replicate.1 hx).2];decide
 have hz:F.zB (0+b.length) (List.replicate (a.length+b.length) 0)=true:=F.zB_iff.2 fun x hx=>(List.mem_replicate.1 (List.mem_of_mem_drop hx)).2
 have hl:decide ((F.mulR b a (List.replicate (a.length+b.length) 0)).length≤100000)=true:=decide_eq_true (by
  have h:=(F.mulR_eq (F.nk_ok p2) a (List.replicate (a.length+b.length) 0) (F.nk_ok p1) (F.okBm_iff.1 hok) (fun x hx=>(List.mem_replicate.1 (List.mem_of_mem_drop hx)).2) (by rw[List.length_replicate];exact Nat.le_refl _)).2.2
  rw[h,List.length_replicate];omega)
 simp only[unTrm,unstTmz0,Option.bind_some,List.length_map,cond_true,Bool.and_true,Bool.true_and,p1,p2,w0,i0,hb1,hb2,hrep,hok,hz,List.length_replicate,decide_true,Nat.zero_le,List.take_zero,List.nil_append,List.drop_zero,hl,hres]
 done

theorem unTrm_1 (n:Int):unenc encTrm [.sl [[vI n]]]=some [n]:=unTrm [n]

theorem trim_1 {n:Int} (h1:0≤n) (h2:n≤9999):F.trimL [n]=F.lb n.toNat:=by
 rw[F.trimL_eq (F.okLm_cons ⟨h1,h2⟩ F.okLm_nil)]
 congr 1
 simp[F.vl]

theorem nk_up {j k:Nat} {l:List Int} (h:F.nk j l=true) (hjk:j≤k):F.nk k l=true:=by
 obtain⟨m,rfl,hm⟩:=F.nk_of h
 exact F.nk_lb (F.lb_lt hm hjk)

theorem nk_1 {n:Int} (h2:n≤9999) {k:Nat} (hk:1≤k):F.nk k (F.lb n.toNat)=true:=F.nk_lb (F.lb_lt (m:=1) (by omega) hk)

noncomputable def enSml:Env:=envH ty noG lks [oTrm,oTmz] [] [] []

theorem enSml_ok:EnvOK Tryz.prog enSml:=by
 refine envH_ok lks_ok ty_ok ?_ ?_
 ·simp only[List.forall_mem_cons]
  exact⟨okTrm,okTmz,by simp⟩
 ·simp

theorem evSml (a:List Int) (n:Int):(runF enSml false Tryz.f237 [.sl (a.map eI),vI n]).val =
 Option.bind (unenc encTrm [AV.sl [[(vI n)]]]) fun z=>bif decide (List.length z≤100000) then Option.bind (unenc encTmz [AV.sl (List.map eI a),
 AV.sl (List.map eI (F.trimL z))]) fun z=>bif F.nk (400:Nat) z.1&&F.nk (400:Nat) z.2 then some (AV.sl (List.map eI (F.lb (F.nv z.1 *
 F.nv z.2))),[]) else none else none:=(runFR_val).symm.trans (by kernel_rfl)

def encSml1 (a:List Int) (n:Int):List AV:=[.sl (a.map eI),vI n]

def encSml (a:(List Int)×Int):List AV:=encSml1 a.1 a.2

theorem encSml_inj (a a':(List Int)×Int) (h:encSml a=encSml a'):a=a':=by
 simp only[encSml,encSml1]at h
 try simp[ints_inj]at h
 grind

theorem unSml (a:List Int) (n:Int):unenc encSml ([AV.sl (List.map eI a),(vI n)])=some (a,n):=unenc_of encSml_inj (a,n) rfl

def resSml1 (a:List Int) (n:Int):AV×Heap:=(.sl ((F.lb (F.nv a*n.toNat)).map eI),[])

def preSml1 (a:List Int) (n:Int):Bool:=F.nk 300 a&&decide (0≤n)&&decide (n≤9999)

noncomputable def oSml:Orc:=orc 237 false encSml (fun a=>preSml1 a.1 a.2) fun a=>resSml1 a.1 a.2

theorem okSml:OrcOK Tryz.prog noG oSml:=by
 refine mk_ok Tryz.f237 (keep:=false) (by kernel_rfl) (by kernel_rfl) enSml_ok mixed (no_loops (by kernel_rfl)) (by first | exact fun _ _=>⟨rfl,rfl⟩ | (intro h;cases h)) ?_
 rintro⟨a,n⟩ hpre hok
 show(runF enSml false _ (encSml1 _ _)).val=some (resSml1 _ _)
 unfold encSml1 resSml1
 rw[evSml]
 have hpre:(F.nk 300 a&&decide (0≤n)&&decide (n≤9999))=true:=hpre
 have hpre2:=hpre
 rw[Bool.and_eq_true,Bool.and_eq_true,decide_eq_true_eq,decide_eq_true_eq]at hpre2
 simp only[unTmz,Option.bind_some,cond_true,Bool.true_and,nk_up hpre2.1.1 (by decide:300≤400),unTrm_1,trim_1 hpre2.1.2 hpre2.2,nk_1 hpre2.2 (by decide:1≤400),F.nv_lb]
 rfl

end M

end Go.Proofs.YtbeobbjiogbdlaaGreatDoor
