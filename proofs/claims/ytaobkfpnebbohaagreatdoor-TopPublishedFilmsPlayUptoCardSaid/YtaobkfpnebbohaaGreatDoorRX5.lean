/- What is proved here: the statement TopPublishedFilmsPlay where what it reads is of bulk at most 1048576: the law returns true, and each argument reads as it did; tied to the program's text where variables are listed. -/
import Derived.Lib.AtoiErrMem
import Derived.Lib.Atoi
import Derived.Lib.Replace
import Derived.Lib.AppendStr
import Derived.Shelf.Strings.Builder1
import Derived.Lib.AppendZeros
import Derived.Lib.ReplaceLaws
import Derived.Lib.LaidU8
import Derived.MakeChecks
import Derived.Shelf.Vars
import Derived.Test.YtaobkfpnebbohaaGreatDoorRows
import Derived.Test.YtaobkfpnebbohaaGreatDoorChecked
import Derived.Test.YtaobkfpnebbohaaGreatDoorCards
import Derived.Test.YtaobkfpnebbohaaGreatDoorTie
import Derived.SevenTiedAt
import Derived.Lay
import Derived.Test.YtaobkfpnebbohaaGreatDoorRX4
open Go.Proofs.Tryz
open Array renaming mk→aA
open Bool renaming and_eq_true→aG,and_self→bT,and_true→aS,false_and→qD,false_or→nF,not_false→dt,not_true→dC,or_eq_false_iff→jQ,or_self→FH,true_and→fM
open ByteArray renaming extract→vV,mk→az,size→aJ,size_append→gE,size_extract→K1,toList→cU
open Go.IntKind renaming i64→am,wrap→bQ
open Go.Lib renaming cut→qz,hasPrefix→B3,index→ja,replaceAll→UZ,replaceK→Ca,replaceK_hit→agU
open Int renaming eq_ofNat_of_zero_le→nG,tdiv→ix,tmod→vT,tmod_eq_emod_of_nonneg→FI
open List renaming all→fx,all_cons→K7,all_eq_true→bP,any→v6,any_eq_false→BW,append_assoc→cq,cons_append→k6,countP_append→aFW,drop→bn,drop_drop→sE,drop_eq_nil_of_le→qr,drop_zero→df,flatMap_cons→FM,foldl→Ls,foldl_append→Ln,foldl_cons→lY,foldl_nil→KV,forall_mem_cons→gQ,getD→al,getD_eq_getElem?_getD→vL,getElem?_cons_succ→qu,getElem?_drop→sH,getElem?_eq_getElem→bC,getElem?_eq_some_iff→cO,getElem?_map→dM,getElem?_zipIdx→FJ,getElem?_zip_eq_some→aFX,getElem_mem→iZ,isEmpty_nil→agT,isPrefixOf→Lj,length→ae,length_append→ck,length_cons→gq,length_drop→fe,length_map→aN,length_nil→i6,length_range→sN,length_take→eY,length_zipIdx→agS,map→ab,map_append→l7,map_nil→sD,map_take→vX,mem_append→dn,mem_cons→cK,mem_cons_of_mem→iH,mem_cons_self→dN,mem_iff_getElem→pi,mem_map→eQ,mem_of_getElem?→cL,nil_append→eh,not_mem_nil→B9,size_toArray→l3,take→eG,take_add_one→vZ,take_left→nH,take_length→B7,take_of_length_le→B6,take_succ_cons→KT,zipIdx→lh
open Nat renaming add_comm→U4,add_zero→jP,beq→bk,ble→aP,blt→lV,le_refl→bR,le_trans→iW,zero_add→gD,zero_le→cf
open Option renaming bind→ai,bind_some→ar,getD_some→k7,map_eq_some_iff→eZ,toList_some→aFV
open Option.some renaming inj→jC,injEq→eX
open UInt8 renaming ofNat→U6,toNat→dF
noncomputable section
namespace Go.Proofs.YtaobkfpnebbohaaGreatDoor
open Go Go.RowKit
set_option linter.unusedVariables false
set_option linter.unusedSimpArgs false
set_option maxHeartbeats 1000000
def nr (s:aR) (l:List aR):Int:=
 bif !g8 s.group || !g8 s.name then 5 else bif l.any (jv s) then 7 else bif !Fk s.gM then 3 else bif s.fH&&l.any (jz s) then 12 else lO s.uri
def agd (s:ByteArray):Bool:= !F.seq s ⟨#[]⟩
def nv (s:bu) (l:List bu) (m:List aR):Int:=
 bif !g8 s.name then 5 else bif l.any (fun o=>F.seq o.name s.name) then 7 else bif lO s.uri != 0 then 3 else
 bif F.out s.ip 1 10000000000||F.out s.jm s.ip 10000000000 then 1 else bif F.out s.width 0 20000||F.out s.dL 0 20000||((s.width==0) != (s.dL==0)) then 1 else
 bif agd s.sound && !m.any (fun o=>F.seq o.group s.sound) then 5 else 0
namespace M
section
variable (l:List aR) (s:aR) (k:Nat)
def zK:St:=⟨[(8,vI k),(7,vI l.length),(1, .fn 98 [.bD (bg s) 0]),(0, .sl (l.map bg))],[]⟩
def zL (a:(List aR)×aR×Nat):St:=zK a.1 a.2.1 a.2.2
theorem awm a a' (h:zL a=zL a'):a=a':=by
 simp only[zL,zK]at h
 try simp[iN,nV]at h
 grind
theorem awn: ac zL (St.mk [(8,(vI (0:Int))),(7,(vI (↑(ae l):Int))),(1,AV.fn (98:FuncId) [AV.bD [(vS s.group),(vS s.name),(vS s.gM),(vB s.fH),(vS s.uri)] (0 :
 Nat)]),(0,AV.sl (ab bg l))] [])=some (l,s,0):=ax awm (l,s,0) rfl
def zM:T (Ex×St):= .bM (F.found (cu (jv s) k (l.drop k))) (.ret (.ret,⟨[(4,vI ((F.fp (cu (jv s) k (l.drop k)) 0:Nat):Int))],[]⟩)) (.ret (.exit 0,⟨[],[]⟩))
def Rr (s:aR) (k:Nat):Bool:=decide (l.length<=9223372036854775807)&&decide (k<=l.length)
def awo:Nat×(St->T (Ex×St)):=(2,lpo [8,7,1,0] [] zL (bU Rr) (bU zM))
def El:Env:=bq ty au bp [acs] [] [] [awo]
theorem awp:aZ Tryz.prog El:=bG (aI av9 bF)
theorem Rs:((exec El (aw f136 0) (zK l s k)).bind (bE ([8,7,1,0],[]) ([],[]) ([4],[]))).val =
 bif decide ((↑k:Int)<(↑(ae l):Int)) then ai (ac (ab bg) (ab bg l)) fun z=>bif decide (k<ae z) then
 ai (ac zG [AV.agg [(vS (al z k (aR.mk (az (aA [])) (az (aA [])) (az (aA [])) false (az
 (aA [])))).group),(vS (al z k (aR.mk (az (aA [])) (az (aA [])) (az (aA [])) false (az (aA
 [])))).name),(vS (al z k (aR.mk (az (aA [])) (az (aA [])) (az (aA [])) false (az (aA [])))).gM),
 (vB (al z k (aR.mk (az (aA [])) (az (aA [])) (az (aA [])) false (az (aA [])))).fH),(vS
 (al z k (aR.mk (az (aA [])) (az (aA [])) (az (aA [])) false (az (aA [])))).uri)],AV.bD [(vS
 s.group),(vS s.name),(vS s.gM),(vB s.fH),(vS s.uri)] (0:Nat)]) fun z=>bif jv z.2 z.1 then some (Ex.ret,St.mk [(4,(vI (↑k:Int)))] [])
 else some (Ex.normal,St.mk [(8,(vI (am.wrap ((↑k:Int)+1)))),(7,(vI (↑(ae l):Int))),(1,AV.fn (98:FuncId) [AV.bD [(vS
 s.group),(vS s.name),(vS s.gM),(vB s.fH),(vS s.uri)] (0:Nat)]),(0,AV.sl (ab bg l))] []) else none else some (Ex.exit (0:Nat),St.mk [] []):=by kernel_rfl
theorem awq (l:List aR) (s:aR) (k:Nat) (hp:Rr l s k=true) : ∀ex s',(zM l s k).val=some (ex,s')->ba El (aw f136 0) (zK l s k) ex s':=by
 simp only[Rr,aG,aM]at hp
 refine cE (st:=zK l s) (out:=zM l s) (I:=fun k=>k<=l.length) (n:=([8,7,1,0],[])) (e:=([],[])) (r:=([4],[])) (fun k=>l.length - k) ?_ k hp.2
 intro k hk
 by_cases hlt:k<l.length
 .have hy:l[k]? = some l[k]:=bC hlt
  generalize l[k]=y at hy
  have hd:=j6 hy
  cases hc:(jv s) y
  .right
   refine⟨k+1,?_,rfl,hlt,by omega,?_⟩
   .rw[Rs]
    simp only[acr,py,ar,tB,ak,ap,bA hlt,aj hlt,ch hlt hp.1,getD_at hy,hc,zK]
    try rfl
   .simp only[zM,hd,cu,hc,ap]
  .left
   refine⟨(.ret,⟨[(4,vI k)],[]⟩),?_,?_,by simp,rfl⟩
   .rw[Rs]
    simp only[acr,py,ar,tB,ak,bA hlt,aj hlt,ch hlt hp.1,getD_at hy,hc]
   .simp only[zM,hd,cu,hc,ak,F.found,F.fp]
    rfl
 .have:k=l.length:=by omega
  subst this
  left
  refine⟨(.exit 0,⟨[],[]⟩),?_,?_,by simp,rfl⟩
  .rw[Rs];simp
  .simp[zM,cu,F.found,T.val]
theorem awr:(aB El false f136 [.sl (l.map bg), .fn 98 [.bD (bg s) 0]]).val =
 ai (ac zL (St.mk [(8,(vI 0)),(7,(vI (↑(ae (ab bg l)):Int))),(1,AV.fn (98:FuncId) [AV.bD [(vS s.group),(vS s.name),(vS
 s.gM),(vB s.fH),(vS s.uri)] (0:Nat)]),(0,AV.sl (ab bg l))] [])) fun z=>bif decide (ae z.1<=9223372036854775807)&&decide (z.2.2<=ae z.1)&&true then bif F.found (cu (jv z.2.1) z.2.2 (bn z.2.2 z.1)) then some ((vI (↑(F.fp
 (cu (jv z.2.1) z.2.2 (bn z.2.2 z.1)) (0:Nat)):Int)),[]) else some ((vI (-1:Int)),[]) else none:=by kernel_rfl
def Jj:List AV:=[.sl (l.map bg), .fn 98 [.bD (bg s) 0]]
def zN (a:(List aR)×aR):List AV:=Jj a.1 a.2
theorem aws a a' (h:zN a=zN a'):a=a':=by
 simp only[zN,Jj]at h
 try simp[iN,nV]at h
 grind
theorem awt (s_group:ByteArray) (s_name:ByteArray) (s_lang:ByteArray) (s_dflt:Bool) (s_uri:ByteArray):ac zN ([AV.sl (ab bg l),AV.fn (98:FuncId) [AV.bD [(vS s_group),(vS s_name),(vS s_lang),(vB s_dflt),(vS s_uri)] (0:Nat)]])=some (l,(aR.mk s_group s_name s_lang s_dflt s_uri)):=ax aws (l,(aR.mk s_group s_name s_lang s_dflt s_uri)) rfl
def Rt:AV×Heap:=(vI (ic (cu (jv s) 0 l)),[])
def awu (l:List aR) (s:aR):Bool:=true
def oI1:aW:=aY 136 true zN (aT awu) (aT Rt)
theorem awv:aX Tryz.prog au oI1:=by
 refine cQ f136 awp (de (x0:=aw f136 0) (by kernel_rfl) (bS ?_)) ?_
 .rintro⟨l,s,k⟩ hp
  exact awq l s k hp
 rintro⟨l,s⟩ hpre hok
 show(aB El false _ (Jj _ _)).val=some (Rt _ _)
 unfold Jj Rt
 rw[awr]
 have hx:l.length<=9223372036854775807:=by simpa using(jH (hok _ (dN ..))).1
 simp only[awn,ar,aN,ak,aS,hx,df,cf,decide_true,ic]
 cases F.found (cu (jv s) 0 l)<;>rfl
def Ru:Env:=bq ty au bp [oI1] [] [] []
theorem aww:aZ Tryz.prog Ru:=bG (aI awv bF)
theorem awx:(aB Ru false f97 [.sl (l.map bg), .fn 98 [.bD (bg s) 0]]).val =
 ai (ac zN [AV.sl (ab bg l),AV.fn (98:FuncId) [AV.bD [(vS s.group),(vS s.name),(vS s.gM),(vB s.fH),(vS s.uri)] (0:Nat)]]) fun z=>some ((vB (decide ((0:Int)<=ic (cu (jv z.2) (0:Nat) z.1)))),[]):=by kernel_rfl
def Jk:List AV:=[.sl (l.map bg), .fn 98 [.bD (bg s) 0]]
def Jl (a:(List aR)×aR):List AV:=Jk a.1 a.2
theorem awy a a' (h:Jl a=Jl a'):a=a':=by
 simp only[Jl,Jk]at h
 try simp[iN,nV]at h
 grind
def Rv:AV×Heap:=(vB (l.any (jv s)),[])
def awz (l:List aR) (s:aR):Bool:=true
def awA:aW:=aY 97 true Jl (aT awz) (aT Rv)
theorem acA:aX Tryz.prog au awA:=by
 refine cx f97 aww ?_
 rintro⟨l,s⟩ hpre hok
 show(aB Ru false _ (Jk _ _)).val=some (Rv _ _)
 unfold Jk Rv
 rw[awx]
 simp only[awt,py,ar,Fj]
def zO:St:=⟨[(8,vI k),(7,vI l.length),(1, .fn 100 [.bD (bg s) 0]),(0, .sl (l.map bg))],[]⟩
def zP (a:(List aR)×aR×Nat):St:=zO a.1 a.2.1 a.2.2
theorem awB a a' (h:zP a=zP a'):a=a':=by
 simp only[zP,zO]at h
 try simp[iN,nV]at h
 grind
theorem awC: ac zP (St.mk [(8,(vI (0:Int))),(7,(vI (↑(ae l):Int))),(1,AV.fn (100:FuncId) [AV.bD [(vS s.group),(vS s.name),(vS s.gM),(vB s.fH),(vS s.uri)] (0 :
 Nat)]),(0,AV.sl (ab bg l))] [])=some (l,s,0):=ax awB (l,s,0) rfl
def zQ:T (Ex×St):= .bM (F.found (cu (jz s) k (l.drop k))) (.ret (.ret,⟨[(4,vI ((F.fp (cu (jz s) k (l.drop k)) 0:Nat):Int))],[]⟩)) (.ret (.exit 0,⟨[],[]⟩))
def Rw (s:aR) (k:Nat):Bool:=decide (l.length<=9223372036854775807)&&decide (k<=l.length)
def awD:Nat×(St->T (Ex×St)):=(2,lpo [8,7,1,0] [] zP (bU Rw) (bU zQ))
def Em:Env:=bq ty au bp [acu] [] [] [awD]
theorem awE:aZ Tryz.prog Em:=bG (aI awd bF)
theorem Rx:((exec Em (aw f136 0) (zO l s k)).bind (bE ([8,7,1,0],[]) ([],[]) ([4],[]))).val =
 bif decide ((↑k:Int)<(↑(ae l):Int)) then ai (ac (ab bg) (ab bg l)) fun z=>bif decide (k<ae z) then
 ai (ac zH [AV.agg [(vS (al z k (aR.mk (az (aA [])) (az (aA [])) (az (aA [])) false (az
 (aA [])))).group),(vS (al z k (aR.mk (az (aA [])) (az (aA [])) (az (aA [])) false (az (aA
 [])))).name),(vS (al z k (aR.mk (az (aA [])) (az (aA [])) (az (aA [])) false (az (aA [])))).gM),
 (vB (al z k (aR.mk (az (aA [])) (az (aA [])) (az (aA [])) false (az (aA [])))).fH),(vS
 (al z k (aR.mk (az (aA [])) (az (aA [])) (az (aA [])) false (az (aA [])))).uri)],AV.bD [(vS
 s.group),(vS s.name),(vS s.gM),(vB s.fH),(vS s.uri)] (0:Nat)]) fun z=>bif jz z.2 z.1 then some (Ex.ret,St.mk [(4,(vI (↑k:Int)))] [])
 else some (Ex.normal,St.mk [(8,(vI (am.wrap ((↑k:Int)+1)))),(7,(vI (↑(ae l):Int))),(1,AV.fn (100:FuncId) [AV.bD [(vS
 s.group),(vS s.name),(vS s.gM),(vB s.fH),(vS s.uri)] (0:Nat)]),(0,AV.sl (ab bg l))] []) else none else some (Ex.exit (0:Nat),St.mk [] []):=by kernel_rfl
theorem awF (l:List aR) (s:aR) (k:Nat) (hp:Rw l s k=true) : ∀ex s',(zQ l s k).val=some (ex,s')->ba Em (aw f136 0) (zO l s k) ex s':=by
 simp only[Rw,aG,aM]at hp
 refine cE (st:=zO l s) (out:=zQ l s) (I:=fun k=>k<=l.length) (n:=([8,7,1,0],[])) (e:=([],[])) (r:=([4],[])) (fun k=>l.length - k) ?_ k hp.2
 intro k hk
 by_cases hlt:k<l.length
 .have hy:l[k]? = some l[k]:=bC hlt
  generalize l[k]=y at hy
  have hd:=j6 hy
  cases hc:(jz s) y
  .right
   refine⟨k+1,?_,rfl,hlt,by omega,?_⟩
   .rw[Rx]
    simp only[act,py,ar,tB,ak,ap,bA hlt,aj hlt,ch hlt hp.1,getD_at hy,hc,zO]
    try rfl
   .simp only[zQ,hd,cu,hc,ap]
  .left
   refine⟨(.ret,⟨[(4,vI k)],[]⟩),?_,?_,by simp,rfl⟩
   .rw[Rx]
    simp only[act,py,ar,tB,ak,bA hlt,aj hlt,ch hlt hp.1,getD_at hy,hc]
   .simp only[zQ,hd,cu,hc,ak,F.found,F.fp]
    rfl
 .have:k=l.length:=by omega
  subst this
  left
  refine⟨(.exit 0,⟨[],[]⟩),?_,?_,by simp,rfl⟩
  .rw[Rx];simp
  .simp[zQ,cu,F.found,T.val]
theorem awG:(aB Em false f136 [.sl (l.map bg), .fn 100 [.bD (bg s) 0]]).val =
 ai (ac zP (St.mk [(8,(vI 0)),(7,(vI (↑(ae (ab bg l)):Int))),(1,AV.fn (100:FuncId) [AV.bD [(vS s.group),(vS s.name),(vS
 s.gM),(vB s.fH),(vS s.uri)] (0:Nat)]),(0,AV.sl (ab bg l))] [])) fun z=>bif decide (ae z.1<=9223372036854775807)&&decide (z.2.2<=ae z.1)&&true then bif F.found (cu (jz z.2.1) z.2.2 (bn z.2.2 z.1)) then some ((vI (↑(F.fp
 (cu (jz z.2.1) z.2.2 (bn z.2.2 z.1)) (0:Nat)):Int)),[]) else some ((vI (-1:Int)),[]) else none:=by kernel_rfl
def Jm:List AV:=[.sl (l.map bg), .fn 100 [.bD (bg s) 0]]
def zR (a:(List aR)×aR):List AV:=Jm a.1 a.2
theorem awH a a' (h:zR a=zR a'):a=a':=by
 simp only[zR,Jm]at h
 try simp[iN,nV]at h
 grind
theorem awI (s_group:ByteArray) (s_name:ByteArray) (s_lang:ByteArray) (s_dflt:Bool) (s_uri:ByteArray):ac zR ([AV.sl (ab bg l),AV.fn (100:FuncId) [AV.bD [(vS s_group),(vS s_name),(vS s_lang),(vB s_dflt),(vS s_uri)] (0:Nat)]])=some (l,(aR.mk s_group s_name s_lang s_dflt s_uri)):=ax awH (l,(aR.mk s_group s_name s_lang s_dflt s_uri)) rfl
def Ry:AV×Heap:=(vI (ic (cu (jz s) 0 l)),[])
def awJ (l:List aR) (s:aR):Bool:=true
def oI2:aW:=aY 136 true zR (aT awJ) (aT Ry)
theorem awK:aX Tryz.prog au oI2:=by
 refine cQ f136 awE (de (x0:=aw f136 0) (by kernel_rfl) (bS ?_)) ?_
 .rintro⟨l,s,k⟩ hp
  exact awF l s k hp
 rintro⟨l,s⟩ hpre hok
 show(aB Em false _ (Jm _ _)).val=some (Ry _ _)
 unfold Jm Ry
 rw[awG]
 have hx:l.length<=9223372036854775807:=by simpa using(jH (hok _ (dN ..))).1
 simp only[awC,ar,aN,ak,aS,hx,df,cf,decide_true,ic]
 cases F.found (cu (jz s) 0 l)<;>rfl
def Rz:Env:=bq ty au bp [oI2] [] [] []
theorem awL:aZ Tryz.prog Rz:=bG (aI awK bF)
theorem awM:(aB Rz false f97 [.sl (l.map bg), .fn 100 [.bD (bg s) 0]]).val =
 ai (ac zR [AV.sl (ab bg l),AV.fn (100:FuncId) [AV.bD [(vS s.group),(vS s.name),(vS s.gM),(vB s.fH),(vS s.uri)] (0:Nat)]]) fun(z :
 List aR×aR)=>some ((vB (decide ((0:Int)<=ic (cu (jz z.2) (0:Nat) z.1)))),[]):=by kernel_rfl
def Jo:List AV:=[.sl (l.map bg), .fn 100 [.bD (bg s) 0]]
def Jp (a:(List aR)×aR):List AV:=Jo a.1 a.2
theorem awN a a' (h:Jp a=Jp a'):a=a':=by
 simp only[Jp,Jo]at h
 try simp[iN,nV]at h
 grind
def RA:AV×Heap:=(vB (l.any (jz s)),[])
end
section
variable (l:List bu) (s:bu) (k:Nat)
def awO (l:List aR) (s:aR):Bool:=true
def awP:aW:=aY 97 true Jp (aT awO) (aT RA)
theorem awQ:aX Tryz.prog au awP:=by
 refine cx f97 awL ?_
 rintro⟨l,s⟩ hpre hok
 show(aB Rz false _ (Jo _ _)).val=some (RA _ _)
 unfold Jo RA
 rw[awM]
 simp only[awI,py,ar,Fj]
def zS:St:=⟨[(8,vI k),(7,vI l.length),(1, .fn 103 [.bD (bO s) 0]),(0, .sl (l.map bO))],[]⟩
def zT (a:(List bu)×bu×Nat):St:=zS a.1 a.2.1 a.2.2
theorem awR a a' (h:zT a=zT a'):a=a':=by
 simp only[zT,zS]at h
 try simp[oJ,pz]at h
 grind
theorem awS: ac zT (St.mk [(8,(vI (0:Int))),(7,(vI (↑(ae l):Int))),(1,AV.fn (103:FuncId) [AV.bD [(vS s.name),(vS s.uri),(vI s.ip),(vI s.jm),(vI s.width),(vI
 s.dL),(vS s.sound)] (0:Nat)]),(0,AV.sl (ab bO l))] [])=some (l,s,0):=ax awR (l,s,0) rfl
def zU:T (Ex×St):= .bM (F.found (cu (fun o=>F.seq o.name s.name) k (l.drop k))) (.ret (.ret,⟨[(4,vI ((F.fp (cu (fun o=>F.seq o.name s.name) k (l.drop k)) 0:Nat):Int))],[]⟩)) (.ret (.exit 0,⟨[],[]⟩))
def RB (s:bu) (k:Nat):Bool:=decide (l.length<=9223372036854775807)&&decide (k<=l.length)
def awT:Nat×(St->T (Ex×St)):=(2,lpo [8,7,1,0] [] zT (bU RB) (bU zU))
def En:Env:=bq ty au bp [acw] [] [] [awT]
theorem awU:aZ Tryz.prog En:=bG (aI awh bF)
theorem RD:((exec En (aw f137 0) (zS l s k)).bind (bE ([8,7,1,0],[]) ([],[]) ([4],[]))).val =
 bif decide ((↑k:Int)<(↑(ae l):Int)) then ai (ac (ab bO) (ab bO l)) fun z=>bif decide (k<ae z) then
 ai (ac zI [AV.agg [(vS (al z k (bu.mk (az (aA [])) (az (aA [])) (0:Int) (0:Int) (0:Int) (0:Int)
 (az (aA [])))).name),(vS (al z k (bu.mk (az (aA [])) (az (aA [])) (0:Int) (0:Int) (0:Int) (0:Int)
 (az (aA [])))).uri),(vI (al z k (bu.mk (az (aA [])) (az (aA [])) (0:Int) (0:Int) (0:Int) (0:Int)
 (az (aA [])))).ip),(vI (al z k (bu.mk (az (aA [])) (az (aA [])) (0:Int) (0:Int) (0:Int) (0:Int)
 (az (aA [])))).jm),(vI (al z k (bu.mk (az (aA [])) (az (aA [])) (0:Int) (0:Int) (0:Int) (0:Int)
 (az (aA [])))).width),(vI (al z k (bu.mk (az (aA [])) (az (aA [])) (0:Int) (0:Int) (0:Int) (0:Int)
 (az (aA [])))).dL),(vS (al z k (bu.mk (az (aA [])) (az (aA [])) (0:Int) (0:Int) (0:Int) (0:Int)
 (az (aA [])))).sound)],AV.bD [(vS s.name),(vS s.uri),(vI s.ip),(vI s.jm),(vI s.width),(vI s.dL),(vS s.sound)] (0:Nat)]) fun z=>bif F.seq z.1.name z.2.name then some (Ex.ret,St.mk [(4,(vI (↑k:Int)))] []) else some (Ex.normal,St.mk [(8,(vI (am.wrap ((↑k:Int) +
 (1:Int))))),(7,(vI (↑(ae l):Int))),(1,AV.fn (103:FuncId) [AV.bD [(vS s.name),(vS s.uri),(vI s.ip),(vI s.jm),(vI s.width),(vI s.dL),(vS
 s.sound)] (0:Nat)]),(0,AV.sl (ab bO l))] []) else none else some (Ex.exit (0:Nat),St.mk [] []):=by kernel_rfl
theorem awV (l:List bu) (s:bu) (k:Nat) (hp:RB l s k=true) : ∀ex s',(zU l s k).val=some (ex,s')->ba En (aw f137 0) (zS l s k) ex s':=by
 simp only[RB,aG,aM]at hp
 refine cE (st:=zS l s) (out:=zU l s) (I:=fun k=>k<=l.length) (n:=([8,7,1,0],[])) (e:=([],[])) (r:=([4],[])) (fun k=>l.length - k) ?_ k hp.2
 intro k hk
 by_cases hlt:k<l.length
 .have hy:l[k]? = some l[k]:=bC hlt
  generalize l[k]=y at hy
  have hd:=j6 hy
  cases hc:(fun o=>F.seq o.name s.name) y
  .right
   refine⟨k+1,?_,rfl,hlt,by omega,?_⟩
   .rw[RD]
    simp only[acv,rl,ar,MU,ak,ap,bA hlt,aj hlt,ch hlt hp.1,getD_at hy,hc,zS]
    try rfl
   .simp only[zU,hd,cu,hc,ap]
  .left
   refine⟨(.ret,⟨[(4,vI k)],[]⟩),?_,?_,by simp,rfl⟩
   .rw[RD]
    simp only[acv,rl,ar,MU,ak,bA hlt,aj hlt,ch hlt hp.1,getD_at hy,hc]
   .simp only[zU,hd,cu,hc,ak,F.found,F.fp]
    rfl
 .have:k=l.length:=by omega
  subst this
  left
  refine⟨(.exit 0,⟨[],[]⟩),?_,?_,by simp,rfl⟩
  .rw[RD];simp
  .simp[zU,cu,F.found,T.val]
theorem awW:(aB En false f137 [.sl (l.map bO), .fn 103 [.bD (bO s) 0]]).val =
 ai (ac zT (St.mk [(8,(vI 0)),(7,(vI (↑(ae (ab bO l)):Int))),(1,AV.fn (103:FuncId) [AV.bD [(vS s.name),(vS s.uri),(vI
 s.ip),(vI s.jm),(vI s.width),(vI s.dL),(vS s.sound)] (0:Nat)]),(0,AV.sl (ab bO l))] [])) fun z=>bif decide
 (ae z.1<=9223372036854775807)&&decide (z.2.2<=ae z.1)&&true then bif F.found (cu (fun(o:bu)=>F.seq o.name
 z.2.1.name) z.2.2 (bn z.2.2 z.1)) then some ((vI (↑(F.fp (cu (fun(o:bu)=>F.seq o.name z.2.1.name) z.2.2 (bn z.2.2
 z.1)) (0:Nat)):Int)),[]) else some ((vI (-1:Int)),[]) else none:=by kernel_rfl
def Jq:List AV:=[.sl (l.map bO), .fn 103 [.bD (bO s) 0]]
def zV (a:(List bu)×bu):List AV:=Jq a.1 a.2
theorem awX a a' (h:zV a=zV a'):a=a':=by
 simp only[zV,Jq]at h
 try simp[oJ,pz]at h
 grind
theorem awY (s_name:ByteArray) (s_uri:ByteArray) (s_mean:Int) (s_peak:Int) (s_width:Int) (s_height:Int) (s_sound:ByteArray):ac zV ([AV.sl (ab bO l),AV.fn (103:FuncId) [AV.bD [(vS s_name),(vS s_uri),(vI s_mean),(vI s_peak),(vI s_width),(vI s_height),(vS s_sound)] (0:Nat)]])=some (l,(bu.mk s_name s_uri s_mean s_peak s_width s_height s_sound)):=ax awX (l,(bu.mk s_name s_uri s_mean s_peak s_width s_height s_sound)) rfl
def RE:AV×Heap:=(vI (ic (cu (fun o=>F.seq o.name s.name) 0 l)),[])
def awZ (l:List bu) (s:bu):Bool:=true
def oI3:aW:=aY 137 true zV (aT awZ) (aT RE)
theorem aw0:aX Tryz.prog au oI3:=by
 refine cQ f137 awU (de (x0:=aw f137 0) (by kernel_rfl) (bS ?_)) ?_
 .rintro⟨l,s,k⟩ hp
  exact awV l s k hp
 rintro⟨l,s⟩ hpre hok
 show(aB En false _ (Jq _ _)).val=some (RE _ _)
 unfold Jq RE
 rw[awW]
 have hx:l.length<=9223372036854775807:=by simpa using(jH (hok _ (dN ..))).1
 simp only[awS,ar,aN,ak,aS,hx,df,cf,decide_true,ic]
 cases F.found (cu (fun o=>F.seq o.name s.name) 0 l)<;>rfl
def RF:Env:=bq ty au bp [oI3] [] [] []
theorem aw1:aZ Tryz.prog RF:=bG (aI aw0 bF)
theorem aw2:(aB RF false f102 [.sl (l.map bO), .fn 103 [.bD (bO s) 0]]).val =
 ai (ac zV [AV.sl (ab bO l),AV.fn (103:FuncId) [AV.bD [(vS s.name),(vS s.uri),(vI s.ip),(vI s.jm),(vI s.width),(vI s.dL),(vS
 s.sound)] (0:Nat)]]) fun z=>some ((vB (decide ((0:Int)<=ic (cu (fun(o:bu)=>F.seq o.name z.2.name) (0:Nat) z.1)))),[]):=by kernel_rfl
def Jr:List AV:=[.sl (l.map bO), .fn 103 [.bD (bO s) 0]]
def zW (a:(List bu)×bu):List AV:=Jr a.1 a.2
theorem aw3 a a' (h:zW a=zW a'):a=a':=by
 simp only[zW,Jr]at h
 try simp[oJ,pz]at h
 grind
theorem aw4 (s_name:ByteArray) (s_uri:ByteArray) (s_mean:Int) (s_peak:Int) (s_width:Int) (s_height:Int) (s_sound:ByteArray):ac zW ([AV.sl (ab bO l),AV.fn (103:FuncId) [AV.bD [(vS s_name),(vS s_uri),(vI s_mean),(vI s_peak),(vI s_width),(vI s_height),(vS s_sound)] (0:Nat)]])=some (l,(bu.mk s_name s_uri s_mean s_peak s_width s_height s_sound)):=ax aw3 (l,(bu.mk s_name s_uri s_mean s_peak s_width s_height s_sound)) rfl
def RG:AV×Heap:=(vB (l.any (fun o=>F.seq o.name s.name)),[])
end
section
variable (l:List aR) (s:bu) (k:Nat)
def aw5 (l:List bu) (s:bu):Bool:=true
def acD:aW:=aY 102 true zW (aT aw5) (aT RG)
theorem aw6:aX Tryz.prog au acD:=by
 refine cx f102 aw1 ?_
 rintro⟨l,s⟩ hpre hok
 show(aB RF false _ (Jr _ _)).val=some (RG _ _)
 unfold Jr RG
 rw[aw2]
 simp only[awY,rl,ar,Fj]
def zX:St:=⟨[(8,vI k),(7,vI l.length),(1, .fn 104 [.bD (bO s) 0]),(0, .sl (l.map bg))],[]⟩
def zY (a:(List aR)×bu×Nat):St:=zX a.1 a.2.1 a.2.2
theorem aw7 a a' (h:zY a=zY a'):a=a':=by
 simp only[zY,zX]at h
 try simp[iN,pz]at h
 grind
theorem aw8: ac zY (St.mk [(8,(vI (0:Int))),(7,(vI (↑(ae l):Int))),(1,AV.fn (104:FuncId) [AV.bD [(vS s.name),(vS s.uri),(vI s.ip),(vI s.jm),(vI s.width),(vI
 s.dL),(vS s.sound)] (0:Nat)]),(0,AV.sl (ab bg l))] [])=some (l,s,0):=ax aw7 (l,s,0) rfl
def zZ:T (Ex×St):= .bM (F.found (cu (fun o=>F.seq o.group s.sound) k (l.drop k))) (.ret (.ret,⟨[(4,vI ((F.fp (cu (fun o=>F.seq o.group s.sound) k (l.drop k)) 0:Nat):Int))],[]⟩)) (.ret (.exit 0,⟨[],[]⟩))
def RH (s:bu) (k:Nat):Bool:=decide (l.length<=9223372036854775807)&&decide (k<=l.length)
def aw9:Nat×(St->T (Ex×St)):=(2,lpo [8,7,1,0] [] zY (bU RH) (bU zZ))
def Eo:Env:=bq ty au bp [acy] [] [] [aw9]
theorem axa:aZ Tryz.prog Eo:=bG (aI awl bF)
theorem RI:((exec Eo (aw f136 0) (zX l s k)).bind (bE ([8,7,1,0],[]) ([],[]) ([4],[]))).val =
 bif decide ((↑k:Int)<(↑(ae l):Int)) then ai (ac (ab bg) (ab bg l)) fun z=>bif decide (k<ae z) then
 ai (ac zJ [AV.agg [(vS (al z k (aR.mk (az (aA [])) (az (aA [])) (az (aA [])) false (az
 (aA [])))).group),(vS (al z k (aR.mk (az (aA [])) (az (aA [])) (az (aA [])) false (az (aA
 [])))).name),(vS (al z k (aR.mk (az (aA [])) (az (aA [])) (az (aA [])) false (az (aA [])))).gM),
 (vB (al z k (aR.mk (az (aA [])) (az (aA [])) (az (aA [])) false (az (aA [])))).fH),(vS
 (al z k (aR.mk (az (aA [])) (az (aA [])) (az (aA [])) false (az (aA [])))).uri)],AV.bD [(vS
 s.name),(vS s.uri),(vI s.ip),(vI s.jm),(vI s.width),(vI s.dL),(vS s.sound)] (0:Nat)]) fun z=>bif F.seq z.1.group z.2.sound then some
 (Ex.ret,St.mk [(4,(vI (↑k:Int)))] []) else some (Ex.normal,St.mk [(8,(vI (am.wrap ((↑k:Int)+1)))),(7,(vI (↑(ae l):Int))),
 (1,AV.fn (104:FuncId) [AV.bD [(vS s.name),(vS s.uri),(vI s.ip),(vI s.jm),(vI s.width),(vI s.dL),(vS s.sound)] (0:Nat)]),(0,AV.sl (ab bg l))]
 []) else none else some (Ex.exit (0:Nat),St.mk [] []):=by kernel_rfl
theorem axb (l:List aR) (s:bu) (k:Nat) (hp:RH l s k=true) : ∀ex s',(zZ l s k).val=some (ex,s')->ba Eo (aw f136 0) (zX l s k) ex s':=by
 simp only[RH,aG,aM]at hp
 refine cE (st:=zX l s) (out:=zZ l s) (I:=fun k=>k<=l.length) (n:=([8,7,1,0],[])) (e:=([],[])) (r:=([4],[])) (fun k=>l.length - k) ?_ k hp.2
 intro k hk
 by_cases hlt:k<l.length
 .have hy:l[k]? = some l[k]:=bC hlt
  generalize l[k]=y at hy
  have hd:=j6 hy
  cases hc:(fun o=>F.seq o.group s.sound) y
  .right
   refine⟨k+1,?_,rfl,hlt,by omega,?_⟩
   .rw[RI]
    simp only[acx,py,rl,ar,tB,ak,ap,bA hlt,aj hlt,ch hlt hp.1,getD_at hy,hc,zX]
    try rfl
   .simp only[zZ,hd,cu,hc,ap]
  .left
   refine⟨(.ret,⟨[(4,vI k)],[]⟩),?_,?_,by simp,rfl⟩
   .rw[RI]
    simp only[acx,py,rl,ar,tB,ak,bA hlt,aj hlt,ch hlt hp.1,getD_at hy,hc]
   .simp only[zZ,hd,cu,hc,ak,F.found,F.fp]
    rfl
 .have:k=l.length:=by omega
  subst this
  left
  refine⟨(.exit 0,⟨[],[]⟩),?_,?_,by simp,rfl⟩
  .rw[RI];simp
  .simp[zZ,cu,F.found,T.val]
theorem axc:(aB Eo false f136 [.sl (l.map bg), .fn 104 [.bD (bO s) 0]]).val =
 ai (ac zY (St.mk [(8,(vI 0)),(7,(vI (↑(ae (ab bg l)):Int))),(1,AV.fn (104:FuncId) [AV.bD [(vS s.name),(vS s.uri),(vI
 s.ip),(vI s.jm),(vI s.width),(vI s.dL),(vS s.sound)] (0:Nat)]),(0,AV.sl (ab bg l))] [])) fun z=>bif decide (ae
 z.1<=9223372036854775807)&&decide (z.2.2<=ae z.1)&&true then bif F.found (cu (fun(o:aR)=>F.seq o.group z.2.1.sound) z.2.2
 (bn z.2.2 z.1)) then some ((vI (↑(F.fp (cu (fun(o:aR)=>F.seq o.group z.2.1.sound) z.2.2 (bn z.2.2 z.1)) (0:Nat)):Int)),
 []) else some ((vI (-1:Int)),[]) else none:=by kernel_rfl
def Js:List AV:=[.sl (l.map bg), .fn 104 [.bD (bO s) 0]]
def z8 (a:(List aR)×bu):List AV:=Js a.1 a.2
theorem axd a a' (h:z8 a=z8 a'):a=a':=by
 simp only[z8,Js]at h
 try simp[iN,pz]at h
 grind
theorem axe (s_name:ByteArray) (s_uri:ByteArray) (s_mean:Int) (s_peak:Int) (s_width:Int) (s_height:Int) (s_sound:ByteArray):ac z8 ([AV.sl (ab bg l),AV.fn (104:FuncId) [AV.bD [(vS s_name),(vS s_uri),(vI s_mean),(vI s_peak),(vI s_width),(vI s_height),(vS s_sound)] (0:Nat)]])=some (l,(bu.mk s_name s_uri s_mean s_peak s_width s_height s_sound)):=ax axd (l,(bu.mk s_name s_uri s_mean s_peak s_width s_height s_sound)) rfl
def RJ:AV×Heap:=(vI (ic (cu (fun o=>F.seq o.group s.sound) 0 l)),[])
def axf (l:List aR) (s:bu):Bool:=true
def oI4:aW:=aY 136 true z8 (aT axf) (aT RJ)
theorem axg:aX Tryz.prog au oI4:=by
 refine cQ f136 axa (de (x0:=aw f136 0) (by kernel_rfl) (bS ?_)) ?_
 .rintro⟨l,s,k⟩ hp
  exact axb l s k hp
 rintro⟨l,s⟩ hpre hok
 show(aB Eo false _ (Js _ _)).val=some (RJ _ _)
 unfold Js RJ
 rw[axc]
 have hx:l.length<=9223372036854775807:=by simpa using(jH (hok _ (dN ..))).1
 simp only[aw8,ar,aN,ak,aS,hx,df,cf,decide_true,ic]
 cases F.found (cu (fun o=>F.seq o.group s.sound) 0 l)<;>rfl
def RM:Env:=bq ty au bp [oI4] [] [] []
theorem axh:aZ Tryz.prog RM:=bG (aI axg bF)
theorem axi:(aB RM false f97 [.sl (l.map bg), .fn 104 [.bD (bO s) 0]]).val =
 ai (ac z8 [AV.sl (ab bg l),AV.fn (104:FuncId) [AV.bD [(vS s.name),(vS s.uri),(vI s.ip),(vI s.jm),(vI s.width),(vI s.dL),(vS
 s.sound)] (0:Nat)]]) fun z=>some ((vB (decide ((0:Int)<=ic (cu (fun(o:aR)=>F.seq o.group z.2.sound) (0:Nat) z.1)))),[]):=by kernel_rfl
def Jt:List AV:=[.sl (l.map bg), .fn 104 [.bD (bO s) 0]]
def uM (a:(List aR)×bu):List AV:=Jt a.1 a.2
theorem axj a a' (h:uM a=uM a'):a=a':=by
 simp only[uM,Jt]at h
 try simp[iN,pz]at h
 grind
theorem axk (s_name:ByteArray) (s_uri:ByteArray) (s_mean:Int) (s_peak:Int) (s_width:Int) (s_height:Int) (s_sound:ByteArray):ac uM ([AV.sl (ab bg l),AV.fn (104:FuncId) [AV.bD [(vS s_name),(vS s_uri),(vI s_mean),(vI s_peak),(vI s_width),(vI s_height),(vS s_sound)] (0:Nat)]])=some (l,(bu.mk s_name s_uri s_mean s_peak s_width s_height s_sound)):=ax axj (l,(bu.mk s_name s_uri s_mean s_peak s_width s_height s_sound)) rfl
def RN:AV×Heap:=(vB (l.any (fun o=>F.seq o.group s.sound)),[])
def axl (l:List aR) (s:bu):Bool:=true
def acF:aW:=aY 97 true uM (aT axl) (aT RN)
theorem axm:aX Tryz.prog au acF:=by
 refine cx f97 axh ?_
 rintro⟨l,s⟩ hpre hok
 show(aB RM false _ (Jt _ _)).val=some (RN _ _)
 unfold Jt RN
 rw[axi]
 simp only[axe,rl,ar,Fj]
def pY (a:Bool×List aR×aR):List AV:=[.sl (a.2.1.map bg), .fn (bif a.1 then 98 else 100) [.bD (bg a.2.2) 0]]
theorem acG a a' (h:pY a=pY a'):a=a':=by
 obtain⟨w,l,s⟩:=a
 obtain⟨w',l',s'⟩:=a'
 simp only[pY]at h
 simp[iN,nV]at h
 obtain⟨h1,h2,h3⟩:=h
 subst h1
 subst h3
 cases w<;>cases w'<;>simp_all
theorem axn (s:aR):ac pY ([AV.sl (ab bg l),AV.fn (98:FuncId) [AV.bD [(vS s.group),(vS s.name),(vS s.gM),(vB s.fH),(vS s.uri)] (0:Nat)]])=some (true,l,s):=ax acG (true,l,s) rfl
theorem axo (s:aR):ac pY ([AV.sl (ab bg l),AV.fn (100:FuncId) [AV.bD [(vS s.group),(vS s.name),(vS s.gM),(vB s.fH),(vS s.uri)] (0:Nat)]])=some (false,l,s):=ax acG (false,l,s) rfl
def axp (a:Bool×List aR×aR):Bool:=true
def acH:aW:=aY 97 true pY axp fun a=>(vB (a.2.1.any fun o=>bif a.1 then jv a.2.2 o else jz a.2.2 o),[])
theorem axq:aX Tryz.prog au acH:=by
 refine io acA.here (fun a _ _=>?_) (fun _ _=>⟨rfl,rfl⟩)
 obtain⟨w,l,s⟩:=a
 cases w
 .exact MX awQ awN (l,s) rfl
 .exact MX acA awy (l,s) rfl
def RO:Env:=bq ty au bp [CZ,acH,acq,HI] [] [] []
theorem axr:aZ Tryz.prog RO:=bG (aI Hc (aI axq (aI av5 (aI Oe bF))))
theorem axs (s:aR) (l:List aR):(aB RO false f48 [.agg (bg s), .sl (l.map bg)]).val =
 ai (ac oL [(vS s.group)]) fun z=>bif !!g8 z then ai (ac oL [(vS s.name)]) fun z_1=>bif bif
 !g8 z then true else !g8 z_1 then some ((vI 5),[]) else ai (ac pY [AV.sl (ab bg l),AV.fn (98:Nat) [AV.bD [(vS s.group),
 (vS s.name),(vS s.gM),(vB s.fH),(vS s.uri)] (0:Nat)]]) fun z=>bif v6 z.2.1 fun(o:aR)=>bif z.1 then jv z.2.2
 o else jz z.2.2 o then some ((vI 7),[]) else ai (ac zF [(vS s.gM)]) fun z=>bif !Fk z then some ((vI 3),
 []) else bif s.fH then bif s.fH then ai (ac pY [AV.sl (ab bg l),AV.fn (100:Nat) [AV.bD [(vS s.group),(vS s.name),(vS s.gM),(vB
 s.fH),(vS s.uri)] (0:Nat)]]) fun z=>bif bif s.fH then v6 z.2.1 fun(o:aR)=>bif z.1 then jv z.2.2 o else
 jz z.2.2 o else false then some ((vI 12),[]) else ai (ac nX [(vS s.uri)]) fun z=>some ((vI (lO z)),[]) else
 ai (ac nX [(vS s.uri)]) fun z=>some ((vI (lO z)),[]) else bif s.fH then ai (ac pY [AV.sl (ab bg l),
 AV.bL]) fun z=>bif bif s.fH then v6 z.2.1 fun(o:aR)=>bif z.1 then jv z.2.2 o else jz z.2.2 o else false
 then some ((vI 12),[]) else ai (ac nX [(vS s.uri)]) fun z=>some ((vI (lO z)),[]) else ai (ac nX [(vS
 s.uri)]) fun z=>some ((vI (lO z)),[]) else bif !!g8 z then none else some ((vI 5),[]):=by kernel_rfl
def Ju (s:aR) (l:List aR):List AV:=[.agg (bg s), .sl (l.map bg)]
def Aa (a:aR×(List aR)):List AV:=Ju a.1 a.2
theorem axt a a' (h:Aa a=Aa a'):a=a':=by
 simp only[Aa,Ju]at h
 try simp[iN,nV]at h
 grind
theorem axu (s_group:ByteArray) (s_name:ByteArray) (s_lang:ByteArray) (s_dflt:Bool) (s_uri:ByteArray) (l:List aR):ac Aa ([AV.agg [(vS s_group),(vS s_name),(vS s_lang),(vB s_dflt),(vS s_uri)],AV.sl (ab bg l)])=some ((aR.mk s_group s_name s_lang s_dflt s_uri),l):=ax axt ((aR.mk s_group s_name s_lang s_dflt s_uri),l) rfl
def RQ (s:aR) (l:List aR):AV×Heap:=(vI (nr s l),[])
def axv (s:aR) (l:List aR):Bool:=true
def acI:aW:=aY 48 true Aa (aT axv) (aT RQ)
theorem axw:aX Tryz.prog au acI:=by
 refine cx f48 axr ?_
 rintro⟨s,l⟩ hpre hok
 show(aB RO false _ (Ju _ _)).val=some (RQ _ _)
 unfold Ju RQ
 rw[axs]
 simp only[Hb,axn,av3,Oc,ar,ak,ap,nr,axo]
 cases g8 s.group
 .rfl
 cases g8 s.name
 .rfl
 cases l.any (jv s)
 .cases Fk s.gM
  .rfl
  .cases hd:s.fH
   .rfl
   .simp only[ak,ap,dC,dt,FH,fM]
    cases l.any (jz s)<;>rfl
 .rfl
def RR:Env:=bq ty au bp [CZ,acD,acF,HI,jJ] [] [] []
theorem axx:aZ Tryz.prog RR:=bG (aI Hc (aI aw6 (aI axm (aI Oe (aI jZ bF)))))
theorem axy (l:List bu) (m:List aR):(aB RR false f49 [.agg (bO s), .sl (l.map bO), .sl (m.map bg)]).val =
 (fun(q:Option (AV×Heap))=>(fun(q_1:Option (AV×Heap))=>(fun(q_2:Option (AV×Heap))=>(fun(q_3:Bool)=>(fun(q_4:List AV)=>(fun(q_5:Option (AV
 × Heap))=>(fun(q_6:List AV)=>ai (ac oL [(vS s.name)]) fun z=>bif !g8 z then q else ai (ac zW [AV.sl (ab
 bO l),AV.fn (103:Nat) q_6]) fun z=>bif v6 z.1 fun(o:bu)=>F.seq o.name z.2.name then some ((vI 7),[]) else
 ai (ac nX [(vS s.uri)]) fun z=>bif lO z != 0 then some ((vI 3),[]) else ai (ac eT [(vI s.ip),
 (vI 1),(vI 10000000000)]) fun z=>bif !F.out z.1 z.2.1 z.2.2 then ai (ac eT [(vI s.jm),(vI s.ip),(vI
 (10000000000:Int))]) fun z_1=>bif bif F.out z.1 z.2.1 z.2.2 then true else F.out z_1.1 z_1.2.1 z_1.2.2 then q_1 else
 ai (ac eT ((vI s.width)::q_4)) fun z=>bif !F.out z.1 z.2.1 z.2.2 then ai (ac eT ((vI s.dL)::q_4))
 fun z_2=>bif bif bif F.out z.1 z.2.1 z.2.2 then true else F.out z_2.1 z_2.2.1 z_2.2.2 then true else !(s.width==0) ==
 (s.dL==0) then q_1 else bif q_3 then bif q_3 then ai (ac uM [AV.sl (ab bg m),AV.fn (104:Nat) q_6]) fun z=>
 bif bif q_3 then !v6 z.1 fun(o:aR)=>F.seq o.group z.2.sound else false then q else q_2 else q_5 else bif q_3 then ai (ac uM [AV.sl
 (ab bg m),AV.bL]) fun z=>bif bif q_3 then !v6 z.1 fun(o:aR)=>F.seq o.group z.2.sound else false then q else q_2 else q_5
 else q_1 else q_1) [AV.bD [(vS s.name),(vS s.uri),(vI s.ip),(vI s.jm),(vI s.width),(vI s.dL),(vS s.sound)] (0:Nat)]) (bif q_3 then none else q_2)) [(vI 0),(vI 20000)]) !cU s.sound==cU (az (aA []))) (some ((vI 0),[]))) (some ((vI 1),[]))) (some
 ((vI 5),[])):=by kernel_rfl
def Jv (l:List bu) (m:List aR):List AV:=[.agg (bO s), .sl (l.map bO), .sl (m.map bg)]
def Ab (a:bu×(List bu)×(List aR)):List AV:=Jv a.1 a.2.1 a.2.2
theorem axz a a' (h:Ab a=Ab a'):a=a':=by
 simp only[Ab,Jv]at h
 try simp[iN,oJ,pz]at h
 grind
theorem axA (s_name:ByteArray) (s_uri:ByteArray) (s_mean:Int) (s_peak:Int) (s_width:Int) (s_height:Int) (s_sound:ByteArray) (l:List bu) (m:List aR):ac Ab ([AV.agg [(vS s_name),(vS s_uri),(vI s_mean),(vI s_peak),(vI s_width),(vI s_height),(vS s_sound)],AV.sl (ab bO l),AV.sl (ab bg m)])=some ((bu.mk s_name s_uri s_mean s_peak s_width s_height s_sound),l,m):=ax axz ((bu.mk s_name s_uri s_mean s_peak s_width s_height s_sound),l,m) rfl
def RS (l:List bu) (m:List aR):AV×Heap:=(vI (nv s l m),[])
end
def axB (s:bu) (l:List bu) (m:List aR):Bool:=true
def acJ:aW:=aY 49 true Ab (bU axB) (bU RS)
theorem axC:aX Tryz.prog au acJ:=by
 refine cx f49 axx ?_
 rintro⟨s,l,m⟩ hpre hok
 show(aB RR false _ (Jv _ _ _)).val=some (RS _ _ _)
 unfold Jv RS
 rw[axy]
 simp only[Hb,Oc,jk,aw4,axk,rl,ar,nv,agd,F.seq]
 cases g8 s.name
 .rfl
 cases(l.any fun o=>o.name.toList==s.name.toList)
 .cases lO s.uri != 0
  .cases F.out s.ip 1 10000000000
   .cases F.out s.jm s.ip 10000000000
    .cases F.out s.width 0 20000
     .cases F.out s.dL 0 20000
      .cases(s.width==0)<;>cases(s.dL==0)<;>first | rfl | (cases hd:(s.sound.toList==cU ⟨#[]⟩)<;>first | rfl | (simp only[ak,ap,dC,dt];cases(m.any fun o=>o.group.toList==s.sound.toList)<;>rfl))
      .cases(s.width==0)<;>cases(s.dL==0)<;>rfl
     .rfl
    .rfl
   .rfl
  .rfl
 .rfl
end M
def UD (l:List aR):Int:=M.bN (fun p:aR×Nat=>nr p.1 (l.take p.2)) l.zipIdx
def afO (l:List bu) (m:List aR):Int:=M.bN (fun p:bu×Nat=>nv p.1 (l.take p.2) m) l.zipIdx
def qb (m:kJ):Int:=bif decide (50<m.streams.length)||decide (50<m.cG.length) then 2 else bif UD m.cG != 0 then UD m.cG else afO m.streams m.cG
namespace M
section
variable (m:kJ) (k:Nat)
def Ac:St:=⟨[(22,vI k),(21,vI m.cG.length),(20, .sl (m.cG.map bg)),(1, .ptr 1 0 0)],[(1,⟨true,0,0,[jY m]⟩)]⟩
def Ad (a:kJ×Nat):St:=Ac a.1 a.2
theorem axD a a' (h:Ad a=Ad a'):a=a':=by
 simp only[Ad,Ac]at h
 try simp[iN,MV]at h
 grind
theorem axE: ac Ad (St.mk [(22,(vI (0:Int))),(21,(vI (↑(ae m.cG):Int))),(20,AV.sl (ab bg m.cG)),(1, .ptr 1 0 0)] [(1,ah.mk true 0 0 [[AV.sl (ab
 bO m.streams),AV.sl (ab bg m.cG)]])])=some (m,0):=ax axD (m,0) rfl
def acK:T (Ex×St):= .bM (decide (M.bN (fun p:aR×Nat=>nr p.1 (m.cG.take p.2)) (m.cG.zipIdx.drop k)=0)) (.ret (.exit 0,⟨[(1, .ptr 1 0 0)],[(1,⟨true,0,0,[jY m]⟩)]⟩)) (.ret (.ret,⟨[(2,vI (M.bN (fun p:aR×Nat=>nr p.1 (m.cG.take p.2)) (m.cG.zipIdx.drop k)))],[]⟩))
def RU:Bool:=decide (m.cG.length<=9223372036854775807)&&decide (k<=m.cG.length)
def axF:Nat×(St->T (Ex×St)):=(4,lpo [22,21,20,1] [1] Ad (aT RU) (aT acK))
def Ae:St:=⟨[(40,vI k),(39,vI m.streams.length),(38, .sl (m.streams.map bO)),(1, .ptr 1 0 0)],[(1,⟨true,0,0,[jY m]⟩)]⟩
def Af (a:kJ×Nat):St:=Ae a.1 a.2
theorem axG a a' (h:Af a=Af a'):a=a':=by
 simp only[Af,Ae]at h
 try simp[oJ,MV]at h
 grind
theorem axH: ac Af (St.mk [(40,(vI (0:Int))),(39,(vI (↑(ae m.streams):Int))),(38,AV.sl (ab bO m.streams)),(1, .ptr 1 0 0)] [(1,ah.mk true 0 0 [[AV.sl (ab
 bO m.streams),AV.sl (ab bg m.cG)]])])=some (m,0):=ax axG (m,0) rfl
def acL:T (Ex×St):= .bM (decide (M.bN (fun p:bu×Nat=>nv p.1 (m.streams.take p.2) m.cG) (m.streams.zipIdx.drop k)=0)) (.ret (.exit 2,⟨[],[]⟩)) (.ret (.ret,⟨[(2,vI (M.bN (fun p:bu×Nat=>nv p.1 (m.streams.take p.2) m.cG) (m.streams.zipIdx.drop k)))],[]⟩))
def RW:Bool:=decide (m.streams.length<=9223372036854775807)&&decide (k<=m.streams.length)
def axI:Nat×(St->T (Ex×St)):=(11,lpo [40,39,38,1] [1] Af (aT RW) (aT acL))
def uN:Env:=bq ty au bp [acI,acJ] [] [] [axF,axI]
theorem axJ:aZ Tryz.prog uN:=bG (aI axw (aI axC bF))
theorem acM:((exec uN (aw f19 0) (Ac m k)).bind (bE ([22,21,20,1],[1]) ([1],[1]) ([2],[]))).val =
 bif decide ((↑k:Int)<(↑(ae m.cG):Int)) then ai (ac (ab bg) (ab bg m.cG)) fun z=>bif decide (k <
 ae z) then bif aP (0:Nat) k&&aP k (ae (ab bg m.cG))&&fx (ab bg m.cG) fun(r:Row)=>bk (ae
 r) (5:Nat) then ai (ac Aa [AV.agg [(vS (al z k (aR.mk (az (aA [])) (az (aA [])) (az (aA []))
 false (az (aA [])))).group),(vS (al z k (aR.mk (az (aA [])) (az (aA [])) (az (aA [])) false
 (az (aA [])))).name),(vS (al z k (aR.mk (az (aA [])) (az (aA [])) (az (aA [])) false (az
 (aA [])))).gM),(vB (al z k (aR.mk (az (aA [])) (az (aA [])) (az (aA [])) false (az (aA
 [])))).fH),(vS (al z k (aR.mk (az (aA [])) (az (aA [])) (az (aA [])) false (az (aA [])))).uri)],
 AV.sl (eG k (ab bg m.cG))]) fun z=>bif nr z.1 z.2 != 0 then some (Ex.ret,St.mk [(2,(vI (nr z.1 z.2)))]
 []) else some (Ex.normal,St.mk [(22,(vI (am.wrap ((↑k:Int)+1)))),(21,(vI (↑(ae m.cG):Int))),(20,AV.sl (ab bg
 m.cG)),(1, .ptr 1 0 0)] [(1,ah.mk true 0 0 [[AV.sl (ab bO m.streams),AV.sl (ab bg m.cG)]])]) else none else none else some (Ex.exit (0:Nat),
 St.mk [(1, .ptr 1 0 0)] [(1,ah.mk true 0 0 [[AV.sl (ab bO m.streams),AV.sl (ab bg m.cG)]])]):=by kernel_rfl
theorem axK (hp:RU m k=true) : ∀ex s',(acK m k).val=some (ex,s')->ba uN (aw f19 0) (Ac m k) ex s':=by
 simp only[RU,aG,aM]at hp
 refine mW (xs:=m.cG.zipIdx) (st:=Ac m) (g:=fun p:aR×Nat=>nr p.1 (m.cG.take p.2)) (o:=fun c=>(.ret,⟨[(2,vI c)],[]⟩)) (n:=([22,21,20,1],[1])) (e:=([1],[1])) (r:=([2],[])) ?_ ⟨by simp,rfl⟩ (fun _=>⟨by simp,rfl⟩) (fun _=>rfl) ?_ k (by simp;exact hp.2)
 .rw[acM];simp[jY]
 .intro k y hy
  obtain⟨ha,hk⟩:=sA hy
  have hlt:=cy ha
  rw[acM]
  simp only[axu,py,ar,aN,tB,ak,bA hlt,aj hlt,ch hlt hp.1,getD_at ha,Ac,cg (cf k),cg (Nat.le_of_lt hlt),ajs,bT,<-vX,hk,jY]
  by_cases h:nr y.1 (m.cG.take k)=0
  .rw[h];rfl
  .have hb:(nr y.1 (m.cG.take k) != 0)=true:=by simp[h]
   simp only[hb,ak,h,if_false]
theorem acN:((exec uN (aw f19 1) (Ae m k)).bind (bE ([40,39,38,1],[1]) ([],[]) ([2],[]))).val =
 bif decide ((↑k:Int)<(↑(ae m.streams):Int)) then ai (ac (ab bO) (ab bO m.streams)) fun z=>bif decide (k <
 ae z) then bif aP (0:Nat) k&&aP k (ae (ab bO m.streams))&&fx (ab bO m.streams) fun(r:Row)=>bk
 (ae r) (7:Nat) then ai (ac Ab [AV.agg [(vS (al z k (bu.mk (az (aA [])) (az (aA [])) (0:Int) (0:Int)
 (0:Int) (0:Int) (az (aA [])))).name),(vS (al z k (bu.mk (az (aA [])) (az (aA [])) (0:Int) (0:Int) (0 :
 Int) (0:Int) (az (aA [])))).uri),(vI (al z k (bu.mk (az (aA [])) (az (aA [])) (0:Int) (0:Int) (0:Int) (0
 : Int) (az (aA [])))).ip),(vI (al z k (bu.mk (az (aA [])) (az (aA [])) (0:Int) (0:Int) (0:Int) (0:Int)
 (az (aA [])))).jm),(vI (al z k (bu.mk (az (aA [])) (az (aA [])) (0:Int) (0:Int) (0:Int) (0:Int)
 (az (aA [])))).width),(vI (al z k (bu.mk (az (aA [])) (az (aA [])) (0:Int) (0:Int) (0:Int) (0:Int)
 (az (aA [])))).dL),(vS (al z k (bu.mk (az (aA [])) (az (aA [])) (0:Int) (0:Int) (0:Int) (0:Int)
 (az (aA [])))).sound)],AV.sl (eG k (ab bO m.streams)),AV.sl (ab bg m.cG)]) fun z=>bif
 nv z.1 z.2.1 z.2.2 != 0 then some (Ex.ret,St.mk [(2,(vI (nv z.1 z.2.1 z.2.2)))] []) else some (Ex.normal,St.mk [(40,(vI
 (am.wrap ((↑k:Int)+1)))),(39,(vI (↑(ae m.streams):Int))),(38,AV.sl (ab bO m.streams)),(1, .ptr 1 0 0)] [(1,ah.mk
 true 0 0 [[AV.sl (ab bO m.streams),AV.sl (ab bg m.cG)]])]) else none else none else some (Ex.exit (2:Nat),St.mk [] []):=by kernel_rfl
theorem axL (hp:RW m k=true) : ∀ex s',(acL m k).val=some (ex,s')->ba uN (aw f19 1) (Ae m k) ex s':=by
 simp only[RW,aG,aM]at hp
 refine mW (xs:=m.streams.zipIdx) (st:=Ae m) (g:=fun p:bu×Nat=>nv p.1 (m.streams.take p.2) m.cG) (o:=fun c=>(.ret,⟨[(2,vI c)],[]⟩)) (n:=([40,39,38,1],[1])) (e:=([],[])) (r:=([2],[])) ?_ ⟨by simp,rfl⟩ (fun _=>⟨by simp,rfl⟩) (fun _=>rfl) ?_ k (by simp;exact hp.2)
 .rw[acN];simp
 .intro k y hy
  obtain⟨ha,hk⟩:=sA hy
  have hlt:=cy ha
  rw[acN]
  simp only[axA,rl,ar,aN,MU,ak,bA hlt,aj hlt,ch hlt hp.1,getD_at ha,Ae,cg (cf k),cg (Nat.le_of_lt hlt),ajt,bT,<-vX,hk,jY]
  by_cases h:nv y.1 (m.streams.take k) m.cG=0
  .rw[h];rfl
  .have hb:(nv y.1 (m.streams.take k) m.cG != 0)=true:=by simp[h]
   simp only[hb,ak,h,if_false]
theorem axM {m:kJ} (h:gI (.agg (jY m))):m.streams.length<=9223372036854775807/\m.cG.length<=9223372036854775807:=by
 have h:=GJ h
 simp only[jY,gQ]at h
 exact⟨by simpa using(jH h.1).1,by simpa using(jH h.2.1).1⟩
theorem axN (n:Nat):decide ((50:Int)<(n:Int))=decide (50<n):=by
 by_cases h:50<n
 .rw[aj h,aj (by omega)]
 .rw[aH h,aH (by omega)]
theorem axO:(aB uN false f19 [.agg (jY m)]).val =
 bif bif decide ((50:Int)<(↑(ae (ab bO m.streams)):Int)) then true else decide ((50:Int)<(↑(ae (ab bg m.cG)):Int)) then
 some ((vI 2),[]) else ai (ac Ad (St.mk [(22,(vI 0)),(21,(vI (↑(ae (ab bg m.cG)):Int))),(20,AV.sl (ab
 bg m.cG)),(1, .ptr 1 0 0)] [(1,ah.mk true 0 0 [[AV.sl (ab bO m.streams),AV.sl (ab bg m.cG)]])])) fun z=>bif decide
 (ae z.1.cG<=9223372036854775807)&&decide (z.2<=ae z.1.cG)&&true then bif decide (bN (fun(p:aR×Nat)=>nr p.fst
 (eG p.snd z.1.cG)) (bn z.2 (lh z.1.cG))=(0:Int)) then ai (ac Af (St.mk [(40,(vI 0)),(39,(vI
 (↑(ae (ab bO z.1.streams)):Int))),(38,AV.sl (ab bO z.1.streams)),(1, .ptr 1 0 0)] [(1,ah.mk true 0 0 [[AV.sl (ab bO
 z.1.streams),AV.sl (ab bg z.1.cG)]])])) fun z=>bif decide (ae z.1.streams<=9223372036854775807)&&decide (z.2 <=
 ae z.1.streams)&&true then bif decide (bN (fun(p:bu×Nat)=>nv p.fst (eG p.snd z.1.streams) z.1.cG) (bn z.2 (lh
 z.1.streams))=(0:Int)) then some ((vI 0),[]) else some ((vI (bN (fun(p:bu×Nat)=>nv p.fst (eG p.snd z.1.streams) z.1.cG)
 (bn z.2 (lh z.1.streams)))),[]) else none else some ((vI (bN (fun(p:aR×Nat)=>nr p.fst (eG p.snd z.1.cG)) (bn z.2
 (lh z.1.cG)))),[]) else none:=by kernel_rfl
def Jw:List AV:=[.agg (jY m)]
def rP (a:kJ):List AV:=Jw a
theorem acO a a' (h:rP a=rP a'):a=a':=by
 simp only[rP,Jw]at h
 try simp[MV]at h
 grind
theorem axP:ac rP ([AV.agg [AV.sl (ab bO m.streams),AV.sl (ab bg m.cG)]])=some (m):=ax acO (m) rfl
theorem axQ (m_streams:List bu) (m_sounds:List aR):ac rP ([AV.agg [AV.sl (ab bO m_streams),AV.sl (ab bg m_sounds)]])=some ((kJ.mk m_streams m_sounds)):=ax acO ((kJ.mk m_streams m_sounds)) rfl
def RX:AV×Heap:=(vI (qb m),[])
end
def axR (m:kJ):Bool:=true
def acP:aW:=aY 19 true rP axR RX
theorem axS:aX Tryz.prog au acP:=by
 refine cQ f19 axJ (md (x0:=aw f19 0) (x1:=aw f19 1) (by kernel_rfl) (bS ?_) (bS ?_)) ?_
 .rintro⟨m,k⟩ hp
  exact axK m k hp
 .rintro⟨m,k⟩ hp
  exact axL m k hp
 rintro m hpre hok
 show(aB uN false _ (Jw _)).val=some (RX _)
 unfold Jw RX
 rw[axO]
 obtain⟨h1,h2⟩:=axM (hok _ (dN ..))
 simp only[axE,axH,ar,aN,ak,aS,h1,h2,df,cf,decide_true,qb,UD,afO,axN]
 cases decide (50<m.streams.length)
 .cases decide (50<m.cG.length)
  .generalize M.bN _ m.cG.zipIdx=a
   generalize M.bN _ m.streams.zipIdx=b
   by_cases ha:a=0
   .simp only[ha,decide_true,ak,ap,bne_self_eq_false,FH]
    by_cases hb:b=0
    .simp only[hb,decide_true,ak]
    .simp only[hb,decide_false,ap]
   .have hb:(a != 0)=true:=by simp[ha]
    simp only[ha,hb,decide_false,ak,ap,FH]
  .rfl
 .rfl
end M
def si (b g sc:Int):Int:=vz (vy (am.wrap (8*b)) sc g 3)
def qm (l:List aK):Int:=l.foldl (fun n s=>am.wrap (n+s.bytes)) 0
def kX (l:List aK):Int:=l.foldl (fun n s=>am.wrap (n+s.length)) 0
def qk (sc:Int) (l:List aK):Int:=l.foldl (fun n s=>max n (si s.bytes s.length sc)) 0
def sw (s:ByteArray):ByteArray:=s++⟨#[46,108,105,115,116]⟩
def agq (r:Std) (l:List aK) (c:cv) (s:ByteArray):bu:=⟨r.name,sw r.name,si (qm l) (kX l) r.aU,qk r.aU l,c.width,c.dL,s⟩
def kU (l:List aK):Bool:=decide (1<=l.length)&&(decide (l.length<=1000)&&l.all fun s=>decide (1<=s.length)&&decide (s.length<=1000000000000000))
theorem UE {l:List aK} (h:kU l=true):1<=l.length/\l.length<=1000 /\ ∀s∈l,1<=s.length/\s.length<=1000000000000000:=by
 unfold kU at h
 simp only[aG,aM,bP]at h
 exact h
theorem af5 {l:List aK} (h:kU l=true) : ∀k,k<=l.length->(k:Int)<=kX (l.take k)/\kX (l.take k)<=k*1000000000000000
 | 0,_=>by simp[kX]
 | k+1,hk=>by
  obtain⟨h1,h2,h3⟩:=UE h
  have ih:=af5 h k (by omega)
  have hy:l[k]? = some l[k]:=bC (by omega)
  obtain⟨a,b⟩:=h3 _ (iZ (show k<l.length by omega))
  unfold kX at ih ⊢
  rw[vZ,hy,Ln]
  simp only[aFV,lY,KV]
  generalize l[k]=s at a b
  generalize Ls (fun(n:Int) (s:aK)=>am.wrap (n+s.length)) 0 (l.take k)=t at ih
  rw[M.cA (by omega) (by omega)]
  omega
theorem aE7 {l:List aK} (h:kU l=true):1<=kX l/\bz (kX l)=true:=by
 obtain⟨h1,h2,h3⟩:=UE h
 have:=af5 h l.length (bR _)
 rw[B7]at this
 refine⟨by omega,?_⟩
 unfold bz
 rw[aj (by omega),aj (by omega)]
 rfl
theorem agh (n:Int):bz (am.wrap n)=true:=by
 unfold bz
 rw[IntKind.wrap_i64,aj (by omega),aj (by omega)]
 rfl
namespace M
theorem Ag {α β:Type} {l:List α} {k:Nat} {y:α} (h:l[k]? = some y) (f:β->α->β) (b:β):f ((l.take k).foldl f b) y=(l.take (k+1)).foldl f b:=by
 rw[vZ,h,Ln]
 rfl
def RY:Env:=bq ty au bp [QI] [] [] []
theorem axT:aZ Tryz.prog RY:=bG (aI abN bF)
section
variable (b g sc:Int)
theorem axU:(aB RY false f96 [vI b,vI g,vI sc]).val =
 ai (ac uC [(vI (am.wrap ((8:Int)*b))),(vI sc),(vI g),(vI 3)]) fun z=>bif bz z.1 &&
 (decide ((0:Int)<=z.2.1)&&(bz z.2.1&&(decide ((1:Int)<=z.2.2.1)&&bz z.2.2.1))) then some ((vI (vz (vy z.1 z.2.1
 z.2.2.1 z.2.2.2))),[]) else none:=(cm).symm.trans (by kernel_rfl)
def Jx:List AV:=[vI b,vI g,vI sc]
def uO (a:Int×Int×Int):List AV:=Jx a.1 a.2.1 a.2.2
theorem axV a a' (h:uO a=uO a'):a=a':=by
 simp only[uO,Jx]at h
 try simp at h
 grind
theorem RZ:ac uO ([(vI b),(vI g),(vI sc)])=some (b,g,sc):=ax axV (b,g,sc) rfl
def R1:AV×Heap:=(vI (si b g sc),[])
end
section
variable (r:Std) (l:List aK) (c:cv) (s:ByteArray) (k:Nat)
def acQ (b:Int) (g:Int) (sc:Int):Bool:=decide (1<=g)&&(bz g && !bW sc)
def acR:aW:=aY 96 true uO (bU acQ) (bU R1)
theorem axW:aX Tryz.prog au acR:=by
 refine cx f96 axT ?_
 rintro⟨b,g,sc⟩ hpre hok
 show(aB RY false _ (Jx _ _ _)).val=some (R1 _ _ _)
 unfold Jx R1
 rw[axU]
 simp only[acQ,bU,aG,aM]at hpre
 obtain⟨h1,h2,h3⟩:=hpre
 obtain⟨s1,s2,s3⟩:=r8 (show bW sc=false by simpa using h3)
 simp only[abL,ar,ak,agh,aj (show(0:Int)<=sc by omega),s3,aj h1,h2,bT]
 try rfl
def Ep:St:=⟨[(27,vI k),(26,vI l.length),(25, .sl (l.map bj)),(11,vI (kX (l.take k))),(10,vI (qm (l.take k))),(9, .ptr 9 0 0),(8, .ptr 8 0 0),(4, .ptr 4 0 0)],[(9,⟨true,0,0,[[vS r.name,vS (sw r.name),vI 0,vI (qk r.aU (l.take k)),vI c.width,vI c.dL,vS s]]⟩),(8,⟨true,0,0,[[vS ⟨#[]⟩,vS ⟨#[]⟩,vI 0,vI 0,vI 0,vI 0,vS ⟨#[]⟩]]⟩),(4,⟨true,0,0,[aE r]⟩)]⟩
def Ah (a:Std×(List aK)×cv×ByteArray×Nat):St:=Ep a.1 a.2.1 a.2.2.1 a.2.2.2.1 a.2.2.2.2
theorem axX a a' (h:Ah a=Ah a'):a=a':=by
 simp only[Ah,Ep]at h
 (obtain⟨r,l,⟨w,q⟩,s,k⟩:=a;obtain⟨r',l',⟨w',q'⟩,s',k'⟩:=a';simp[jW,mZ]at h;grind)
def R2 (k:Nat):T (Ex×St):= .ret (.exit 0,⟨[(11,vI (kX l)),(10,vI (qm l)),(9, .ptr 9 0 0),(8, .ptr 8 0 0),(4, .ptr 4 0 0)],[(9,⟨true,0,0,[[vS r.name,vS (sw r.name),vI 0,vI (qk r.aU l),vI c.width,vI c.dL,vS s]]⟩),(8,⟨true,0,0,[[vS ⟨#[]⟩,vS ⟨#[]⟩,vI 0,vI 0,vI 0,vI 0,vS ⟨#[]⟩]]⟩),(4,⟨true,0,0,[aE r]⟩)]⟩)
def R3 (c:cv) (s:ByteArray) (k:Nat):Bool:=kU l&&(!bW r.aU&&decide (k<=l.length))
def axY:Nat×(St->T (Ex×St)):=(4,lpo [27,26,25,11,10,9,8,4] [9,8,4] Ah (fa R3) (fa R2))
def Er:Env:=bq ty au bp [acR] [] [] [axY]
theorem axZ:aZ Tryz.prog Er:=bG (aI axW bF)
theorem acS:((exec Er (aw f47 0) (Ep r l c s k)).bind (bE ([27,26,25,11,10,9,8,4],[9,8,4]) ([11,10,9,8,4],[9,8,4]) ([],[]))).val =
 (fun(q:AV)=>(fun(q_1:aK)=>(fun(q_2:List AV)=>(fun(q_3:List (Nat×AV))=>(fun(q:List (Nat×ah))=>bif decide ((↑k:Int)<(↑(ae l) :
 Int)) then ai (ac (ab bj) (ab bj l)) fun z=>bif decide (k<ae z) then ai (ac uO [(vI (al z k
 q_1).bytes),(vI (al z k q_1).length),(vI r.aU)]) fun z_1=>bif decide ((1:Int)<=z_1.2.1)&&(bz z_1.2.1 && !bW
 z_1.2.2) then some (Ex.normal,St.mk ((27,(vI (am.wrap ((↑k:Int)+1))))::(26,(vI (↑(ae l):Int)))::(25,AV.sl (ab
 bj l))::(11,(vI (am.wrap (kX (eG k l)+(al z k q_1).length))))::(10,(vI (am.wrap (qm (eG k l) +
 (al z k q_1).bytes))))::q_3) ((9,ah.mk true 0 0 [(vS r.name)::(vS (sw r.name))::(vI 0)::(vI (max (qk r.aU (eG k l)) (si
 z_1.1 z_1.2.1 z_1.2.2)))::q_2])::q)) else none else none else some (Ex.exit (0:Nat),St.mk ((11,(vI (kX (eG k l))))::(10,(vI (qm
 (eG k l))))::q_3) ((9,ah.mk true 0 0 [(vS r.name)::(vS (sw r.name))::(vI 0)::(vI (qk r.aU (eG k l)))::q_2])::q))) [(8,ah.mk
 true 0 0 [[q,q,(vI 0),(vI 0),(vI 0),(vI 0),q]]),(4,ah.mk true 0 0 [[(vS r.name),(vI r.aU),(vB r.sound),AV.sl (ab aQ
 r.aL)]])]) [(9, .ptr 9 0 0),(8, .ptr 8 0 0),(4, .ptr 4 0 0)]) [(vI c.width),(vI c.dL),(vS s)]) (aK.mk (0:Int) (0:Int) (0:Int) (0:Int) (0:Int) (0 :
 Int) (0:Int))) ((vS ⟨⟨[]⟩⟩)):=(cr _ _ _).symm.trans (by kernel_rfl)
theorem ax0 (r:Std) (l:List aK) (c:cv) (s:ByteArray) (k:Nat) (hp:R3 r l c s k=true) : ∀ex s',(R2 r l c s k).val=some (ex,s')->ba Er (aw f47 0) (Ep r l c s k) ex s':=by
 simp only[R3,aG,aM]at hp
 obtain⟨h1,h2,h3⟩:=hp
 obtain⟨n1,n2,n3⟩:=UE h1
 refine cE (st:=fun k:Nat=>Ep r l c s k) (out:=fun k=>R2 r l c s k) (I:=fun k=>k<=l.length) (n:=([27,26,25,11,10,9,8,4],[9,8,4])) (e:=([11,10,9,8,4],[9,8,4])) (r:=([],[])) (fun k=>l.length - k) ?_ k h3
 clear h3 k
 intro k h3
 by_cases hlt:k<l.length
 .right
  have hy:l[k]? = some l[k]:=bC hlt
  have hN:=ch hlt (by omega:l.length<=9223372036854775807)
  obtain⟨q1,q2⟩:=n3 _ (iZ hlt)
  generalize l[k]=y at hy q1 q2
  have f1:am.wrap (qm (l.take k)+y.bytes)=qm (l.take (k+1)):=Ag hy (fun n (s:aK)=>am.wrap (n+s.bytes)) 0
  have f2:am.wrap (kX (l.take k)+y.length)=kX (l.take (k+1)):=Ag hy (fun n (s:aK)=>am.wrap (n+s.length)) 0
  have f3:max (qk r.aU (l.take k)) (si y.bytes y.length r.aU)=qk r.aU (l.take (k+1)):=Ag hy (fun n (s:aK)=>max n (si s.bytes s.length r.aU)) 0
  have b1:bz y.length=true:=by unfold bz;rw[aj (by omega),aj (by omega)];rfl
  refine⟨k+1,?_,rfl,hlt,by omega,rfl⟩
  rw[acS]
  simp only[RZ,ar,jh,ak,aS,bA hlt,aj hlt,hN,getD_at hy,aj q1,b1,h2,bT,f1,f2,f3]
  try rfl
 .left
  have hk:k=l.length:=by omega
  subst hk
  refine⟨_,?_,rfl,by simp,rfl⟩
  rw[acS]
  simp only[RZ,ar,jh,ap,gJ,B7]
  try rfl
theorem ax1:(aB Er false f47 [.agg (aE r), .sl (l.map bj), .agg (cp c),vS s]).val =
 bif aP (aJ r.name+aJ (az (aA [(46:UInt8),(108:UInt8),(105:UInt8),(115:UInt8),(116:UInt8)])))
 (9223372036854775807:Nat) then ai (ac Ah (St.mk [(27,(vI 0)),(26,(vI (↑(ae (ab bj l)):Int))),(25,AV.sl (ab bj
 l)),(11,(vI 0)),(10,(vI 0)),(9, .ptr 9 0 0),(8, .ptr 8 0 0),(4, .ptr 4 0 0)] [(9,ah.mk true 0 0 [[(vS r.name),(vS (r.name++az
 (aA [(46:UInt8),(108:UInt8),(105:UInt8),(115:UInt8),(116:UInt8)]))),(vI 0),(vI 0),(vI c.width),(vI c.dL),(vS s)]]),(8,ah.mk
 true 0 0 [[(vS ⟨⟨[]⟩⟩),(vS ⟨⟨[]⟩⟩),(vI 0),(vI 0),(vI 0),(vI 0),(vS (az
 (aA [])))]]),(4,ah.mk true 0 0 [[(vS r.name),(vI r.aU),(vB r.sound),AV.sl (ab aQ r.aL)]])])) fun(z:Std×List aK×cv×ByteArray×Nat)
 =>bif kU z.2.1&&(!bW z.1.aU&&decide (z.2.2.2.2<=ae z.2.1))&&true then ai (ac uO [(vI (qm z.2.1)),
 (vI (kX z.2.1)),(vI z.1.aU)]) fun z_1=>bif decide ((1:Int)<=z_1.2.1)&&(bz z_1.2.1 && !bW z_1.2.2) then some
 (AV.agg [(vS z.1.name),(vS (sw z.1.name)),(vI (si z_1.1 z_1.2.1 z_1.2.2)),(vI (qk z.1.aU z.2.1)),(vI z.2.2.1.width),(vI
 z.2.2.1.dL),(vS z.2.2.2.1)],[]) else none else none else none:=(cm).symm.trans (by kernel_rfl)
def Jy:List AV:=[.agg (aE r), .sl (l.map bj), .agg (cp c),vS s]
def rQ (a:Std×(List aK)×cv×ByteArray):List AV:=Jy a.1 a.2.1 a.2.2.1 a.2.2.2
theorem acT a a' (h:rQ a=rQ a'):a=a':=by
 simp only[rQ,Jy]at h
 try simp[jW,mZ,ajl]at h
 grind
theorem ax2:ac rQ ([AV.agg [(vS r.name),(vI r.aU),(vB r.sound),AV.sl (ab aQ r.aL)],AV.sl (ab bj l),AV.agg [(vI c.width),(vI c.dL)],(vS s)])=some (r,l,c,s):=ax acT (r,l,c,s) rfl
theorem R4 (r_name:ByteArray) (r_scale:Int) (r_sound:Bool) (r_samples:List bI) (l:List aK) (c_width:Int) (c_height:Int) (s:ByteArray):ac rQ ([AV.agg [(vS r_name),(vI r_scale),(vB r_sound),AV.sl (ab aQ r_samples)],AV.sl (ab bj l),AV.agg [(vI c_width),(vI c_height)],(vS s)])=some ((Std.mk r_name r_scale r_sound r_samples),l,(cv.mk c_width c_height),s):=ax acT ((Std.mk r_name r_scale r_sound r_samples),l,(cv.mk c_width c_height),s) rfl
def R5:AV×Heap:=(.agg (bO (agq r l c s)),[])
def acU (c:cv) (s:ByteArray):Bool:=kU l&&(!bW r.aU&&decide (r.name.size<=40))
end
def acV:aW:=aY 47 true rQ (cD acU) (cD R5)
theorem ax3:aX Tryz.prog au acV:=by
 refine cQ f47 axZ (de (x0:=aw f47 0) (by kernel_rfl) (bS ?_)) ?_
 .rintro⟨r,l,c,s,k⟩ hp
  exact ax0 r l c s k hp
 rintro⟨r,l,c,s⟩ hpre hok
 show(aB Er false _ (Jy _ _ _ _)).val=some (R5 _ _ _ _)
 unfold Jy R5
 rw[ax1]
 simp only[acU,cD,aG,aM]at hpre
 obtain⟨h1,h2,h3⟩:=hpre
 obtain⟨g1,g2⟩:=aE7 h1
 have z:ac Ah (St.mk [(27,(vI 0)),(26,(vI (l.length:Int))),(25,AV.sl (ab bj l)),(11,(vI 0)),(10,(vI 0)),(9, .ptr 9 0 0),(8, .ptr 8 0 0),(4, .ptr 4 0 0)] [(9,ah.mk true 0 0 [[(vS r.name),(vS (r.name++⟨#[46,108,105,115,116]⟩)),(vI 0),(vI 0),(vI c.width),(vI c.dL),(vS s)]]),(8,ah.mk true 0 0 [[(vS ⟨#[]⟩),(vS ⟨#[]⟩),(vI 0),(vI 0),(vI 0),(vI 0),(vS ⟨#[]⟩)]]),(4,ah.mk true 0 0 [[(vS r.name),(vI r.aU),(vB r.sound),AV.sl (ab aQ r.aL)]])])=some (r,l,c,s,0):=ax axX (r,l,c,s,0) rfl
 have b1:aP (r.name.size+(⟨#[46,108,105,115,116]⟩:ByteArray).size) 9223372036854775807=true:=cg (by rw[show(⟨#[46,108,105,115,116]⟩:ByteArray).size=5 from rfl];omega)
 simp only[RZ,ar,aN,ak,aS,aN,b1]
 try rw[z]
 simp only[ar,h1,h2,cf,decide_true,bT,ak,aj g1,g2]
 try rfl
end M
def af2:ByteArray:=⟨#[115,111,117,110,100]⟩
def aEK:ByteArray:=⟨#[117,110,100]⟩
def o9 (acc:List aR) (r:Std):List aR:=bif r.sound then acc++[⟨af2,r.name,aEK,decide (acc.length=0),sw r.name⟩] else acc
def mw (l:List Std):List aR:=l.foldl o9 []
def Fm (g:ByteArray) (r:Std):ByteArray:=bif r.sound then af2 else g
def oY (l:List Std):ByteArray:=l.foldl Fm ⟨#[]⟩
def Fs (ss:List (List aK)) (cs:List cv) (g:ByteArray) (acc:List bu) (p:Std×Nat):List bu:=
 bif p.1.sound then acc else acc++[agq p.1 (ss.getD p.2 []) (cs.getD acc.length ⟨0,0⟩) g]
def iQ (l:List Std) (ss:List (List aK)) (cs:List cv) (g:ByteArray) (k:Nat):List bu:=(l.zipIdx.take k).foldl (Fs ss cs g) []
def pa (l:List Std) (ss:List (List aK)) (cs:List cv):kJ:=⟨iQ l ss cs (oY l) l.length,mw l⟩
theorem afS : ∀(l:List Std) (acc:List aR),(l.foldl o9 acc).length<=acc.length+l.length
 | [],acc=>by simp
 | r::l,acc=>by
  have:=afS l (o9 acc r)
  rw[lY,gq]
  have h:(o9 acc r).length<=acc.length+1:=by
   unfold o9
   cases r.sound
   .simp
   .simp
  omega
theorem afJ (l:List Std) (ss:List (List aK)) (cs:List cv) (g:ByteArray) : ∀k,k<=l.length->(iQ l ss cs g k).length=gn (l.take k)
 | 0,_=>by simp[iQ,gn]
 | k+1,hk=>by
  have ih:=afJ l ss cs g k (by omega)
  have hy:l[k]? = some l[k]:=bC (by omega)
  have hz:l.zipIdx[k]? = some (l[k],k):=by rw[FJ,hy];simp
  unfold iQ at ih ⊢
  rw[vZ,hz,Ln]
  unfold gn at ih ⊢
  rw[vZ,hy,aFW]
  simp only[aFV,lY,KV]
  rw[<-ih]
  unfold Fs
  cases hs:(l[k]'(by omega)).sound<;>simp[hs]
theorem aEs {l:List Std} {k:Nat} {r:Std} (h:l[k]? = some r) (hs:r.sound=false):gn (l.take k)<gn l:=by
 have hlt:=M.cy h
 have e:l=l.take k++r::l.drop (k+1):=by
  have:=M.j6 h
  rw[<-this,List.take_append_drop]
 unfold gn
 conv=>rhs;rw[e]
 rw[aFW,List.countP_cons,hs]
 simp only[dt,if_true]
 omega
namespace M
section
variable (l:List Std) (ss:List (List aK)) (cs:List cv)
def R6:St:=⟨[(15,vI 0),(14,vI l.length),(13, .sl (l.map aE)),(8,vS ⟨#[]⟩),(7, .ptr 7 0 0),(6, .ptr 6 0 0),(2, .sl (cs.map cp)),(1, .sl (ss.map b8)),(0, .sl (l.map aE))],[(7,⟨true,0,0,[[.e0, .e0]]⟩),(6,⟨true,0,0,[[.e0, .e0]]⟩)]⟩
def Ai (a:(List Std)×(List (List aK))×(List cv)):St:=R6 a.1 a.2.1 a.2.2
theorem ax4 a a' (h:Ai a=Ai a'):a=a':=by
 simp only[Ai,R6]at h
 try simp[pv,gT,nU]at h
 grind
theorem ax5:ac Ai (St.mk [(15,(vI (0:Int))),(14,(vI (↑(ae l):Int))),(13,AV.sl (ab aE l)),(8,(vS (az (aA [])))),(7, .ptr 7 0 0),(6, .ptr 6 0 0),
 (2,AV.sl (ab cp cs)),(1,AV.sl (ab b8 ss)),(0,AV.sl (ab aE l))] [(7,ah.mk true 0 0 [[AV.e0,AV.e0]]),(6,ah.mk true 0 0 [[AV.e0,
 AV.e0]])])=some (l,ss,cs):=ax ax4 (l,ss,cs) rfl
def Jz:T (Ex×St):= .ret (.exit 0,⟨[(8,vS (oY l)),(7, .ptr 7 0 0),(6, .ptr 6 0 0),(2, .sl (cs.map cp)),(1, .sl (ss.map b8)),(0, .sl (l.map aE))],[(891,⟨false,116,5,(mw l).map bg⟩),(7,⟨true,0,0,[[.e0, .own 891]]⟩),(6,⟨true,0,0,[[.e0, .e0]]⟩)]⟩)
def R7 (ss:List (List aK)) (cs:List cv):Bool:=decide (l.length<=12)&&l.all fun r=>decide (r.name.size<=40)
def ax6:Nat×(St->T (Ex×St)):=(4,lpo [15,14,13,8,7,6,2,1,0] [7,6] Ai (bU R7) (bU Jz))
def JA (g:ByteArray) (so:List aR) (k:Nat):St:=⟨[(15,vI k),(14,vI l.length),(13, .sl (l.map aE)),(8,vS g),(7, .ptr 7 0 0),(6, .ptr 6 0 0),(2, .sl (cs.map cp)),(1, .sl (ss.map b8)),(0, .sl (l.map aE))],[(891,⟨false,116,5,so.map bg⟩),(7,⟨true,0,0,[[.e0, .own 891]]⟩),(6,⟨true,0,0,[[.e0, .e0]]⟩)]⟩
def R8 (g:ByteArray) (so:List aR):St:=⟨[(40,vI 0),(39,vI l.length),(38, .sl (l.map aE)),(8,vS g),(7, .ptr 7 0 0),(6, .ptr 6 0 0),(2, .sl (cs.map cp)),(1, .sl (ss.map b8))],[(891,⟨false,116,5,so.map bg⟩),(7,⟨true,0,0,[[.e0, .own 891]]⟩),(6,⟨true,0,0,[[.e0, .e0]]⟩)]⟩
def Aj (a:(List Std)×(List (List aK))×(List cv)×ByteArray×(List aR)):St:=R8 a.1 a.2.1 a.2.2.1 a.2.2.2.1 a.2.2.2.2
theorem ax7 a a' (h:Aj a=Aj a'):a=a':=by
 simp only[Aj,R8]at h
 try simp[pv,gT,nU,iN]at h
 grind
theorem ax8 (g:ByteArray) (so:List aR):ac Aj (St.mk [(40,(vI (0:Int))),(39,(vI (↑(ae l):Int))),(38,AV.sl (ab aE l)),(8,(vS g)),(7, .ptr 7 0 0),(6, .ptr 6 0 0),(2,AV.sl (ab cp
 cs)),(1,AV.sl (ab b8 ss))] [(891,ah.mk false 116 5 (ab bg so)),(7,ah.mk true 0 0 [[AV.e0, .own 891]]),(6,ah.mk true 0 0 [[AV.e0,AV.e0]])])=some (l,ss,cs,g,so):=ax ax7 (l,ss,cs,g,so) rfl
def JB (g:ByteArray) (so:List aR):T (Ex×St):= .ret (.exit 2,⟨[(7, .ptr 7 0 0),(6, .ptr 6 0 0)],[(891,⟨false,116,5,so.map bg⟩),(890,⟨false,118,7,(iQ l ss cs g l.length).map bO⟩),(7,⟨true,0,0,[[.own 890, .own 891]]⟩),(6,⟨true,0,0,[[.e0, .e0]]⟩)]⟩)
def R9 (g:ByteArray) (so:List aR):Bool:=decide (l.length<=12)&&(decide (ss.length=l.length)&&(decide (cs.length=gn l)&&((l.all fun r=>decide (r.name.size<=40) && !bW r.aU)&&ss.all kU)))
def ax9:Nat×(St->T (Ex×St)):=(11,lpo [40,39,38,8,7,6,2,1] [891,7,6] Aj (fa R9) (fa JB))
def Es (g:ByteArray) (so:List aR) (st:List bu) (k:Nat):St:=⟨[(40,vI k),(39,vI l.length),(38, .sl (l.map aE)),(8,vS g),(7, .ptr 7 0 0),(6, .ptr 6 0 0),(2, .sl (cs.map cp)),(1, .sl (ss.map b8))],[(891,⟨false,116,5,so.map bg⟩),(890,⟨false,118,7,st.map bO⟩),(7,⟨true,0,0,[[.own 890, .own 891]]⟩),(6,⟨true,0,0,[[.e0, .e0]]⟩)]⟩
def pZ:Env:=bq ty au bp [acV] [] [] [ax6,ax9]
theorem aya:aZ Tryz.prog pZ:=bG (aI ax3 bF)
theorem acW (g:ByteArray) (so:List aR) (k:Nat):((exec pZ (aw f18 0) (JA l ss cs g so k)).bind (bE ([15,14,13,8,7,6,2,1,0],[891,7,6]) ([8,7,6,2,1,0],[891,7,6]) ([],[]))).val =
 (fun(q:Std)=>(fun(q_1:Nat×AV)=>(fun(q_2:ByteArray)=>(fun(q_3:AV)=>(fun(q_4:List (Nat×ah))=>(fun(q_5:List (Nat×AV))=>(fun(q_6:List
 (Nat×ah))=>(fun(q_7:List (Nat×AV))=>bif decide ((↑k:Int)<(↑(ae l):Int)) then ai (ac (ab aE) (ab aE l)) fun z=>bif decide (k<ae z) then bif (al z k q).sound then bif aP (aJ (al z k q).name+aJ q_2) 9223372036854775807 then bif aP ((ae (ab bg so)+1)*72) 140737488355328&&true then some (Ex.normal,St.mk (q_1::(14,(vI
 (↑(ae l):Int)))::(13,AV.sl (ab aE l))::(8,q_3)::q_5) ((891,ah.mk false 116 5 (ab bg so++[[q_3,(vS (al z k q).name),(vS
 (az (aA [(117:UInt8),(110:UInt8),(100:UInt8)]))),(vB ((↑(ae (ab bg so)):Int)==0)),(vS ((al z k q).name ++
 q_2))]]))::q_4)) else none else none else some (Ex.normal,St.mk (q_1::(14,(vI (↑(ae l):Int)))::(13,AV.sl (ab aE l))::q_7) q_6) else none else
 some (Ex.exit (0:Nat),St.mk q_7 q_6)) ((8,(vS g))::q_5)) ((891,ah.mk false 116 5 (ab bg so))::q_4)) [(7, .ptr 7 0 0),(6, .ptr 6 0 0),(2,AV.sl
 (ab cp cs)),(1,AV.sl (ab b8 ss)),(0,AV.sl (ab aE l))]) [(7,ah.mk true 0 0 [[AV.e0, .own 891]]),(6,ah.mk true 0 0 [[AV.e0,AV.e0]])])
 ((vS ⟨⟨[115,111,117,110,100]⟩⟩))) (az (aA [(46:UInt8),(108:UInt8),(105 :
 UInt8),(115:UInt8),(116:UInt8)]))) (15,(vI (am.wrap ((↑k:Int)+1))))) (Std.mk (az (aA [])) (0:Int) false []):=(cr _ _ _).symm.trans (by kernel_rfl)
theorem acX (g:ByteArray) (so:List aR) (st:List bu) (k:Nat):((exec pZ (aw f18 1) (Es l ss cs g so st k)).bind (bE ([40,39,38,8,7,6,2,1],[891,890,7,6]) ([7,6],[891,890,7,6]) ([],[]))).val =
 (fun(q:Std)=>(fun(q_1:List (Nat×ah))=>(fun(q_2:List (Nat×ah))=>(fun(q_3:List (Nat×AV))=>bif decide ((↑k:Int)<(↑(ae l):Int)) then
 ai (ac (ab aE) (ab aE l)) fun z=>bif decide (k<ae z) then bif !(al z k q).sound then ai (ac
 (ab b8) (ab b8 ss)) fun z_1=>bif decide (k<ae z_1) then ai (ac (ab cp) (ab cp cs)) fun
 (z_2:List cv)=>(fun(q_4:cv)=>bif decide (ae (ab bO st)<ae z_2) then ai (ac rQ [AV.agg [(vS (al z k q).name),
 (vI (al z k q).aU),(vB (al z k q).sound),AV.sl (ab aQ (al z k q).aL)],AV.sl (ab bj (al z_1 k [])),AV.agg [(vI
 q_4.width),(vI q_4.dL)],(vS g)]) fun z=>bif kU z.2.1&&(!bW z.1.aU&&decide (aJ z.1.name <=
 (40:Nat))) then bif aP ((ae (ab bO st)+1)*80) 140737488355328&&true then some (Ex.normal,St.mk q_3 ((891,ah.mk
 false 116 5 (ab bg so))::(890,ah.mk false 118 7 (ab bO st++[[(vS z.1.name),(vS (sw z.1.name)),(vI (si (qm z.2.1) (kX
 z.2.1) z.1.aU)),(vI (qk z.1.aU z.2.1)),(vI z.2.2.1.width),(vI z.2.2.1.dL),(vS z.2.2.2)]]))::q_1)) else none else none else
 none) (al z_2 (ae (ab bO st)) (cv.mk (0:Int) (0:Int))) else none else some (Ex.normal,St.mk q_3 q_2) else none else some (Ex.exit (2:Nat),
 St.mk [(7, .ptr 7 0 0),(6, .ptr 6 0 0)] q_2)) [(40,(vI (am.wrap ((↑k:Int)+1)))),(39,(vI (↑(ae l):Int))),(38,AV.sl (ab
 aE l)),(8,(vS g)),(7, .ptr 7 0 0),(6, .ptr 6 0 0),(2,AV.sl (ab cp cs)),(1,AV.sl (ab b8 ss))]) ((891,ah.mk false 116 5 (ab bg so)) ::
 (890,ah.mk false 118 7 (ab bO st))::q_1)) [(7,ah.mk true 0 0 [[.own 890, .own 891]]),(6,ah.mk true 0 0 [[AV.e0,AV.e0]])]) (Std.mk (az
 (aA [])) (0:Int) false []):=(cr _ _ _).symm.trans (by kernel_rfl)
theorem ayb (n:Nat):((n:Int)==0)=decide (n=0):=DM n
theorem ayc (l:List Std) (ss:List (List aK)) (cs:List cv) (h1:l.length<=12) (h2:(l.all fun r=>decide (r.name.size<=40))=true) (k:Nat) (h3:k<=l.length) :
  ∀ex s',(Jz l ss cs).val=some (ex,s')->ba pZ (aw f18 0) (JA l ss cs (oY (l.take k)) (mw (l.take k)) k) ex s':=by
 refine cE (st:=fun k:Nat=>JA l ss cs (oY (l.take k)) (mw (l.take k)) k) (out:=fun _=>Jz l ss cs) (I:=fun k=>k<=l.length) (n:=([15,14,13,8,7,6,2,1,0],[891,7,6])) (e:=([8,7,6,2,1,0],[891,7,6])) (r:=([],[])) (fun k=>l.length - k) ?_ k h3
 clear h3 k
 intro k h3
 by_cases hlt:k<l.length
 .right
  have hy:l[k]? = some l[k]:=bC hlt
  have hN:=ch hlt (by omega:l.length<=9223372036854775807)
  have hsz:l[k].name.size<=40:=by have:=bP.1 h2 _ (iZ hlt);simpa using this
  generalize l[k]=y at hy hsz
  have f1:o9 (mw (l.take k)) y=mw (l.take (k+1)):=Ag hy o9 []
  have f2:Fm (oY (l.take k)) y=oY (l.take (k+1)):=Ag hy Fm _
  have hsl:=afS (l.take k) []
  have hl2:(mw (l.take k)).length<=12:=by
   rw[eY]at hsl
   have:(mw (l.take k)).length=(Ls o9 [] (l.take k)).length:=rfl
   simp only[i6,gD]at hsl
   omega
  have b1:aP (y.name.size+(⟨#[46,108,105,115,116]⟩:ByteArray).size) 9223372036854775807=true:=cg (by rw[show(⟨#[46,108,105,115,116]⟩:ByteArray).size=5 from rfl];omega)
  have b2:aP (((mw (l.take k)).length+1)*72) 140737488355328=true:=cg (by omega)
  refine⟨k+1,?_,rfl,hlt,by omega,rfl⟩
  rw[acW]
  simp only[ar,aN,gK,ak,aS,bA hlt,aj hlt,hN,getD_at hy,b1,b2,ayb]
  cases hs:y.sound
  .unfold o9 at f1
   unfold Fm at f2
   rw[hs]at f1 f2
   simp only[ap]at f1 f2 ⊢
   rw[<-f1,<-f2]
   rfl
  .unfold o9 at f1
   unfold Fm at f2
   rw[hs]at f1 f2
   simp only[ak]at f1 f2 ⊢
   unfold JA
   rw[<-f1,<-f2,l7]
   rfl
 .left
  have hk:k=l.length:=by omega
  subst hk
  refine⟨_,?_,rfl,by simp,rfl⟩
  rw[acW]
  simp only[ar,aN,gK,ap,aS,gJ,B7]
  try rfl
theorem ayd (hp:R7 l ss cs=true) : ∀ex s',(Jz l ss cs).val=some (ex,s')->ba pZ (aw f18 0) (R6 l ss cs) ex s':=by
 simp only[R7,aG,aM]at hp
 obtain⟨h1,h2⟩:=hp
 intro ex s' h
 refine .own 7 1 891 116 5 rfl ?_
 exact ayc l ss cs h1 h2 0 (cf _) ex s' h
theorem aye (l:List Std) (ss:List (List aK)) (cs:List cv) (g:ByteArray) (so:List aR) (h1:l.length<=12) (h2:ss.length=l.length) (h3:cs.length=gn l) (h4:(l.all fun r=>decide (r.name.size<=40) && !bW r.aU)=true) (h5:ss.all kU=true) (k:Nat) (h6:k<=l.length) :
  ∀ex s',(JB l ss cs g so).val=some (ex,s')->ba pZ (aw f18 1) (Es l ss cs g so (iQ l ss cs g k) k) ex s':=by
 refine cE (st:=fun k:Nat=>Es l ss cs g so (iQ l ss cs g k) k) (out:=fun _=>JB l ss cs g so) (I:=fun k=>k<=l.length) (n:=([40,39,38,8,7,6,2,1],[891,890,7,6])) (e:=([7,6],[891,890,7,6])) (r:=([],[])) (fun k=>l.length - k) ?_ k h6
 clear h6 k
 intro k h6
 by_cases hlt:k<l.length
 .right
  have hy:l[k]? = some l[k]:=bC hlt
  have hN:=ch hlt (by omega:l.length<=9223372036854775807)
  have hyp:=bP.1 h4 _ (iZ hlt)
  have hx:ss[k]? = some ss[k]:=bC (by omega)
  have hxs:=bP.1 h5 _ (iZ (show k<ss.length by omega))
  have hz:l.zipIdx[k]? = some (l[k],k):=by rw[FJ,hy];simp
  have f1:Fs ss cs g (iQ l ss cs g k) (l[k],k)=iQ l ss cs g (k+1):=Ag hz (Fs ss cs g) []
  have hsl:=afJ l ss cs g k (by omega)
  have hpl:=fun hs=>aEs hy hs
  have hpk:gn (l.take k)<=12:=by
   have:gn (l.take k)<=(l.take k).length:=List.countP_le_length
   rw[eY]at this
   omega
  generalize l[k]=y at *
  generalize ss[k]=x at *
  simp only[aG,aM]at hyp
  have dx:decide (k<ss.length)=true:=aj (by omega)
  have b2:aP (((iQ l ss cs g k).length+1)*80) 140737488355328=true:=cg (by omega)
  refine⟨k+1,?_,rfl,hlt,by omega,rfl⟩
  rw[acX]
  unfold Fs at f1
  simp only at f1
  cases hs:y.sound
  .rw[hs]at f1
   have dc:decide ((iQ l ss cs g k).length<cs.length)=true:=aj (by rw[hsl,h3];exact hpl hs)
   rw[getD_at hx]at f1
   simp only[ap]at f1
   simp only[R4,m0,MS,ar,aN,tz,gK,GU,ak,fM,bA hlt,aj hlt,hN,getD_at hy,hs,dx,getD_at hx,dc,hxs,hyp.2,aj hyp.1,bT,b2,dt]
   have u:ac rQ [AV.agg [(vS y.name),(vI y.aU),(vB false),AV.sl (ab aQ y.aL)],AV.sl (ab bj x),AV.agg [(vI (cs.getD (iQ l ss cs g k).length ⟨0,0⟩).width),(vI (cs.getD (iQ l ss cs g k).length ⟨0,0⟩).dL)],(vS g)]=some (y,x,cs.getD (iQ l ss cs g k).length ⟨0,0⟩,g):=by
    have:=ax2 y x (cs.getD (iQ l ss cs g k).length ⟨0,0⟩) g
    rw[hs]at this
    exact this
   try rw[u]
   try simp only[ar,hxs,hyp.2,aj hyp.1,bT,ak,b2]
   unfold Es
   rw[<-f1,l7]
   rfl
  .rw[hs]at f1
   simp only[ak]at f1
   simp only[R4,m0,MS,ar,aN,tz,gK,GU,ak,ap,aS,bA hlt,aj hlt,hN,getD_at hy,hs,dC]
   unfold Es
   rw[<-f1]
 .left
  have hk:k=l.length:=by omega
  subst hk
  refine⟨_,?_,rfl,by simp,rfl⟩
  rw[acX]
  simp only[R4,m0,MS,ar,aN,tz,gK,GU,ap,aS,gJ]
  try rfl
theorem ayf (g:ByteArray) (so:List aR) (hp:R9 l ss cs g so=true) : ∀ex s',(JB l ss cs g so).val=some (ex,s')->ba pZ (aw f18 1) (R8 l ss cs g so) ex s':=by
 simp only[R9,aG,aM]at hp
 obtain⟨h1,h2,h3,h4,h5⟩:=hp
 intro ex s' h
 refine .own 7 0 890 118 7 rfl ?_
 have:=aye l ss cs g so h1 h2 h3 h4 h5 0 (cf _) ex s' h
 exact this
theorem ayg:(aB pZ false f18 [.sl (l.map aE), .sl (ss.map b8), .sl (cs.map cp)]).val =
 ai (ac Ai (St.mk [(15,(vI 0)),(14,(vI (↑(ae (ab aE l)):Int))),(13,AV.sl (ab aE l)),(8,(vS (az (aA
 [])))),(7, .ptr 7 0 0),(6, .ptr 6 0 0),(2,AV.sl (ab cp cs)),(1,AV.sl (ab b8 ss)),(0,AV.sl (ab aE l))] [(7,ah.mk true 0 0 [[AV.e0,
 AV.e0]]),(6,ah.mk true 0 0 [[AV.e0,AV.e0]])])) fun z=>bif (decide (ae z.1<=12)&&fx z.1 fun(r
 : Std)=>decide (aJ r.name<=40))&&true then ai (ac Aj (St.mk [(40,(vI 0)),(39,(vI (↑(ae (ab aE z.1))
 : Int))),(38,AV.sl (ab aE z.1)),(8,(vS (oY z.1))),(7, .ptr 7 0 0),(6, .ptr 6 0 0),(2,AV.sl (ab cp z.2.2)),(1,AV.sl (ab b8
 z.2.1))] [(891,ah.mk false 116 5 (ab bg (mw z.1))),(7,ah.mk true 0 0 [[AV.e0, .own 891]]),(6,ah.mk true 0 0 [[AV.e0,AV.e0]])])) fun z=>bif decide (ae z.1<=12)&&(decide (ae z.2.1=ae z.1)&&(decide
 (ae z.2.2.1=gn z.1)&&((fx z.1 fun(r:Std)=>decide (aJ r.name<=40) && !bW r.aU)&&fx z.2.1
 kU)))&&true then some (AV.agg [AV.sl (ab bO (iQ z.1 z.2.1 z.2.2.1 z.2.2.2.1 (ae z.1))),AV.sl (ab bg
 z.2.2.2.2)],[]) else none else none:=(cm).symm.trans (by kernel_rfl)
def JC:List AV:=[.sl (l.map aE), .sl (ss.map b8), .sl (cs.map cp)]
def Ak (a:(List Std)×(List (List aK))×(List cv)):List AV:=JC a.1 a.2.1 a.2.2
theorem ayh a a' (h:Ak a=Ak a'):a=a':=by
 simp only[Ak,JC]at h
 try simp[pv,gT,nU]at h
 grind
theorem ayi:ac Ak ([AV.sl (ab aE l),AV.sl (ab b8 ss),AV.sl (ab cp cs)])=some (l,ss,cs):=ax ayh (l,ss,cs) rfl
def Sa:AV×Heap:=(.agg (jY (pa l ss cs)),[])
def acY:Bool:=decide (l.length<=12)&&(decide (ss.length=l.length)&&(decide (cs.length=gn l)&&((l.all fun r=>decide (r.name.size<=40) && !bW r.aU)&&ss.all kU)))
end
def acZ:aW:=aY 18 false Ak (bU acY) (bU Sa)
theorem ayj:aX Tryz.prog au acZ:=by
 refine cQ f18 aya (md (x0:=aw f18 0) (x1:=aw f18 1) (by kernel_rfl) (bS ?_) (bS ?_)) ?_
 .rintro⟨l,ss,cs⟩ hp
  exact ayd l ss cs hp
 .rintro⟨l,ss,cs,g,so⟩ hp
  exact ayf l ss cs g so hp
 rintro⟨l,ss,cs⟩ hpre hok
 show(aB pZ false _ (JC _ _ _)).val=some (Sa _ _ _)
 unfold JC Sa
 rw[ayg]
 simp only[acY,bU,aG,aM]at hpre
 obtain⟨h1,h2,h3,h4,h5⟩:=hpre
 have h6:(l.all fun r=>decide (r.name.size<=40))=true:=bP.2 fun r hr=>by
  have:=bP.1 h4 r hr
  simp only[aG]at this
  exact this.1
 simp only[ax5,ax8,ar,aN,ak,aS,aN,aj h1,h6,aj h2,aj h3,h4,h5,bT]
 rfl
end M
def qj (l:List Std):Int:=jN (dI (l.getD 0 ⟨⟨#[]⟩,0,false,[]⟩).aL)
def ib (l:List Std) (w:b9):List Int×Int:=((lR ((no l).map (·.time)) (qj l) w).1,(lR ((no l).map (·.time)) (qj l) w).2.2)
theorem Uo {r:Std} {sc:Int} {l:List Int} {first:Int} (h:(kv r sc l first).2=0) :
  (1<=l.length/\l.length<=1000) /\ ∃fs cs,fs.length=l.length/\(kv r sc l first).1=mz r first fs cs:=by
 unfold kv at h ⊢
 cases h1:bW sc with
 | true=>rw[h1]at h;simp at h
 | false=>
  rw[h1]at h
  simp only[ap]at h ⊢
  by_cases h2:ko l=0
  .rw[M.cR h2]at h ⊢
   simp only[ap]at h ⊢
   cases h3:F.out first 0 999999999999000 with
   | true=>rw[h3]at h;simp at h
   | false=>
    rw[h3]at h
    simp only[ap]at h ⊢
    by_cases h4:sb r sc l=0
    .have e:gy r sc l=(l.map (ed r sc),l.map (iU r sc),0):=by unfold gy;rw[M.cR h4];rfl
     rw[e]at h ⊢
     simp only[bne_self_eq_false,ap]at h ⊢
     cases h5:((l.map (ed r sc)).getD 0 0 != 0)with
     | true=>rw[h5]at h;simp at h
     | false=>
      rw[h5]at h
      simp only[ap]at h ⊢
      cases h6:decide ((kW r first (l.map (ed r sc)) (l.map (iU r sc)) ((l.map (ed r sc)).length - 1)).length<0)with
      | true=>rw[h6]at h;simp at h
      | false=>
       exact⟨KR h2,_,_,aN ..,rfl⟩
    .have e:gy r sc l=([],[],sb r sc l):=by unfold gy;rw[M.cP h4];rfl
     rw[e]at h
     simp only[M.cP h4,ak]at h
     exact absurd h h4
  .rw[M.cP h2]at h;exact absurd h h2
theorem aEu {r:Std} {first:Int} {fs cs:List Int}:(mz r first fs cs).all (fun s=>bz s.number)=true:=by
 refine bP.2 fun s hs=>?_
 unfold mz at hs
 obtain⟨k,_,rfl⟩:=eQ.1 hs
 exact agh _
theorem afG (r:Std) (first:Int) (fs cs:List Int):(mz r first fs cs).length=fs.length:=by
 unfold mz
 rw[aN,sN]
theorem afN {l:List Std} {bs:List Int} {first:Int} (h:(gp l bs first).2=0) (h0:dV l=0) :
  (gp l bs first).1.length=l.length/\(1<=bs.length/\bs.length<=1000)/\(∀r∈l,(kv r (eD l) bs first).2=0)/\(gp l bs first).1=l.map (kp l bs first) /\
   ∀s∈(gp l bs first).1,s.length=bs.length/\(s.all fun x=>bz x.number)=true:=by
 unfold gp at h ⊢
 rw[M.cR h0]at h ⊢
 simp only[ap]at h ⊢
 by_cases hf:M.bN (oe l bs first) l=0
 .rw[M.cR hf]
  simp only[ap]
  have hz : ∀r∈l,(kv r (eD l) bs first).2=0:=fun r hr=>oZ hf r hr
  obtain⟨⟨n1,n2⟩,n3⟩:=sB h0
  have hm:l[0]∈l:=iZ (by omega)
  refine⟨aN ..,(Uo (hz _ hm)).1,hz,by first | rfl | trivial,fun s hs=>?_⟩
  obtain⟨r,hr,rfl⟩:=eQ.1 hs
  obtain⟨_,fs,cs,e1,e2⟩:=Uo (hz r hr)
  unfold kp
  rw[e2]
  exact⟨by rw[afG,e1],aEu⟩
 .rw[M.cP hf]at h;exact absurd h hf
theorem aFc {s:ByteArray} (h:g8 s=true):s.size<=40:=by
 unfold g8 at h
 simp only[aG,aM]at h
 exact h.1.1.2
theorem aE3 {l:List Std} (h:dV l=0) : ∀r∈l,r.name.size<=40:=by
 intro r hr
 have h3:BA l=0:=by
  unfold dV F.lt at h
  by_cases h1:l.length=0
  .rw[aj h1]at h;simp at h
  .rw[aH h1]at h
   simp only[ap]at h
   by_cases h2:(12:Int)<l.length
   .rw[aj h2]at h;simp at h
   .rw[aH h2]at h
    simp only[ap]at h
    by_cases h3:BA l=0
    .exact h3
    .rw[M.cP h3]at h;exact absurd h h3
 obtain⟨k,hk,rfl⟩:=pi.1 hr
 have hm:(l[k],k)∈l.zipIdx:=List.mem_zipIdx_iff_getElem?.2 (bC hk)
 have:=oZ h3 _ hm
 simp only at this
 unfold kT at this
 cases hn:g8 l[k].name with
 | true=>exact aFc hn
 | false=>rw[hn]at this;simp at this
namespace M
def Sb:Env:=bq ty au bp [abz,QO,IA,abK] [] [] []
theorem ayk:aZ Tryz.prog Sb:=bG (aI atB (aI abR (aI PP (aI auk bF))))
section
variable (l:List Std) (w:b9)
theorem ayl:(aB Sb false f13 [.sl (l.map aE), .agg (gU w)]).val =
 ai (ac zj [AV.sl (ab aE l)]) fun z=>bif (sg z).snd != 0 then some (AV.aF [AV.sl [],(vI (sg z).snd)],[]) else
 ai (ac (ab aE) (ab aE l)) fun z_1=>bif decide ((0:Nat)<ae z_1) then ai (ac uE [AV.sl (ab aQ
 (al z_1 (0:Nat) (Std.mk (az (aA [])) (0:Int) false [])).aL)]) fun z_2=>bif (bif cJ z_2 != 0 then ([],cJ
 z_2) else (dI z_2,(0:Int))).snd != 0 then some (AV.aF [AV.sl [],(vI (bif cJ z_2 != 0 then ([],cJ z_2) else (dI z_2,(0 :
 Int))).snd)],[]) else ai (ac pS [AV.sl (ab eI (bif cJ z_2 != 0 then ([],cJ z_2) else (dI z_2,(0:Int))).fst)]) fun(z_3 :
 List Int)=>bif decide (ae z_3<=5000)&&decide ((1:Nat)<=ae z_3) then ai (ac zo [AV.sl (ab eI (sg z).fst),(vI
 (jN z_3)),AV.agg [(vI w.aU),(vI w.target),(vI w.gv)]]) fun z=>some (AV.aF [AV.sl (ab eI (lR z.1 z.2.1
 z.2.2).fst),(vI (lR z.1 z.2.1 z.2.2).snd.snd)],[]) else none else none:=(cm).symm.trans (by kernel_rfl)
def JD:List AV:=[.sl (l.map aE), .agg (gU w)]
def Al (a:(List Std)×b9):List AV:=JD a.1 a.2
theorem aym a a' (h:Al a=Al a'):a=a':=by
 simp only[Al,JD]at h
 try simp[gT,pw]at h
 grind
theorem ayn (w_scale:Int) (w_target:Int) (w_most:Int):ac Al ([AV.sl (ab aE l),AV.agg [(vI w_scale),(vI w_target),(vI w_most)]])=some (l,(b9.mk w_scale w_target w_most)):=ax aym (l,(b9.mk w_scale w_target w_most)) rfl
def Sc:AV×Heap:=(.aF [.sl ((ib l w).1.map eI),vI (ib l w).2],[])
def ayo (w:b9):Bool:=decide (dV l=0)
end
def ac0:aW:=aY 13 false Al (aT ayo) (aT Sc)
theorem ayp:aX Tryz.prog au ac0:=by
 refine cx f13 ayk ?_
 rintro⟨l,w⟩ hpre hok
 show(aB Sb false _ (JD _ _)).val=some (Sc _ _)
 unfold JD Sc
 rw[ayl]
 have h1:dV l=0:=of_decide_eq_true hpre
 obtain⟨a1,a2,a3,a4⟩:=Qp h1
 have e1:sg l=((no l).map (·.time),0):=by unfold sg;rw[cR h1];rfl
 have e2:pU (l.getD 0 ⟨⟨#[]⟩,0,false,[]⟩).aL=(dI (l.getD 0 ⟨⟨#[]⟩,0,false,[]⟩).aL,0):=by unfold pU;rw[cR a3];rfl
 unfold pU at e2
 have hel:=Uw (l.getD 0 ⟨⟨#[]⟩,0,false,[]⟩).aL
 have hsl:=sy a3
 simp only[atz,abQ,Iz,aui,px,ar,gK,ak,ap,aj a1,e1,e2,bne_self_eq_false,hel,aj hsl,aj a4,bT]
 unfold ib qj
 try rfl
end M
structure Et where
 bounds:List Int
 lK:List (List aK)
 lists:List bH
 Kd:kJ
def sr (ss:List (List aK)):Bool:=ss.any fun s=>s.any fun x=>x.length==0
def kV (ss:List (List aK)) (first:Int) (p:Std×Nat):Int:=(lS p.1 (ss.getD p.2 []) first).2
def nt (ss:List (List aK)) (first:Int) (p:Std×Nat):bH:=(lS p.1 (ss.getD p.2 []) first).1
def qp:Et:=⟨[],[],[],⟨[],[]⟩⟩
def KJ (l:List Std) (cs:List cv) (first:Int) (bs:List Int) (ss:List (List aK)):Et×Int:=
 bif sr ss then (qp,13) else bif M.bN (kV ss first) l.zipIdx != 0 then (qp,M.bN (kV ss first) l.zipIdx) else
 bif qb (pa l ss cs) != 0 then (qp,qb (pa l ss cs)) else (⟨bs,ss,l.zipIdx.map (nt ss first),pa l ss cs⟩,0)
def eE (l:List Std) (cs:List cv) (w:b9) (first:Int):Et×Int:=
 bif dV l != 0 then (qp,dV l) else bif o7 l cs != 0 then (qp,o7 l cs) else bif w.aU != eD l then (qp,6) else
 bif (ib l w).2 != 0 then (qp,(ib l w).2) else bif (gp l (ib l w).1 first).2 != 0 then (qp,(gp l (ib l w).1 first).2) else
 KJ l cs first (ib l w).1 (gp l (ib l w).1 first).1
theorem afU {r:Std} {s:List aK} {first:Int} (h:(lS r s first).2=0):lN s=0/\bW r.aU=false/\lS r s first=(sj r s (su s r.aU) first,0)/\gm (sj r s (su s r.aU) first)=0:=by
 unfold lS at h ⊢
 by_cases h1:(iV s r.aU).2=0
 .rw[M.cR h1]at h ⊢
  simp only[ap]at h ⊢
  have h2:=h1
  unfold iV at h1
  cases hs:bW r.aU with
  | true=>rw[hs]at h1;simp at h1
  | false=>
   rw[hs]at h1
   simp only[ap]at h1
   by_cases hr:lN s=0
   .have e:iV s r.aU=(su s r.aU,0):=by unfold iV;rw[hs,M.cR hr];rfl
    rw[e]at h ⊢
    simp only at h ⊢
    exact⟨hr,by first | exact hs | trivial,by rw[h],h⟩
   .rw[M.cP hr]at h1;exact absurd h1 hr
 .rw[M.cP h1]at h;exact absurd h h1
theorem aE1 {l:List Std} {ss:List (List aK)} {first:Int} {n:Nat} (h1:ss.length=l.length) (h2:1<=n/\n<=1000) (h3 : ∀s∈ss,s.length=n) (h4:sr ss=false) (h5:M.bN (kV ss first) l.zipIdx=0):ss.all kU=true:=by
 refine bP.2 fun s hs=>?_
 obtain⟨k,hk,rfl⟩:=pi.1 hs
 have hl:l[k]? = some (l[k]'(by omega)):=bC (by omega)
 have hz:l.zipIdx[k]? = some (l[k]'(by omega),k):=by rw[FJ,hl];simp
 have h6:=oZ h5 _ (cL hz)
 unfold kV at h6
 simp only at h6
 rw[M.getD_at (bC hk)]at h6
 obtain⟨r1,r2⟩:=UJ (afU h6).1
 have h7:=h3 _ hs
 have h8:(ss[k].any fun x=>x.length==0)=false:=by
  unfold sr at h4
  exact BW.1 h4 _ hs |> fun h=>by simpa using h
 unfold kU
 rw[aj (show 1<=ss[k].length by omega),aj r1]
 simp only[fM]
 refine bP.2 fun x hx=>?_
 have h9:=(r2 x hx).2.1
 have h10:=BW.1 h8 x hx
 have h11:x.length≠0:=by simpa using h10
 rw[aj (show 1<=x.length by omega),aj h9.2]
 rfl
namespace M
def ayq (p:Et):Row:=[.sl (p.bounds.map eI), .sl (p.lK.map b8), .sl (p.lists.map cd), .sl (p.Kd.streams.map bO), .sl (p.Kd.cG.map bg)]
theorem ayr (s:aK):(aB dj false f16 [.agg (bj s)]).val =
 some ((vB (s.length==0)),[]):=(cm).symm.trans (by kernel_rfl)
def JE (s:aK):List AV:=[.agg (bj s)]
def Am (a:aK):List AV:=JE a
theorem ays a a' (h:Am a=Am a'):a=a':=by
 simp only[Am,JE]at h
 try simp[Xk]at h
 grind
section
variable (l:List aK) (k:Nat)
theorem ac1 (s_number:Int) (s_fr:Int) (s_to:Int) (s_begin:Int) (s_length:Int) (s_bytes:Int) (s_lead:Int):ac Am ([AV.agg [(vI s_number),(vI s_fr),(vI s_to),(vI s_begin),(vI s_length),(vI s_bytes),(vI s_lead)]])=some ((aK.mk s_number s_fr s_to s_begin s_length s_bytes s_lead)):=ax ays ((aK.mk s_number s_fr s_to s_begin s_length s_bytes s_lead)) rfl
def Sd (s:aK):AV×Heap:=(vB (s.length==0),[])
def ayt (s:aK):Bool:=true
def oZl:aW:=aY 16 true Am ayt Sd
theorem ayu:aX Tryz.prog au oZl:=by
 refine cx f16 gL ?_
 rintro s hpre hok
 show(aB dj false _ (JE _)).val=some (Sd _)
 unfold JE Sd
 rw[ayr]
def An:St:=⟨[(8,vI k),(7,vI l.length),(1, .fn 16 []),(0, .sl (l.map bj))],[]⟩
def Ao (a:(List aK)×Nat):St:=An a.1 a.2
theorem ayv a a' (h:Ao a=Ao a'):a=a':=by
 simp only[Ao,An]at h
 try simp[jW]at h
 grind
theorem ayw: ac Ao (St.mk [(8,(vI (0:Int))),(7,(vI (↑(ae l):Int))),(1,AV.fn (16:FuncId) []),(0,AV.sl (ab bj l))] [])=some (l,0):=ax ayv (l,0) rfl
def Ap:T (Ex×St):= .bM (F.found (cu (fun s=>s.length==0) k (l.drop k))) (.ret (.ret,⟨[(4,vI ((F.fp (cu (fun s=>s.length==0) k (l.drop k)) 0:Nat):Int))],[]⟩)) (.ret (.exit 0,⟨[],[]⟩))
def Se:Bool:=decide (l.length<=9223372036854775807)&&decide (k<=l.length)
def ayx:Nat×(St->T (Ex×St)):=(2,lpo [8,7,1,0] [] Ao (aT Se) (aT Ap))
def Eu:Env:=bq ty au bp [oZl] [] [] [ayx]
theorem ayy:aZ Tryz.prog Eu:=bG (aI ayu bF)
theorem Sf:((exec Eu (aw f44 0) (An l k)).bind (bE ([8,7,1,0],[]) ([],[]) ([4],[]))).val =
 bif decide ((↑k:Int)<(↑(ae l):Int)) then ai (ac (ab bj) (ab bj l)) fun z=>bif decide (k<ae z) then
 ai (ac Am [AV.agg [(vI (al z k (aK.mk (0:Int) (0:Int) (0:Int) (0:Int) (0:Int) (0:Int) (0:Int))).number),(vI (al z k (aK.mk (0
 : Int) (0:Int) (0:Int) (0:Int) (0:Int) (0:Int) (0:Int))).fr),(vI (al z k (aK.mk (0:Int) (0:Int) (0:Int) (0:Int) (0:Int) (0:Int) (0 :
 Int))).tqq),(vI (al z k (aK.mk (0:Int) (0:Int) (0:Int) (0:Int) (0:Int) (0:Int) (0:Int))).begin),(vI (al z k (aK.mk (0:Int) (0:Int) (0 :
 Int) (0:Int) (0:Int) (0:Int) (0:Int))).length),(vI (al z k (aK.mk (0:Int) (0:Int) (0:Int) (0:Int) (0:Int) (0:Int) (0:Int))).bytes),(vI
 (al z k (aK.mk (0:Int) (0:Int) (0:Int) (0:Int) (0:Int) (0:Int) (0:Int))).lead)]]) fun z=>bif z.length==0 then some (Ex.ret,St.mk
 [(4,(vI (↑k:Int)))] []) else some (Ex.normal,St.mk [(8,(vI (am.wrap ((↑k:Int)+1)))),(7,(vI (↑(ae l):Int))),(1,AV.fn (16 :
 FuncId) []),(0,AV.sl (ab bj l))] []) else none else some (Ex.exit (0:Nat),St.mk [] []):=(cr _ _ _).symm.trans (by kernel_rfl)
theorem ayz (l:List aK)  (k:Nat) (hp:Se l k=true) : ∀ex s',(Ap l k).val=some (ex,s')->ba Eu (aw f44 0) (An l k) ex s':=by
 simp only[Se,aG,aM]at hp
 refine cE (st:=An l ) (out:=Ap l ) (I:=fun k=>k<=l.length) (n:=([8,7,1,0],[])) (e:=([],[])) (r:=([4],[])) (fun k=>l.length - k) ?_ k hp.2
 intro k hk
 by_cases hlt:k<l.length
 .have hy:l[k]? = some l[k]:=bC hlt
  generalize l[k]=y at hy
  have hd:=j6 hy
  cases hc:(fun s=>s.length==0) y
  .right
   refine⟨k+1,?_,rfl,hlt,by omega,?_⟩
   .rw[Sf]
    simp only[ac1,tx,ar,jh,ak,ap,bA hlt,aj hlt,ch hlt hp.1,getD_at hy,hc,An]
    try rfl
   .simp only[Ap,hd,cu,hc,ap]
  .left
   refine⟨(.ret,⟨[(4,vI k)],[]⟩),?_,?_,by simp,rfl⟩
   .rw[Sf]
    simp only[ac1,tx,ar,jh,ak,bA hlt,aj hlt,ch hlt hp.1,getD_at hy,hc]
   .simp only[Ap,hd,cu,hc,ak,F.found,F.fp]
    rfl
 .have:k=l.length:=by omega
  subst this
  left
  refine⟨(.exit 0,⟨[],[]⟩),?_,?_,by simp,rfl⟩
  .rw[Sf];simp
  .simp[Ap,cu,F.found,T.val]
theorem ayA:(aB Eu false f44 [.sl (l.map bj), .fn 16 []]).val =
 ai (ac Ao (St.mk [(8,(vI 0)),(7,(vI (↑(ae (ab bj l)):Int))),(1,AV.fn (16:FuncId) []),(0,AV.sl (ab bj l))] []))
 fun z=>bif decide (ae z.1<=9223372036854775807)&&decide (z.2<=ae z.1)&&true then bif F.found (cu (fun(s :
 aK)=>s.length==0) z.2 (bn z.2 z.1)) then some ((vI (↑(F.fp (cu (fun(s:aK)=>s.length==0) z.2 (bn z.2 z.1)) (0 :
 Nat)):Int)),[]) else some ((vI (-1:Int)),[]) else none:=(cm).symm.trans (by kernel_rfl)
def JF:List AV:=[.sl (l.map bj), .fn 16 []]
def Aq (a:(List aK)):List AV:=JF a
theorem ayB a a' (h:Aq a=Aq a'):a=a':=by
 simp only[Aq,JF]at h
 try simp[jW]at h
 grind
theorem ayC:ac Aq ([AV.sl (ab bj l),AV.fn (16:FuncId) []])=some (l):=ax ayB (l) rfl
def Sg:AV×Heap:=(vI (ic (cu (fun s=>s.length==0) 0 l)),[])
def ayD (l:List aK):Bool:=true
def oIz:aW:=aY 44 true Aq ayD Sg
theorem ayE:aX Tryz.prog au oIz:=by
 refine cQ f44 ayy (de (x0:=aw f44 0) (by kernel_rfl) (bS ?_)) ?_
 .rintro⟨l,k⟩ hp
  exact ayz l k hp
 rintro l hpre hok
 show(aB Eu false _ (JF _)).val=some (Sg _)
 unfold JF Sg
 rw[ayA]
 have hx:l.length<=9223372036854775807:=by simpa using(jH (hok _ (dN ..))).1
 simp only[ayw,ar,aN,ak,aS,hx,df,cf,decide_true,ic]
 cases F.found (cu (fun s=>s.length==0) 0 l)<;>rfl
def Sh:Env:=bq ty au bp [oIz] [] [] []
theorem ayF:aZ Tryz.prog Sh:=bG (aI ayE bF)
theorem ayG:(aB Sh false f15 [.sl (l.map bj), .fn 16 []]).val =
 ai (ac Aq [AV.sl (ab bj l),AV.fn (16:FuncId) []]) fun z=>some ((vB (decide ((0:Int)<=ic (cu (fun(s:aK)=>s.length
 == 0) (0:Nat) z)))),[]):=(cm).symm.trans (by kernel_rfl)
def JG:List AV:=[.sl (l.map bj), .fn 16 []]
def Ar (a:(List aK)):List AV:=JG a
theorem ayH a a' (h:Ar a=Ar a'):a=a':=by
 simp only[Ar,JG]at h
 try simp[jW]at h
 grind
theorem ayI:ac Ar ([AV.sl (ab bj l),AV.fn (16:FuncId) []])=some (l):=ax ayH (l) rfl
def Si:AV×Heap:=(vB (l.any (fun s=>s.length==0)),[])
end
def ayJ (l:List aK):Bool:=true
def ac4:aW:=aY 15 true Ar ayJ Si
theorem ayK:aX Tryz.prog au ac4:=by
 refine cx f15 ayF ?_
 rintro l hpre hok
 show(aB Sh false _ (JG _)).val=some (Si _)
 unfold JG Si
 rw[ayG]
 simp only[ayC,ar,Fj]
end M
end Go.Proofs.YtaobkfpnebbohaaGreatDoor
namespace Go.Proofs.YtaobkfpnebbohaaGreatDoor
open Go Go.RowKit
set_option linter.unusedVariables false
set_option linter.unusedSimpArgs false
set_option maxHeartbeats 1000000
def BD (s:List aK):Bool:= !(s.any fun x=>x.length==0)
theorem aFh (ss:List (List aK)):ss.all BD = !sr ss:=by
 unfold sr BD
 rw[List.not_any_eq_all_not]
namespace M
section
variable (l:List Std) (cs:List cv) (first:Int) (bs:List Int) (ss:List (List aK)) (k:Nat)
def As:St:=⟨[(70,vI k),(69,vI ss.length),(68, .sl (ss.map b8)),(14, .ptr 14 0 0),(8, .ptr 8 0 0),(3,vI first),(1, .sl (cs.map cp)),(0, .sl (l.map aE))],[(14,⟨true,0,0,[[.sl (bs.map eI), .sl (ss.map b8), .e0, .e0, .e0]]⟩),(8,⟨true,0,0,[[.e0, .e0, .e0, .e0, .e0]]⟩)]⟩
def Au (a:(List Std)×(List cv)×Int×(List Int)×(List (List aK))×Nat):St:=As a.1 a.2.1 a.2.2.1 a.2.2.2.1 a.2.2.2.2.1 a.2.2.2.2.2
theorem ayL a a' (h:Au a=Au a'):a=a':=by
 simp only[Au,As]at h
 try simp[cY,pv,gT,nU]at h
 grind
theorem ayM: ac Au (St.mk [(70,(vI (0:Int))),(69,(vI (↑(ae ss):Int))),(68,AV.sl (ab b8 ss)),(14, .ptr 14 0 0),(8, .ptr 8 0 0),(3,(vI first)),(1,AV.sl
 (ab cp cs)),(0,AV.sl (ab aE l))] [(14,ah.mk true 0 0 [[AV.sl (ab eI bs),AV.sl (ab b8 ss),AV.e0,AV.e0,AV.e0]]),(8,ah.mk true 0 0
 [[AV.e0,AV.e0,AV.e0,AV.e0,AV.e0]])])=some (l,cs,first,bs,ss,0):=ax ayL (l,cs,first,bs,ss,0) rfl
def ac5: T (Ex × St) := .bM ((ss.drop k).all BD) (.ret (.exit 0, ⟨[(14, .ptr 14 0 0), (8, .ptr 8 0 0), (3, vI first), (1, .sl (cs.map cp)), (0, .sl (l.map aE))], [(14, ⟨true, 0, 0, [[.sl (bs.map eI), .sl (ss.map b8), .e0, .e0, .e0]]⟩), (8, ⟨true, 0, 0, [[.e0, .e0, .e0, .e0, .e0]]⟩)]⟩))
      (.ret (.ret, ⟨[(9, vI 13), (8, .ptr 8 0 0)], [(8, ⟨true, 0, 0, [[.e0, .e0, .e0, .e0, .e0]]⟩)]⟩))
def Sj (l:List Std) (cs:List cv) (first:Int) (bs:List Int) (ss:List (List aK)) (k:Nat):Bool:=decide (ss.length<=12)&&decide (k<=ss.length)
def ayN:Nat×(St->T (Ex×St)):=(17,lpo [70,69,68,14,8,3,1,0] [14,8] Au (m7 Sj) (m7 ac5))
def JH (ls:List bH) (k:Nat):St:=⟨[(80,vI k),(79,vI l.length),(78, .sl (l.map aE)),(14, .ptr 14 0 0),(8, .ptr 8 0 0),(3,vI first),(1, .sl (cs.map cp)),(0, .sl (l.map aE))],[(890,⟨false,42,5,ls.map cd⟩),(14,⟨true,0,0,[[.sl (bs.map eI), .sl (ss.map b8), .own 890, .e0, .e0]]⟩),(8,⟨true,0,0,[[.e0, .e0, .e0, .e0, .e0]]⟩)]⟩
def Sk:St:=⟨[(80,vI 0),(79,vI l.length),(78, .sl (l.map aE)),(14, .ptr 14 0 0),(8, .ptr 8 0 0),(3,vI first),(1, .sl (cs.map cp)),(0, .sl (l.map aE))],[(14,⟨true,0,0,[[.sl (bs.map eI), .sl (ss.map b8), .e0, .e0, .e0]]⟩),(8,⟨true,0,0,[[.e0, .e0, .e0, .e0, .e0]]⟩)]⟩
def Av (a:(List Std)×(List cv)×Int×(List Int)×(List (List aK))):St:=Sk a.1 a.2.1 a.2.2.1 a.2.2.2.1 a.2.2.2.2
theorem ayO a a' (h:Av a=Av a'):a=a':=by
 simp only[Av,Sk]at h
 try simp[cY,pv,gT,nU]at h
 grind
theorem ayP:ac Av (St.mk [(80,(vI (0:Int))),(79,(vI (↑(ae l):Int))),(78,AV.sl (ab aE l)),(14, .ptr 14 0 0),(8, .ptr 8 0 0),(3,(vI first)),(1,AV.sl (ab
 cp cs)),(0,AV.sl (ab aE l))] [(14,ah.mk true 0 0 [[AV.sl (ab eI bs),AV.sl (ab b8 ss),AV.e0,AV.e0,AV.e0]]),(8,ah.mk true 0 0 [[AV.e0,
 AV.e0,AV.e0,AV.e0,AV.e0]])])=some (l,cs,first,bs,ss):=ax ayO (l,cs,first,bs,ss) rfl
def Sl: T (Ex × St) := .bM (decide (M.bN (kV ss first) l.zipIdx = 0)) (.ret (.exit 2, ⟨[(14, .ptr 14 0 0), (8, .ptr 8 0 0), (1, .sl (cs.map cp)), (0, .sl (l.map aE))], [(890, ⟨false, 42, 5, (l.zipIdx.map (nt ss first)).map cd⟩), (14, ⟨true, 0, 0, [[.sl (bs.map eI), .sl (ss.map b8), .own 890, .e0, .e0]]⟩), (8, ⟨true, 0, 0, [[.e0, .e0, .e0, .e0, .e0]]⟩)]⟩))
      (.ret (.ret, ⟨[(9, vI (M.bN (kV ss first) l.zipIdx)), (8, .ptr 8 0 0)], [(8, ⟨true, 0, 0, [[.e0, .e0, .e0, .e0, .e0]]⟩)]⟩))
def Sm (cs:List cv) (first:Int) (bs:List Int) (ss:List (List aK)):Bool:=decide (l.length<=12)&&(decide (ss.length=l.length)&&((l.all fun r=>decide (r.name.size<=40))&&ss.all fun s=>s.all fun x=>bz x.number))
def ayQ:Nat×(St->T (Ex×St)):=(23,lpo [80,79,78,14,8,3,1,0] [14,8] Av (fa Sm) (fa Sl))
def p6:Env:=bq ty au bp [IN,abx,ac0,acb,ac4,acn,acZ,acP] [] [] [ayN,ayQ]
theorem ayR:aZ Tryz.prog p6:=bG (aI Qh (aI ati (aI ayp (aI avh (aI ayK (aI avT (aI ayj (aI axS bF))))))))
theorem ac6:((exec p6 (aw f4 0) (As l cs first bs ss k)).bind (bE ([70,69,68,14,8,3,1,0],[14,8]) ([14,8,3,1,0],[14,8]) ([9,8],[8]))).val =
 bif decide ((↑k:Int)<(↑(ae ss):Int)) then ai (ac (ab b8) (ab b8 ss)) fun z=>bif decide (k <
 ae z) then ai (ac Ar [AV.sl (ab bj (al z k [])),AV.fn (16:Nat) []]) fun z=>bif v6 z fun(s:aK)=>
 s.length==0 then some (Ex.ret,St.mk [(9,(vI 13)),(8, .ptr 8 0 0)] [(8,ah.mk true 0 0 [[AV.e0,AV.e0,AV.e0,AV.e0,AV.e0]])]) else some (Ex.normal,
 St.mk [(70,(vI (am.wrap ((↑k:Int)+1)))),(69,(vI (↑(ae ss):Int))),(68,AV.sl (ab b8 ss)),(14, .ptr 14 0 0),(8, .ptr
 8 0 0),(3,(vI first)),(1,AV.sl (ab cp cs)),(0,AV.sl (ab aE l))] [(14,ah.mk true 0 0 [[AV.sl (ab eI bs),AV.sl (ab b8 ss),AV.e0,
 AV.e0,AV.e0]]),(8,ah.mk true 0 0 [[AV.e0,AV.e0,AV.e0,AV.e0,AV.e0]])]) else none else some (Ex.exit (0:Nat),St.mk [(14, .ptr 14 0 0),(8, .ptr 8 0 0),(3,(vI
 first)),(1,AV.sl (ab cp cs)),(0,AV.sl (ab aE l))] [(14,ah.mk true 0 0 [[AV.sl (ab eI bs),AV.sl (ab b8 ss),AV.e0,AV.e0,AV.e0]]),
 (8,ah.mk true 0 0 [[AV.e0,AV.e0,AV.e0,AV.e0,AV.e0]])]):=(cr _ _ _).symm.trans (by kernel_rfl)
theorem ayS (hp:Sj l cs first bs ss k=true) : ∀ex s',(ac5 l cs first bs ss k).val=some (ex,s')->ba p6 (aw f4 0) (As l cs first bs ss k) ex s':=by
 simp only[Sj,aG,aM]at hp
 obtain⟨h1,h2⟩:=hp
 refine pu (xs:=ss) (st:=As l cs first bs ss) (p:=BD) (n:=([70,69,68,14,8,3,1,0],[14,8])) (e:=([14,8,3,1,0],[14,8])) (r:=([9,8],[8])) ?_ ⟨by simp,rfl⟩ ⟨by simp,rfl⟩ (fun _=>rfl) ?_ k h2
 .rw[ac6]
  simp only[gJ,ap]
 .intro k y hy
  have hlt:=cy hy
  rw[ac6]
  simp only[ayI,ar,tz,ak,bA hlt,aj hlt,ch hlt (by omega:ss.length<=9223372036854775807),getD_at hy,As]
  unfold BD
  cases(y.any fun x=>x.length==0)<;>rfl
theorem ac7 (ls:List bH) (k:Nat):((exec p6 (aw f4 1) (JH l cs first bs ss ls k)).bind (bE ([80,79,78,14,8,3,1,0],[890,14,8]) ([14,8,1,0],[890,14,8]) ([9,8],[8]))).val =
 (fun(q:Nat×AV)=>(fun(q_1:Std)=>(fun(q_2:List (Nat×ah))=>bif decide ((↑k:Int)<(↑(ae l):Int)) then ai (ac (ab aE)
 (ab aE l)) fun z=>bif decide (k<ae z) then ai (ac (ab b8) (ab b8 ss)) fun z_1=>
 bif decide (k<ae z_1) then ai (ac zC [AV.agg [(vS (al z k q_1).name),(vI (al z k q_1).aU),(vB (al z k q_1).sound),
 AV.sl (ab aQ (al z k q_1).aL)],AV.sl (ab bj (al z_1 k [])),(vI first)]) fun z=>(fun(q_3:bH)=>bif
 decide (aJ z.1.name<=40)&&fx z.2.1 fun(s:aK)=>bz s.number then bif (lS z.1 z.2.1 z.2.2).snd != 0 then
 some (Ex.ret,St.mk [(9,(vI (lS z.1 z.2.1 z.2.2).snd)),q] [(8,ah.mk true 0 0 [[AV.e0,AV.e0,AV.e0,AV.e0,AV.e0]])]) else bif aP ((ae
 (ab cd ls)+1)*56) 140737488355328&&true then some (Ex.normal,St.mk [(80,(vI (am.wrap ((↑k:Int)+1)))),
 (79,(vI (↑(ae l):Int))),(78,AV.sl (ab aE l)),(14, .ptr 14 0 0),q,(3,(vI first)),(1,AV.sl (ab cp cs)),(0,AV.sl (ab aE l))]
 ((890,ah.mk false 42 5 (ab cd ls++[[(vI q_3.target),(vI q_3.first),(vI q_3.breaks),AV.sl (ab bm q_3.entries),(vB q_3.ended)]]))::q_2)) else none
 else none) (lS z.1 z.2.1 z.2.2).fst else none else none else some (Ex.exit (2:Nat),St.mk [(14, .ptr 14 0 0),q,(1,AV.sl (ab cp cs)),(0,AV.sl
 (ab aE l))] ((890,ah.mk false 42 5 (ab cd ls))::q_2))) [(14,ah.mk true 0 0 [[AV.sl (ab eI bs),AV.sl (ab b8 ss), .own 890,AV.e0,
 AV.e0]]),(8,ah.mk true 0 0 [[AV.e0,AV.e0,AV.e0,AV.e0,AV.e0]])]) (Std.mk (az (aA [])) (0:Int) false [])) (8, .ptr 8 0 0):=(cr _ _ _).symm.trans (by kernel_rfl)
theorem ayT (l:List Std) (cs:List cv) (first:Int) (bs:List Int) (ss:List (List aK)) (h1:l.length<=12) (h2:ss.length=l.length) (h3:(l.all fun r=>decide (r.name.size<=40))=true) (h4:(ss.all fun s=>s.all fun x=>bz x.number)=true) :
  ∀ex s',(Sl l cs first bs ss).val=some (ex,s')->ba p6 (aw f4 1) (JH l cs first bs ss [] 0) ex s':=by
 have main:=mW (E:=p6) (x:=aw f4 1) (n:=([80,79,78,14,8,3,1,0],[890,14,8])) (e:=([14,8,1,0],[890,14,8])) (r:=([9,8],[8])) (xs:=l.zipIdx) (st:=fun k=>JH l cs first bs ss ((l.zipIdx.take k).map (nt ss first)) k) (g:=kV ss first)
  (o:=fun c=>(.ret,⟨[(9,vI c),(8, .ptr 8 0 0)],[(8,⟨true,0,0,[[.e0, .e0, .e0, .e0, .e0]]⟩)]⟩)) (fin:=(.exit 2,⟨[(14, .ptr 14 0 0),(8, .ptr 8 0 0),(1, .sl (cs.map cp)),(0, .sl (l.map aE))],[(890,⟨false,42,5,(l.zipIdx.map (nt ss first)).map cd⟩),(14,⟨true,0,0,[[.sl (bs.map eI), .sl (ss.map b8), .own 890, .e0, .e0]]⟩),(8,⟨true,0,0,[[.e0, .e0, .e0, .e0, .e0]]⟩)]⟩))
  ?fin ⟨by simp,rfl⟩ (fun _=>⟨by simp,rfl⟩) (fun _=>rfl) ?go 0 (cf _)
 case fin=>
  simp only[agS]
  rw[ac7]
  have e:l.zipIdx.take l.length=l.zipIdx:=B6 (by simp)
  simp only[gJ,ap,e]
 case go=>
  intro k y hy
  obtain⟨ha,hk⟩:=sA hy
  obtain⟨r,kk⟩:=y
  simp only at ha hk
  subst hk
  have hlt:=cy ha
  have hx:ss[kk]? = some (ss[kk]'(by omega)):=bC (by omega)
  have hxs:((ss[kk]'(by omega)).all fun x=>bz x.number)=true:=bP.1 h4 _ (iZ (show kk<ss.length by omega))
  have hsz:decide (r.name.size<=40)=true:=bP.1 h3 r (cL ha)
  generalize (ss[kk]'(by omega))=x at hx hxs
  have e1:kV ss first (r,kk)=(lS r x first).2:=by unfold kV;simp only;rw[getD_at hx]
  have e2:nt ss first (r,kk)=(lS r x first).1:=by unfold nt;simp only;rw[getD_at hx]
  have dx:decide (kk<ss.length)=true:=aj (by omega)
  have hb:aP (((l.zipIdx.take kk).length+1)*56) 140737488355328=true:=cg (by rw[eY];omega)
  have hnx:(l.zipIdx.take kk).map (nt ss first)++[nt ss first (r,kk)]=(l.zipIdx.take (kk+1)).map (nt ss first):=by
   rw[vZ,hy,l7]
   rfl
  rw[ac7]
  simp only[avS,m0,ar,aN,tz,gK,ak,aS,bA hlt,aj hlt,ch hlt (by omega:l.length<=9223372036854775807),getD_at ha,getD_at hx,dx,hsz,hxs,hb,bT]
  rw[e1]
  by_cases h:(lS r x first).2=0
  .rw[cR h,if_pos h]
   simp only[ap]
   rw[<-hnx,e2]
   unfold JH
   rw[l7]
   rfl
  .rw[cP h,if_neg h]
   rfl
 intro ex s' h
 exact main ex s' h
theorem ayU (hp:Sm l cs first bs ss=true) : ∀ex s',(Sl l cs first bs ss).val=some (ex,s')->ba p6 (aw f4 1) (Sk l cs first bs ss) ex s':=by
 simp only[Sm,aG,aM]at hp
 obtain⟨h1,h2,h3,h4⟩:=hp
 intro ex s' h
 refine .own 14 2 890 42 5 rfl ?_
 exact ayT l cs first bs ss h1 h2 h3 h4 ex s' h
theorem ayV (w:b9) (first:Int):(aB p6 false f4 [.sl (l.map aE), .sl (cs.map cp), .agg (gU w),vI first]).val =
 (fun(q:AV)=>ai (ac rM [AV.sl (ab aE l)]) fun z=>bif dV z != 0 then some (AV.aF [q,(vI (dV z))],[]) else
 ai (ac zf [AV.sl (ab aE l),AV.sl (ab cp cs)]) fun z=>bif decide (ae z.1<=12) then bif o7
 z.1 z.2 != 0 then some (AV.aF [q,(vI (o7 z.1 z.2))],[]) else ai (ac (ab aE) (ab aE l)) fun z=>bif decide
 ((0:Nat)<ae z) then bif w.aU != (al z (0:Nat) (Std.mk (az (aA [])) (0:Int) false [])).aU then some (AV.aF [q,(vI 6)],[]) else ai (ac Al [AV.sl (ab aE l),AV.agg [(vI w.aU),(vI w.target),(vI w.gv)]]) fun z=>(fun(q_1:Int)=>
 (fun(q_2:AV)=>bif decide (dV z.1=(0:Int)) then bif q_1 != 0 then some (AV.aF [q,(vI q_1)],[]) else ai (ac zv [AV.sl (ab
 aE l),q_2,(vI first)]) fun z=>(fun(q_3:List (List AV))=>bif (gp z.1 z.2.1 z.2.2).snd != 0 then some (AV.aF
 [q,(vI (gp z.1 z.2.1 z.2.2).snd)],[]) else ai (ac Au (St.mk [(70,(vI 0)),(69,(vI (↑(ae q_3):Int))),(68,AV.sl q_3),
 (14, .ptr 14 0 0),(8, .ptr 8 0 0),(3,(vI first)),(1,AV.sl (ab cp cs)),(0,AV.sl (ab aE l))] [(14,ah.mk true 0 0 [[q_2,AV.sl q_3,AV.e0,AV.e0,
 AV.e0]]),(8,ah.mk true 0 0 [[AV.e0,AV.e0,AV.e0,AV.e0,AV.e0]])])) fun z=>(fun(q_4:Nat)=>bif
 decide (q_4<=12)&&decide (z.2.2.2.2.2<=q_4)&&true then bif fx (bn z.2.2.2.2.2 z.2.2.2.2.1) BD then ai
 (ac Av (St.mk [(80,(vI 0)),(79,(vI (↑(ae (ab aE z.1)):Int))),(78,AV.sl (ab aE z.1)),(14, .ptr 14 0 0),(8, .ptr 8 0 0),
 (3,(vI z.2.2.1)),(1,AV.sl (ab cp z.2.1)),(0,AV.sl (ab aE z.1))] [(14,ah.mk true 0 0 [[AV.sl (ab eI z.2.2.2.1),AV.sl
 (ab b8 z.2.2.2.2.1),AV.e0,AV.e0,AV.e0]]),(8,ah.mk true 0 0 [[AV.e0,AV.e0,AV.e0,AV.e0,AV.e0]])])) fun z=>(fun(q_5:Int)=>bif decide (ae z.1<=12)&&(decide (ae z.2.2.2.2=ae z.1)&&((fx
 z.1 fun(r:Std)=>decide (aJ r.name<=40))&&fx z.2.2.2.2 fun(s:List aK)=>fx s fun(x:aK)=>bz x.number)) &&
 true then bif decide (q_5=(0:Int)) then ai (ac Ak [AV.sl (ab aE z.1),AV.sl (ab b8 z.2.2.2.2),AV.sl (ab cp
 z.2.1)]) fun z_1=>(fun(q_6:List AV)=>bif decide (ae z_1.1<=12)&&(decide (ae z_1.2.1
 = ae z_1.1)&&(decide (ae z_1.2.2=gn z_1.1)&&((fx z_1.1 fun(r:Std)=>decide (aJ r.name<=40) &&
 !bW r.aU)&&fx z_1.2.1 kU))) then ai (ac rP [AV.agg q_6]) fun z_2=>bif qb z_2 != 0 then some (AV.aF [q,(vI
 (qb z_2))],[]) else some (AV.aF [AV.agg (AV.sl (ab eI z.2.2.2.1)::AV.sl (ab b8 z.2.2.2.2)::AV.sl (ab cd (ab (nt
 z.2.2.2.2 z.2.2.1) (lh z.1)))::q_6),(vI 0)],[]) else none) [AV.sl (ab bO (iQ z_1.1 z_1.2.1 z_1.2.2 (oY
 z_1.1) (ae z_1.1))),AV.sl (ab bg (mw z_1.1))] else some (AV.aF [q,(vI q_5)],[]) else none) (bN (kV z.2.2.2.2 z.2.2.1)
 (lh z.1)) else some (AV.aF [q,(vI 13)],[]) else none) (ae z.2.2.2.2.1)) (ab b8 (gp z.1 z.2.1 z.2.2).fst)
 else none) (AV.sl (ab eI (lR (ab (fun(x:ci)=>x.time) (no z.1)) (qj z.1) z.2).fst))) (lR (ab (fun(x:ci)=>x.time) (no
 z.1)) (qj z.1) z.2).snd.snd else none else none) (AV.agg [AV.sl [],AV.sl [],AV.sl [],AV.sl [],AV.sl []]):=(cm).symm.trans (by kernel_rfl)
def JI (w:b9) (first:Int):List AV:=[.sl (l.map aE), .sl (cs.map cp), .agg (gU w),vI first]
def Aw (a:(List Std)×(List cv)×b9×Int):List AV:=JI a.1 a.2.1 a.2.2.1 a.2.2.2
theorem ayW a a' (h:Aw a=Aw a'):a=a':=by
 simp only[Aw,JI]at h
 try simp[gT,nU,pw]at h
 grind
theorem ayX (w_scale:Int) (w_target:Int) (w_most:Int) (first:Int):ac Aw ([AV.sl (ab aE l),AV.sl (ab cp cs),AV.agg [(vI w_scale),(vI w_target),(vI w_most)],(vI first)])=some (l,cs,(b9.mk w_scale w_target w_most),first):=ax ayW (l,cs,(b9.mk w_scale w_target w_most),first) rfl
def Sn (w:b9) (first:Int):AV×Heap:=(.aF [.agg (ayq (eE l cs w first).1),vI (eE l cs w first).2],[])
end
def ayY (l:List Std) (cs:List cv) (w:b9) (first:Int):Bool:=true
def ac8:aW:=aY 4 false Aw (cD ayY) (cD Sn)
theorem ayZ:aX Tryz.prog au ac8:=by
 refine cQ f4 ayR (md (x0:=aw f4 0) (x1:=aw f4 1) (by kernel_rfl) (bS ?_) (bS ?_)) ?_
 .rintro⟨l,cs,first,bs,ss,k⟩ hp
  exact ayS l cs first bs ss k hp
 .rintro⟨l,cs,first,bs,ss⟩ hp
  exact ayU l cs first bs ss hp
 rintro⟨l,cs,w,first⟩ hpre hok
 show(aB p6 false _ (JI _ _ _ _)).val=some (Sn _ _ _ _)
 unfold JI Sn
 rw[ayV]
 unfold eE
 have hs0:(l.getD 0 ⟨⟨#[]⟩,0,false,[]⟩).aU=eD l:=rfl
 simp only[Qf,atg,avf,ayi,ayn,axQ,ayP,ayM,px,ar,aN,gK,aS,aN,hs0]
 by_cases h0:dV l=0
 case neg=>rw[cP h0];rfl
 rw[cR h0]
 obtain⟨⟨n1,n2⟩,n3⟩:=sB h0
 have hname:=aE3 h0
 simp only[ap,aj n2,ak]
 by_cases h1:o7 l cs=0
 case neg=>rw[cP h1];rfl
 rw[cR h1]
 have hcs:cs.length=gn l:=by
  unfold o7 at h1
  by_cases hc:cs.length=gn l
  .exact hc
  .rw[aH hc]at h1;simp at h1
 simp only[ap,aj (show 0<l.length by omega),ak]
 cases(w.aU != eD l)
 case true=>rfl
 have hbn:((lR ((no l).map (·.time)) (qj l) w).1,(lR ((no l).map (·.time)) (qj l) w).2.2)=ib l w:=rfl
 have hb1:(lR ((no l).map (·.time)) (qj l) w).1=(ib l w).1:=rfl
 have hb2:(lR ((no l).map (·.time)) (qj l) w).2.2=(ib l w).2:=rfl
 simp only[ap,aj h0,ak,hb1,hb2]
 generalize ib l w=bo at *
 obtain⟨bs,be⟩:=bo
 simp only
 by_cases h2:be=0
 case neg=>rw[cP h2];rfl
 rw[cR h2]
 simp only[ap]
 by_cases h3:(gp l bs first).2=0
 case neg=>rw[cP h3];rfl
 rw[cR h3]
 obtain⟨a1,a2,a3,a4,a5⟩:=afN h3 h0
 generalize (gp l bs first).1=ss at *
 have hnum:(ss.all fun s=>s.all fun x=>bz x.number)=true:=bP.2 fun s hs=>(a5 s hs).2
 have hnm:(l.all fun r=>decide (r.name.size<=40))=true:=bP.2 fun r hr=>aj (hname r hr)
 have hnm2:(l.all fun r=>decide (r.name.size<=40) && !bW r.aU)=true:=bP.2 fun r hr=>by rw[aj (hname r hr),(n3 r hr).1];rfl
 unfold KJ
 simp only[ap,aj (show ss.length<=12 by omega),cf,decide_true,bT,ak,df,aFh]
 cases h4:sr ss
 case true=>rfl
 simp only[dt,ak,ap,aj a1,hnm,hnum,bT]
 by_cases h5:M.bN (kV ss first) l.zipIdx=0
 case neg=>rw[aH h5,cP h5];rfl
 rw[aj h5,cR h5]
 have hgood:=aE1 a1 a2 (fun s hs=>(a5 s hs).1) h4 h5
 simp only[ak,ap,aj hcs,hnm2,hgood,bT]
 have hm:pa l ss cs=⟨iQ l ss cs (oY l) l.length,mw l⟩:=rfl
 have u:ac rP [AV.agg [AV.sl (ab bO (iQ l ss cs (oY l) l.length)),AV.sl (ab bg (mw l))]]=some (pa l ss cs):=axP (pa l ss cs)
 try rw[u]
 simp only[<-hm]
 by_cases h6:qb (pa l ss cs)=0
 .rw[cR h6];rfl
 .rw[cP h6];rfl
end M
def qc (a:Int) (l:List cb):Int:=l.foldl (fun a e=>am.wrap (a+e.eK)) a
theorem vA {l:bH} (h:gm l=0):l.entries.length<=1000/\(∀e∈l.entries,qd e l.target=0)/\(1<=l.target/\l.target<=3600)/\(0<=l.first/\l.first<=999999999999000)/\(0<=l.breaks/\l.breaks<=1000000000000000):=by
 unfold gm at h
 split at h
 .cases h
 .rename_i h1
  split at h
  .cases h
  .simp only[F.out,Bool.or_eq_true,aM]at h1
   exact⟨by omega,af7 h,by omega,by omega,by omega⟩
theorem aEU {e:cb} {t:Int} (h:qd e t=0):(1<=e.eK/\e.eK<=3600000)/\e.dz.length<=20/\(-1<=e.date/\e.date<=253402300799999):=by
 unfold qd at h
 split at h
 .exact absurd h ‹_›
 .split at h
  .cases h
  .rename_i h1
   split at h
   .cases h
   .split at h
    .cases h
    .rename_i h2
     split at h
     .cases h
     .split at h
      .cases h
      .simp only[F.out,Bool.or_eq_true,aM]at h1 h2
       omega
theorem afK {l:bH} (h:gm l=0):(decide (l.entries.length*88<=140737488355328)&&l.entries.all fun e=>decide (e.dz.length*16<=140737488355328))=true:=by
 obtain⟨h1,h2,_⟩:=vA h
 rw[aG,aM,bP]
 exact⟨by omega,fun e he=>aj (by have:=(aEU (h2 e he)).2.1;omega)⟩
def F.length (l:bH):Int×Int:=if gm l≠0 then (0,gm l) else (qc 0 l.entries,0)
def lU (c:dQ) (back:Int):Int:=bif F.out c.next 0 1000000000000000||F.out c.lost 0 1000000000000000||F.out back 0 1000000000000000 then 1 else bif F.lt 2000 c.queue.length then 2 else 0
theorem afH {α:Type} (l:List α):(((l.length:Nat):Int)==0)=l.isEmpty:=by
 cases l with
 | nil=>rfl
 | cons y l=>simp;omega
namespace M
def Sp:Env:=bq ty au bp [N3] [] [] []
theorem ay0:aZ Tryz.prog Sp:=bG (aI Y8 bF)
theorem ay1 (e:cb):(aB Sp false Tryz.f25 [.agg (bm e)]).val =
 ai (ac tQ [AV.sl (ab aC e.dz)]) fun z=>bif decide (ae z*16<=140737488355328) then some (AV.agg
 [(vS e.uri),(vI e.eK),(vB e.brk),(vI e.date),(vS e.key),(vB e.kK),AV.sl (ab aC z)],[]) else none:=by kernel_rfl
def JJ (e:cb):List AV:=[.agg (bm e)]
def rR (a:cb):List AV:=JJ a
theorem ay2 a a' (h:rR a=rR a'):a=a':=by
 simp only[rR,JJ]at h
 try simp[Xm]at h
 grind
section
variable (es:List cb) (a:Int) (k:Nat)
theorem Ev (e_uri:ByteArray) (e_milli:Int) (e_brk:Bool) (e_date:Int) (e_key:ByteArray) (e_gap:Bool) (e_extra:List ByteArray):ac rR ([AV.agg [(vS e_uri),(vI e_milli),(vB e_brk),(vI e_date),(vS e_key),(vB e_gap),AV.sl (ab aC e_extra)]])=some ((cb.mk e_uri e_milli e_brk e_date e_key e_gap e_extra)):=ax ay2 ((cb.mk e_uri e_milli e_brk e_date e_key e_gap e_extra)) rfl
def Sq (e:cb):AV×Heap:=(.agg (bm e),[])
def ac9 (e:cb):Bool:=decide (e.dz.length*16<=140737488355328)
def JK:aW:=aY 25 false rR ac9 Sq
theorem Sr:aX Tryz.prog au JK:=by
 refine cx Tryz.f25 ay0 ?_
 rintro e hpre hok
 show(aB Sp false _ (JJ _)).val=some (Sq _)
 unfold JJ Sq
 rw[ay1]
 simp only[ac9]at hpre
 simp only[Y6,ar,ak,hpre,bm]
def Ax:St:=⟨[(9,vI k),(8,vI es.length),(7, .sl (es.map bm)),(3,vI a)],[]⟩
def Ay (a:(List cb)×Int×Nat):St:=Ax a.1 a.2.1 a.2.2
theorem ay3 a a' (h:Ay a=Ay a'):a=a':=by
 simp only[Ay,Ax]at h
 try simp[ri]at h
 grind
theorem ay4: ac Ay (St.mk [(9,(vI (0:Int))),(8,(vI (↑(ae es):Int))),(7,AV.sl (ab bm es)),(3,(vI (0:Int)))] [])=some (es,0,0):=ax ay3 (es,0,0) rfl
def ada:T (Ex×St):= .ret (.exit 0,⟨[(3,vI (qc a (es.drop k)))],[]⟩)
def Ss (a:Int) (k:Nat):Bool:=decide (es.length<=9223372036854775807)&&decide (k<=es.length)
def ay5:Nat×(St->T (Ex×St)):=(3,lpo [9,8,7,3] [] Ay (bU Ss) (bU ada))
def Ew:Env:=bq ty au bp [] [] [] [ay5]
theorem ay6:aZ Tryz.prog Ew:=bG bF
theorem adb:((exec Ew (aw f27 0) (Ax es a k)).bind (bE ([9,8,7,3],[]) ([3],[]) ([],[]))).val =
 bif decide ((↑k:Int)<(↑(ae es):Int)) then ai (ac (ab bm) (ab bm es)) fun z=>bif decide (k<ae z) then
 some (Ex.normal,St.mk [(9,(vI (am.wrap ((↑k:Int)+1)))),(8,(vI (↑(ae es):Int))),(7,AV.sl (ab bm es)),(3,(vI
 (am.wrap (a+(al z k (cb.mk (az (aA [])) (0:Int) false (0:Int) (az (aA [])) false [])).eK))))] []) else
 none else some (Ex.exit (0:Nat),St.mk [(3,(vI a))] []):=by kernel_rfl
theorem ay7 (hp:Ss es a k=true) : ∀ex s',(ada es a k).val=some (ex,s')->ba Ew (aw f27 0) (Ax es a k) ex s':=by
 simp only[Ss,aG,aM]at hp
 refine rh (xs:=es) (st:=Ax es) (f:=fun a e=>am.wrap (a+e.eK)) (fin:=fun a=>(.exit 0,⟨[(3,vI a)],[]⟩)) (I:=fun _ _=>True) (n:=([9,8,7,3],[])) (e:=([3],[])) (r:=([],[])) ?_ (fun _=>⟨by simp,rfl⟩) (fun _ _=>rfl) ?_ a k hp.2 trivial
 .intro a _
  rw[adb];simp
 .intro a k y hy _
  have hlt:=cy hy
  rw[adb]
  simp only[ar,tA,ak,bA hlt,aj hlt,ch hlt hp.1,getD_at hy,Ax]
  simp
end
theorem ay8 {l:bH} (h:gI (.agg (cd l))):l.entries.length<=9223372036854775807:=by
 have h:=GJ h
 simp only[cd,gQ]at h
 simpa using(jH h.2.2.2.1).1
section
variable (l:bH)
theorem ay9:(aB Ew false f27 [.agg (cd l)]).val =
 ai (ac Ay (St.mk [(9,(vI 0)),(8,(vI (↑(ae (ab bm l.entries)):Int))),(7,AV.sl (ab bm l.entries)),(3,(vI 0))] [])) fun z=>bif decide (ae z.1<=9223372036854775807)&&decide (z.2.2<=ae z.1)&&true then some
 ((vI (qc z.2.1 (bn z.2.2 z.1))),[]) else none:=by kernel_rfl
def JL:List AV:=[.agg (cd l)]
def uP (a:bH):List AV:=JL a
theorem aza a a' (h:uP a=uP a'):a=a':=by
 simp only[uP,JL]at h
 try simp[nT]at h
 grind
theorem adc (l_target:Int) (l_first:Int) (l_breaks:Int) (l_entries:List cb) (l_ended:Bool):ac uP ([AV.agg [(vI l_target),(vI l_first),(vI l_breaks),AV.sl (ab bm l_entries),(vB l_ended)]])=some ((bH.mk l_target l_first l_breaks l_entries l_ended)):=ax aza ((bH.mk l_target l_first l_breaks l_entries l_ended)) rfl
def Su:AV×Heap:=(vI (qc 0 l.entries),[])
def azb (l:bH):Bool:=true
def Sv:aW:=aY 27 true uP azb Su
theorem ade:aX Tryz.prog au Sv:=by
 refine cQ f27 ay6 (de (x0:=aw f27 0) (by kernel_rfl) (bS ?_)) ?_
 .rintro⟨es,a,k⟩ hp
  exact ay7 es a k hp
 rintro l hpre hok
 show(aB Ew false _ (JL _)).val=some (Su _)
 unfold JL Su
 rw[ay9]
 have hx:=ay8 (hok _ (dN ..))
 simp only[ay4,ar,aN,ak,aS,hx,df,cf,decide_true]
def Az (acc:List cb) (k:Nat):St:=⟨[(9,vI k),(8,vI l.entries.length),(7, .sl (l.entries.map bm)),(3, .own 3),(2, .ptr 2 0 0),(1, .ptr 1 0 0)],[(3,⟨false,53,7,acc.map bm⟩),(2,⟨true,0,0,[[vI 0,vI 0,vI 0, .e0,vB false]]⟩),(1,⟨true,0,0,[cd l]⟩)]⟩
def AA (a:bH×(List cb)×Nat):St:=Az a.1 a.2.1 a.2.2
theorem azc a a' (h:AA a=AA a'):a=a':=by
 simp only[AA,Az]at h
 try simp[ri,nT]at h
 grind
theorem azd: ac AA (St.mk [(9,(vI (0:Int))),(8,(vI (↑(ae l.entries):Int))),(7,AV.sl (ab bm l.entries)),(3, .own 3),(2, .ptr 2 0 0),(1, .ptr 1 0 0)] [(3,ah.mk
 false 53 7 []),(2,ah.mk true 0 0 [[(vI (0:Int)),(vI (0:Int)),(vI (0:Int)),AV.e0,(vB false)]]),(1,ah.mk true 0 0 [[(vI l.target),(vI l.first),(vI
 l.breaks),AV.sl (ab bm l.entries),(vB l.ended)]])])=some (l,[],0):=ax azc (l,[],0) rfl
def adf (acc:List cb) (k:Nat):T (Ex×St):= .ret (.exit 0,⟨[(3, .own 3),(2, .ptr 2 0 0),(1, .ptr 1 0 0)],[(3,⟨false,53,7,(acc++l.entries.drop k).map bm⟩),(2,⟨true,0,0,[[vI 0,vI 0,vI 0, .e0,vB false]]⟩),(1,⟨true,0,0,[cd l]⟩)]⟩)
def Sw (acc:List cb) (k:Nat):Bool:=decide (l.entries.length*88<=140737488355328)&&decide (k<=l.entries.length)&&decide (acc.length=k)&&l.entries.all (fun e=>decide (e.dz.length*16<=140737488355328))
def aze:Nat×(St->T (Ex×St)):=(3,lpo [9,8,7,3,2,1] [3,2,1] AA (bU Sw) (bU adf))
def Ey:Env:=bq ty au bp [JK] [] [] [aze]
theorem azf:aZ Tryz.prog Ey:=bG (aI Sr bF)
theorem adg (acc:List cb) (k:Nat):((exec Ey (aw f24 0) (Az l acc k)).bind (bE ([9,8,7,3,2,1],[3,2,1]) ([3,2,1],[3,2,1]) ([],[]))).val =
 (fun(q:cb)=>(fun(q_1:List (Nat×AV))=>(fun(q_2:List (Nat×ah))=>bif decide ((↑k:Int)<(↑(ae l.entries):Int)) then ai (ac
 (ab bm) (ab bm l.entries)) fun z=>bif decide (k<ae z) then ai (ac rR [AV.agg [(vS (al z k q).uri),(vI
 (al z k q).eK),(vB (al z k q).brk),(vI (al z k q).date),(vS (al z k q).key),(vB (al z k q).kK),AV.sl (ab aC (al
 z k q).dz)]]) fun z=>bif decide (ae z.dz*16<=140737488355328) then bif aP ((ae (ab bm acc)+1) *
 (88:Nat)) 140737488355328&&true then some (Ex.normal,St.mk ((9,(vI (am.wrap ((↑k:Int)+1))))::(8,(vI (↑(ae l.entries)
 : Int)))::(7,AV.sl (ab bm l.entries))::q_1) ((3,ah.mk false 53 7 (ab bm acc++[[(vS z.uri),(vI z.eK),(vB z.brk),(vI z.date),(vS z.key),(vB
 z.kK),AV.sl (ab aC z.dz)]]))::q_2)) else none else none else none else some (Ex.exit (0:Nat),St.mk q_1 ((3,ah.mk false 53 7 (ab bm acc)) ::
 q_2))) [(2,ah.mk true 0 0 [[(vI 0),(vI 0),(vI 0),AV.e0,(vB false)]]),(1,ah.mk true 0 0 [[(vI l.target),(vI l.first),(vI l.breaks),AV.sl
 (ab bm l.entries),(vB l.ended)]])]) [(3, .own 3),(2, .ptr 2 0 0),(1, .ptr 1 0 0)]) (cb.mk (az (aA [])) (0:Int) false (0:Int) (az
 (aA [])) false []):=by kernel_rfl
theorem azg (acc:List cb) (k:Nat) (hp:Sw l acc k=true) : ∀ex s',(adf l acc k).val=some (ex,s')->ba Ey (aw f24 0) (Az l acc k) ex s':=by
 simp only[Sw,aG,aM]at hp
 obtain⟨⟨⟨h1,h2⟩,h3⟩,h4⟩:=hp
 intro ex s' hh
 refine rh (xs:=l.entries) (st:=Az l) (f:=fun a y=>a++[y]) (fin:=fun a=>(.exit 0,⟨[(3, .own 3),(2, .ptr 2 0 0),(1, .ptr 1 0 0)],[(3,⟨false,53,7,a.map bm⟩),(2,⟨true,0,0,[[vI 0,vI 0,vI 0, .e0,vB false]]⟩),(1,⟨true,0,0,[cd l]⟩)]⟩)) (I:=fun a k=>a.length=k) (n:=([9,8,7,3,2,1],[3,2,1])) (e:=([3,2,1],[3,2,1])) (r:=([],[])) ?_ (fun _=>⟨by simp,rfl⟩) (fun _ _=>rfl) ?_ acc k h2 h3 ex s' (by rw[KH];exact hh)
 .intro a _
  rw[adg];simp[cd]
 .intro a k y hy hI
  have hlt:=cy hy
  have he:decide (y.dz.length*16<=140737488355328)=true:=by
   have:=bP.1 h4 y (cL hy)
   exact this
  refine⟨?_,by simp[hI]⟩
  rw[adg]
  simp only[Ev,CQ,ar,aN,tA,ak,aS,bA hlt,aj hlt,ch hlt (by omega:l.entries.length<=9223372036854775807),getD_at hy,Az,cd,he]
  have hb:aP ((a.length+1)*88) 140737488355328=true:=cg (by omega)
  simp[hb,bm]
theorem azh:(aB Ey true f24 [.agg (cd l)]).val =
 ai (ac AA (St.mk [(9,(vI 0)),(8,(vI (↑(ae (ab bm l.entries)):Int))),(7,AV.sl (ab bm l.entries)),(3, .own 3),(2,
 .ptr 2 0 0),(1, .ptr 1 0 0)] [(3,ah.mk false 53 7 []),(2,ah.mk true 0 0 [[(vI 0),(vI 0),(vI 0),AV.e0,(vB false)]]),(1,ah.mk true 0 0
 [[(vI l.target),(vI l.first),(vI l.breaks),AV.sl (ab bm l.entries),(vB l.ended)]])])) fun z=>bif (decide (ae z.1.entries
 * 88<=140737488355328)&&decide (z.2.2<=ae z.1.entries)&&decide (ae z.2.1=z.2.2)&&fx z.1.entries fun(e :
 cb)=>decide (ae e.dz*16<=140737488355328))&&true then some (AV.agg [(vI z.1.target),(vI z.1.first),(vI z.1.breaks), .own 0,(vB
 z.1.ended)],[(0,ah.mk false 53 7 (ab bm (z.2.1++bn z.2.2 z.1.entries)))]) else none:=by kernel_rfl
def JM:List AV:=[.agg (cd l)]
def uQ (a:bH):List AV:=JM a
theorem azi a a' (h:uQ a=uQ a'):a=a':=by
 simp only[uQ,JM]at h
 try simp[nT]at h
 grind
theorem Sx (l_target:Int) (l_first:Int) (l_breaks:Int) (l_entries:List cb) (l_ended:Bool):ac uQ ([AV.agg [(vI l_target),(vI l_first),(vI l_breaks),AV.sl (ab bm l_entries),(vB l_ended)]])=some ((bH.mk l_target l_first l_breaks l_entries l_ended)):=ax azi ((bH.mk l_target l_first l_breaks l_entries l_ended)) rfl
def Sy:AV×Heap:=(.agg [vI l.target,vI l.first,vI l.breaks, .own 0,vB l.ended],[(0,⟨false,53,7,l.entries.map bm⟩)])
def adh:Bool:=decide (l.entries.length*88<=140737488355328)&&l.entries.all (fun e=>decide (e.dz.length*16<=140737488355328))
def Sz:aW:=aY 24 false uQ adh Sy
theorem adi:aX Tryz.prog au Sz:=by
 refine CP f24 (keep:=true) (by kernel_rfl) (by kernel_rfl) azf mixed (de (x0:=aw f24 0) (by kernel_rfl) (bS ?_)) (by first | exact fun _ _=>⟨rfl,rfl⟩ | (intro h;cases h)) ?_
 .rintro⟨l,acc,k⟩ hp
  exact azg l acc k hp
 rintro l hpre hok
 show(aB Ey true _ (JM _)).val=some (Sy _)
 unfold JM Sy
 rw[azh]
 simp only[adh,aG,aM]at hpre
 obtain⟨h1,h2⟩:=hpre
 simp only[azd,ar,aN,ak,aS,h1,h2,df,cf,decide_true,eh,i6]
def SA:Env:=bq ty au bp [HM,Sv] [] [] []
theorem azj:aZ Tryz.prog SA:=bG (aI Oi (aI ade bF))
theorem azk:(aB SA false f8 [.agg (cd l)]).val =
 ai (ac oN [AV.agg [(vI l.target),(vI l.first),(vI l.breaks),AV.sl (ab bm l.entries),(vB l.ended)]]) fun z=>bif gm z != 0
 then some (AV.aF [(vI 0),(vI (gm z))],[]) else ai (ac uP [AV.agg [(vI l.target),(vI l.first),(vI l.breaks),AV.sl (ab bm
 l.entries),(vB l.ended)]]) fun z=>some (AV.aF [(vI (qc (0:Int) z.entries)),(vI 0)],[]):=by kernel_rfl
def JN:List AV:=[.agg (cd l)]
def AC (a:bH):List AV:=JN a
theorem azl a a' (h:AC a=AC a'):a=a':=by
 simp only[AC,JN]at h
 try simp[nT]at h
 grind
theorem azm (l_target:Int) (l_first:Int) (l_breaks:Int) (l_entries:List cb) (l_ended:Bool):ac AC ([AV.agg [(vI l_target),(vI l_first),(vI l_breaks),AV.sl (ab bm l_entries),(vB l_ended)]])=some ((bH.mk l_target l_first l_breaks l_entries l_ended)):=ax azl ((bH.mk l_target l_first l_breaks l_entries l_ended)) rfl
def SB:AV×Heap:=(.aF [vI (F.length l).1,vI (F.length l).2],[])
end
section
variable (c:dQ) (b:Int)
def azn (l:bH):Bool:=true
def adj:aW:=aY 8 true AC azn SB
theorem azo:aX Tryz.prog au adj:=by
 refine cx f8 azj ?_
 rintro l hpre hok
 show(aB SA false _ (JN _)).val=some (SB _)
 unfold JN SB
 rw[azk]
 simp only[HL,adc,MQ,ar]
 by_cases h0:gm l=0
 .simp only[F.length,h0,bne_self_eq_false,ap,ne_eq,not_true_eq_false,if_false]
 .have hb:(gm l != 0)=true:=by simp[h0]
  simp only[hb,ak,F.length,h0,if_true,ne_eq,not_false_eq_true]
def SC:Env:=bq ty au bp [jJ] [] [] []
theorem azp:aZ Tryz.prog SC:=bG (aI jZ bF)
theorem azq:(aB SC false f26 [.agg (lB c),vI b]).val =
 ai (ac eT [(vI c.next),(vI 0),(vI 1000000000000000)]) fun z=>bif !F.out z.1 z.2.1 z.2.2 then ai
 (ac eT [(vI c.lost),(vI 0),(vI 1000000000000000)]) fun z_1=>bif !bif F.out z.1 z.2.1 z.2.2 then true else F.out
 z_1.1 z_1.2.1 z_1.2.2 then ai (ac eT [(vI b),(vI 0),(vI 1000000000000000)]) fun z_2=>bif bif bif F.out
 z.1 z.2.1 z.2.2 then true else F.out z_1.1 z_1.2.1 z_1.2.2 then true else F.out z_2.1 z_2.2.1 z_2.2.2 then some ((vI 1),[]) else bif
 decide ((2000:Int)<(↑(ae (ab cw c.queue)):Int)) then some ((vI 2),[]) else some ((vI 0),[]) else some ((vI 1),[]) else
 some ((vI 1),[]):=by kernel_rfl
def JO:List AV:=[.agg (lB c),vI b]
def rS (a:dQ×Int):List AV:=JO a.1 a.2
theorem adk a a' (h:rS a=rS a'):a=a':=by
 simp only[rS,JO]at h
 try simp[GS]at h
 grind
theorem azr (c_begun:Bool) (c_next:Int) (c_last:bH) (c_queue:List dK) (c_lost:Int) (b:Int):ac rS ([AV.agg [(vB c_begun),(vI c_next),(vI c_last.target),(vI c_last.first),(vI c_last.breaks),AV.sl (ab bm c_last.entries),(vB c_last.ended),AV.sl (ab
 cw c_queue),(vI c_lost)],(vI b)])=some ((dQ.mk c_begun c_next c_last c_queue c_lost),b):=ax adk ((dQ.mk c_begun c_next c_last c_queue c_lost),b) rfl
def SD:AV×Heap:=(vI (lU c b),[])
end
def azs (c:dQ) (b:Int):Bool:=true
def SE:aW:=aY 26 true rS (aT azs) (aT SD)
theorem adl:aX Tryz.prog au SE:=by
 refine cx f26 azp ?_
 rintro⟨c,b⟩ hpre hok
 show(aB SC false _ (JO _ _)).val=some (SD _ _)
 unfold JO SD
 rw[azq]
 simp only[jk,ar,aN,F.lt,lU,F.lt]
 cases F.out c.next 0 1000000000000000<;>cases F.out c.lost 0 1000000000000000<;>cases F.out b 0 1000000000000000<;>cases decide (2000<(c.queue.length:Int))<;>rfl
end M
def qh (l:List dK):Bool:=l.all fun x=>decide (x.entry.dz.length*16<=140737488355328)
def aEE:bH:=⟨0,0,0,[],false⟩
attribute [grind ext] dQ bH
def Fo:dQ:=⟨false,0,aEE,[],0⟩
def UG:dK:=⟨0,⟨⟨#[]⟩,0,false,0,⟨#[]⟩,false,[]⟩⟩
def jA (c:dQ):dQ×dK×Int:=
 bif lU c 0 != 0 then (Fo,UG,lU c 0) else bif c.queue.isEmpty then (Fo,UG,9) else
 (⟨c.begun,c.next,c.last,c.queue.drop 1,c.lost⟩,c.queue.getD 0 UG,0)
def Ku (c:dQ):Bool:=decide (c.last.entries.length*88<=140737488355328)&&c.last.entries.all (fun e=>decide (e.dz.length*16<=140737488355328))&&qh c.queue
theorem aEB {c:dQ} {b:Int} (h:(lU c b != 0)=false):c.queue.length<=2000:=by
 unfold lU at h
 cases h1:F.out c.next 0 1000000000000000||F.out c.lost 0 1000000000000000||F.out b 0 1000000000000000
 .rw[h1]at h
  cases h2:F.lt 2000 c.queue.length
  .simp only[F.lt,decide_eq_false_iff_not]at h2;omega
  .rw[h2]at h;simp at h
 .rw[h1]at h;simp at h
namespace M
theorem azt (xs:List dK) (n:Int) (e:cb):xs.map cw++[[vI n,vS e.uri,vI e.eK,vB e.brk,vI e.date,vS e.key,vB e.kK, .sl (e.dz.map aC)]]=(xs++[(⟨n,e⟩:dK)]).map cw:=by simp[cw]
section
variable (c:dQ) (acc:List dK) (k:Nat)
def AD:St:=⟨[(13,vI k),(12,vI c.queue.length),(11, .sl (c.queue.map cw)),(3, .own 3),(2, .ptr 2 0 0),(1, .ptr 1 0 0)],[(9000,⟨false,53,7,c.last.entries.map bm⟩),(3,⟨false,55,8,acc.map cw⟩),(2,⟨true,0,0,[[vB false,vI 0,vI 0,vI 0,vI 0, .e0,vB false, .e0,vI 0]]⟩),(1,⟨true,0,0,[[vB c.begun,vI c.next,vI c.last.target,vI c.last.first,vI c.last.breaks, .own 9000,vB c.last.ended, .sl (c.queue.map cw),vI c.lost]]⟩)]⟩
def AE (a:dQ×(List dK)×Nat):St:=AD a.1 a.2.1 a.2.2
theorem azu a a' (h:AE a=AE a'):a=a':=by
 simp only[AE,AD]at h
 try simp[ri,GQ]at h
 grind
theorem azv: ac AE (St.mk [(13,(vI (0:Int))),(12,(vI (↑(ae c.queue):Int))),(11,AV.sl (ab cw c.queue)),(3, .own 3),(2, .ptr 2 0 0),(1, .ptr 1 0 0)] [(9000,ah.mk
 false 53 7 (ab bm c.last.entries)),(3,ah.mk false 55 8 []),(2,ah.mk true 0 0 [[(vB false),(vI (0:Int)),(vI (0:Int)),(vI (0:Int)),(vI (0:Int)),
 AV.e0,(vB false),AV.e0,(vI (0:Int))]]),(1,ah.mk true 0 0 [[(vB c.begun),(vI c.next),(vI c.last.target),(vI c.last.first),(vI c.last.breaks), .own 9000,(vB
 c.last.ended),AV.sl (ab cw c.queue),(vI c.lost)]])])=some (c,[],0):=ax azu (c,[],0) rfl
def adm:T (Ex×St):= .ret (.exit 0,⟨[(3, .own 3),(2, .ptr 2 0 0),(1, .ptr 1 0 0)],[(9000,⟨false,53,7,c.last.entries.map bm⟩),(3,⟨false,55,8,(acc++c.queue.drop k).map cw⟩),(2,⟨true,0,0,[[vB false,vI 0,vI 0,vI 0,vI 0, .e0,vB false, .e0,vI 0]]⟩),(1,⟨true,0,0,[[vB c.begun,vI c.next,vI c.last.target,vI c.last.first,vI c.last.breaks, .own 9000,vB c.last.ended, .sl (c.queue.map cw),vI c.lost]]⟩)]⟩)
def SF:Bool:=decide (c.queue.length<=100000)&&decide (k<=c.queue.length)&&decide (acc.length=k)&&qh c.queue
def azw:Nat×(St->T (Ex×St)):=(4,lpo [13,12,11,3,2,1] [9000,3,2,1] AE (bU SF) (bU adm))
def Ez:Env:=bq ty au bp [Sz,JK] [] [] [azw]
theorem azx:aZ Tryz.prog Ez:=bG (aI adi (aI Sr bF))
theorem adn:((exec Ez (aw f23 0) (AD c acc k)).bind (bE ([13,12,11,3,2,1],[9000,3,2,1]) ([3,2,1],[9000,3,2,1]) ([],[]))).val =
 (fun(q:Nat×ah)=>(fun(q_1:dK)=>(fun(q_2:List (Nat×AV))=>(fun(q_3:List (Nat×ah))=>bif decide ((↑k:Int)<(↑(ae c.queue):Int)) then
 ai (ac (ab cw) (ab cw c.queue)) fun z=>(fun(q_4:cb)=>bif decide (k<ae z) then ai (ac rR [AV.agg
 [(vS q_4.uri),(vI q_4.eK),(vB q_4.brk),(vI q_4.date),(vS q_4.key),(vB q_4.kK),AV.sl (ab aC q_4.dz)]]) fun z_1=>bif decide (ae
 z_1.dz*16<=140737488355328) then bif aP ((ae (ab cw acc)+1)*96) 140737488355328&&true then some
 (Ex.normal,St.mk ((13,(vI (am.wrap ((↑k:Int)+1))))::(12,(vI (↑(ae c.queue):Int)))::(11,AV.sl (ab cw c.queue)) ::
 q_2) (q::(3,ah.mk false 55 8 (ab cw acc++[[(vI (al z k q_1).number),(vS z_1.uri),(vI z_1.eK),(vB z_1.brk),(vI z_1.date),(vS z_1.key),(vB
 z_1.kK),AV.sl (ab aC z_1.dz)]]))::q_3)) else none else none else none) (al z k q_1).entry else some (Ex.exit (0:Nat),St.mk q_2 (q::(3,ah.mk
 false 55 8 (ab cw acc))::q_3))) [(2,ah.mk true 0 0 [[(vB false),(vI 0),(vI 0),(vI 0),(vI 0),AV.e0,(vB false),AV.e0,(vI
 (0:Int))]]),(1,ah.mk true 0 0 [[(vB c.begun),(vI c.next),(vI c.last.target),(vI c.last.first),(vI c.last.breaks), .own 9000,(vB c.last.ended),AV.sl (ab
 cw c.queue),(vI c.lost)]])]) [(3, .own 3),(2, .ptr 2 0 0),(1, .ptr 1 0 0)]) (dK.mk (0:Int) (cb.mk (az (aA [])) (0:Int) false (0:Int)
 (az (aA [])) false []))) (9000,ah.mk false 53 7 (ab bm c.last.entries)):=by kernel_rfl
theorem azy (hp:SF c acc k=true) : ∀ex s',(adm c acc k).val=some (ex,s')->ba Ez (aw f23 0) (AD c acc k) ex s':=by
 simp only[SF,aG,aM]at hp
 obtain⟨⟨⟨h1,h2⟩,h3⟩,h4⟩:=hp
 intro ex s' hh
 refine rh (xs:=c.queue) (st:=AD c) (f:=fun a y=>a++[y]) (fin:=fun a=>(.exit 0,⟨[(3, .own 3),(2, .ptr 2 0 0),(1, .ptr 1 0 0)],[(9000,⟨false,53,7,c.last.entries.map bm⟩),(3,⟨false,55,8,a.map cw⟩),(2,⟨true,0,0,[[vB false,vI 0,vI 0,vI 0,vI 0, .e0,vB false, .e0,vI 0]]⟩),(1,⟨true,0,0,[[vB c.begun,vI c.next,vI c.last.target,vI c.last.first,vI c.last.breaks, .own 9000,vB c.last.ended, .sl (c.queue.map cw),vI c.lost]]⟩)]⟩)) (I:=fun a k=>a.length=k) (n:=([13,12,11,3,2,1],[9000,3,2,1])) (e:=([3,2,1],[9000,3,2,1])) (r:=([],[])) ?_ (fun _=>⟨by simp,rfl⟩) (fun _ _=>rfl) ?_ acc k h2 h3 ex s' (by rw[KH];exact hh)
 .intro a _
  rw[adn];simp
 .intro a k y hy hI
  have hlt:=cy hy
  have he:decide (y.entry.dz.length*16<=140737488355328)=true:=bP.1 h4 y (cL hy)
  have hb:aP ((a.length+1)*96) 140737488355328=true:=cg (by omega)
  refine⟨?_,by simp[hI]⟩
  rw[adn]
  simp only[Ev,CQ,ajh,ar,aN,Xo,ak,aS,bA hlt,aj hlt,ch hlt (by omega:c.queue.length<=9223372036854775807),getD_at hy,AD,he,hb,azt]
theorem azz:(aB Ez true f23 [.agg (lB c)]).val =
 ai (ac uQ [AV.agg [(vI c.last.target),(vI c.last.first),(vI c.last.breaks),AV.sl (ab bm c.last.entries),(vB c.last.ended)]]) fun z=>
 bif decide (ae z.entries*88<=140737488355328)&&fx z.entries fun(e:cb)=>decide (ae e.dz*16 <=
 (140737488355328:Nat)) then ai (ac AE (St.mk [(13,(vI 0)),(12,(vI (↑(ae (ab cw c.queue)):Int))),(11,AV.sl (ab cw
 c.queue)),(3, .own 3),(2, .ptr 2 0 0),(1, .ptr 1 0 0)] [(9000,ah.mk false 53 7 (ab bm z.entries)),(3,ah.mk false 55 8 []),(2,ah.mk true 0 0 [[(vB
 false),(vI 0),(vI 0),(vI 0),(vI 0),AV.e0,(vB false),AV.e0,(vI 0)]]),(1,ah.mk true 0 0 [[(vB c.begun),(vI c.next),(vI
 z.target),(vI z.first),(vI z.breaks), .own 9000,(vB z.ended),AV.sl (ab cw c.queue),(vI c.lost)]])])) fun z=>bif decide (ae
 z.1.queue<=100000)&&decide (z.2.2<=ae z.1.queue)&&decide (ae z.2.1=z.2.2)&&qh z.1.queue&&true then some (AV.agg
 [(vB z.1.begun),(vI z.1.next),(vI z.1.last.target),(vI z.1.last.first),(vI z.1.last.breaks), .own 0,(vB z.1.last.ended), .own 1,(vI z.1.lost)],[(0,
 ah.mk false 53 7 (ab bm z.1.last.entries)),(1,ah.mk false 55 8 (ab cw (z.2.1++bn z.2.2 z.1.queue)))]) else none else none:=by kernel_rfl
def JP:List AV:=[.agg (lB c)]
def rT (a:dQ):List AV:=JP a
theorem ado a a' (h:rT a=rT a'):a=a':=by
 simp only[rT,JP]at h
 try simp[GS]at h
 grind
theorem azA (c_begun:Bool) (c_next:Int) (c_last:bH) (c_queue:List dK) (c_lost:Int):ac rT ([AV.agg [(vB c_begun),(vI c_next),(vI c_last.target),(vI c_last.first),(vI c_last.breaks),AV.sl (ab bm c_last.entries),(vB c_last.ended),AV.sl (ab
 cw c_queue),(vI c_lost)]])=some ((dQ.mk c_begun c_next c_last c_queue c_lost)):=ax ado ((dQ.mk c_begun c_next c_last c_queue c_lost)) rfl
def SG:AV×Heap:=(.agg [vB c.begun,vI c.next,vI c.last.target,vI c.last.first,vI c.last.breaks, .own 0,vB c.last.ended, .own 1,vI c.lost],[(0,⟨false,53,7,c.last.entries.map bm⟩),(1,⟨false,55,8,c.queue.map cw⟩)])
def adp:Bool:=decide (c.last.entries.length*88<=140737488355328)&&c.last.entries.all (fun e=>decide (e.dz.length*16<=140737488355328))&&decide (c.queue.length<=100000)&&qh c.queue
def SH:aW:=aY 23 false rT adp SG
theorem adq:aX Tryz.prog au SH:=by
 refine CP f23 (keep:=true) (by kernel_rfl) (by kernel_rfl) azx mixed (de (x0:=aw f23 0) (by kernel_rfl) (bS ?_)) (by first | exact fun _ _=>⟨rfl,rfl⟩ | (intro h;cases h)) ?_
 .rintro⟨c,acc,k⟩ hp
  exact azy c acc k hp
 rintro c hpre hok
 show(aB Ez true _ (JP _)).val=some (SG _)
 unfold JP SG
 rw[azz]
 simp only[adp,aG]at hpre
 obtain⟨⟨⟨h1,h2⟩,h3⟩,h4⟩:=hpre
 simp only[Sx,azv,MQ,ar,aN,ak,aS,h1,h2,h3,h4,df,cf,decide_true,eh,i6]
def SI:Env:=bq ty au bp [SE,SH] [] [] []
theorem azB:aZ Tryz.prog SI:=bG (aI adl (aI adq bF))
theorem azC:(aB SI false f7 [.agg (lB c)]).val =
 (fun(q:List AV)=>(fun(q_1:dK)=>(fun(q_2:AV)=>(fun(q_3:AV)=>(fun(q_4:AV)=>ai (ac rS (q_4::q)) fun z=>bif lU
 z.1 z.2 != 0 then some (AV.aF [q_3,q_2,(vI (lU z.1 z.2))],[]) else bif (↑(ae (ab cw c.queue)):Int)==0 then some
 (AV.aF [q_3,q_2,(vI 9)],[]) else ai (ac rT [q_4]) fun z=>bif (decide (ae z.last.entries*88<=140737488355328)&&fx z.last.entries fun(e:cb)=>decide (ae e.dz*16<=140737488355328))&&decide (ae z.queue<=100000) &&
 qh z.queue then bif decide ((0:Nat)<ae (ah.mk false 55 8 (ab cw z.queue)).rows) then ai (ac (ab cw) (ab cw z.queue))
 fun z_1=>(fun(q_5:cb)=>bif decide ((0:Nat)<ae z_1) then bif aP (1:Nat) (ae (ab cw z.queue))&&aP
 (ae (ab cw z.queue)) (ae (ab cw z.queue))&&fx (ab cw z.queue) fun(r:Row)=>bk (ae r) (8:Nat) then
 some (AV.aF (AV.agg [(vB z.begun),(vI z.next),(vI z.last.target),(vI z.last.first),(vI z.last.breaks),AV.sl (ab bm z.last.entries),(vB z.last.ended),AV.sl
 (bn (1:Nat) (ab cw z.queue)),(vI z.lost)]::AV.agg [(vI (al z_1 (0:Nat) q_1).number),(vS q_5.uri),(vI q_5.eK),(vB q_5.brk),(vI
 q_5.date),(vS q_5.key),(vB q_5.kK),AV.sl (ab aC q_5.dz)]::q),[]) else none else none) (al z_1 (0:Nat) q_1).entry else none else none) (AV.agg
 [(vB c.begun),(vI c.next),(vI c.last.target),(vI c.last.first),(vI c.last.breaks),AV.sl (ab bm c.last.entries),(vB c.last.ended),AV.sl (ab cw
 c.queue),(vI c.lost)])) (AV.agg ((vB false)::(vI 0)::(vI 0)::(vI 0)::(vI 0)::AV.sl []::(vB false)::AV.sl []::q))) (AV.agg
 [(vI 0),(vS ⟨⟨[]⟩⟩),(vI 0),(vB false),(vI 0),(vS ⟨⟨[]⟩⟩),(vB false),AV.sl []])) (dK.mk (0 :
 Int) (cb.mk (az (aA [])) (0:Int) false (0:Int) (az (aA [])) false []))) [(vI 0)]:=by kernel_rfl
def JQ:List AV:=[.agg (lB c)]
def AF (a:dQ):List AV:=JQ a
theorem azD a a' (h:AF a=AF a'):a=a':=by
 simp only[AF,JQ]at h
 try simp[GS]at h
 grind
theorem adr (c_begun:Bool) (c_next:Int) (c_last:bH) (c_queue:List dK) (c_lost:Int):ac AF ([AV.agg [(vB c_begun),(vI c_next),(vI c_last.target),(vI c_last.first),(vI c_last.breaks),AV.sl (ab bm c_last.entries),(vB c_last.ended),AV.sl (ab
 cw c_queue),(vI c_lost)]])=some ((dQ.mk c_begun c_next c_last c_queue c_lost)):=ax azD ((dQ.mk c_begun c_next c_last c_queue c_lost)) rfl
def SJ:AV×Heap:=(.aF [.agg (lB (jA c).1), .agg (cw (jA c).2.1),vI (jA c).2.2],[])
def ads:Bool:=Ku c
end
def adt:aW:=aY 7 false AF ads SJ
theorem azE:aX Tryz.prog au adt:=by
 refine cx f7 azB ?_
 rintro c hpre hok
 show(aB SI false _ (JQ _)).val=some (SJ _)
 unfold JQ SJ
 rw[azC]
 simp only[ads,Ku,aG]at hpre
 obtain⟨⟨h1,h2⟩,h3⟩:=hpre
 simp only[azr,azA,MR,ar,aN,Xo,aS,fM,h1,h2,h3,jA,afH]
 cases hc:lU c 0 != 0
 .have hl:=aEB hc
  rcases Bool.eq_false_or_eq_true c.queue.isEmpty with h0 | h0
  .simp only[h0,ak,ap]
   rfl
  .have hn:0<c.queue.length:=by cases hh:c.queue<;>simp_all
   have d1:decide (c.queue.length<=100000)=true:=aj (by omega)
   have d2:decide (0<c.queue.length)=true:=aj hn
   have d3:aP 1 c.queue.length=true:=cg (by omega)
   have d4:aP c.queue.length c.queue.length=true:=cg (bR _)
   simp only[h0,d1,d2,d3,d4,aji,bT,ak,ap,<-List.map_drop]
   rfl
 .rfl
end M
def sf (first:Int) (a:Nat×Int×Int×List dK) (e:cb):Nat×Int×Int×List dK:=
 bif F.lt (am.wrap (first+a.1)) a.2.2.1 then (a.1+1,a.2.1,a.2.2.1,a.2.2.2) else
 (a.1+1,bif F.lt 0 a.2.1 then 0 else a.2.1,am.wrap (a.2.2.1+1),a.2.2.2++[⟨am.wrap (first+a.1),⟨e.uri,e.eK,bif F.lt 0 a.2.1 then true else e.brk,e.date,e.key,e.kK,e.dz⟩⟩])
def F.ld (first:Int) (k:Nat) (lost next:Int) (q:List dK) (l:List cb):Nat×Int×Int×List dK:=l.foldl (sf first) (k,lost,next,q)
def sC (l:bH):Bool:=l.entries.isEmpty
def BN (l:bH):Int:=max 0 (am.wrap (l.first - am.wrap (l.first+0)))
def BH (l:bH):Nat×Int×Int×List dK:=F.ld l.first 0 (BN l) (am.wrap (am.wrap (l.first+0)+BN l)) [] l.entries
def iT (l:bH):dQ×Int:=
 bif gm l != 0 then (Fo,gm l) else bif l.entries.isEmpty then (Fo,9) else
 bif F.lt 2000 (BH l).2.2.2.length then (Fo,17) else (⟨true,(BH l).2.2.1,l,(BH l).2.2.2,am.wrap (0+BN l)⟩,0)
namespace M
def EA (k:Nat):St:=⟨[(17,vI k),(16,vI ((0:Nat):Int)),(15, .sl []),(2, .fn 108 []),(1, .sl [])],[]⟩
def AG (a:Nat):St:=EA a
theorem azF a a' (h:AG a=AG a'):a=a':=by
 simp only[AG,EA]at h
 try simp at h
 grind
theorem azG   : ac AG (St.mk [(17,(vI (0:Int))),(16,(vI (↑(0:Nat):Int))),(15,AV.sl []),(2,AV.fn (108:FuncId) []),(1,AV.sl [])] [])=some (0):=ax azF (0) rfl
def SK (k:Nat):T (Ex×St):= .ret (.exit 0,⟨[],[]⟩)
def SL (k:Nat):Bool:=decide (k=0)
def azH:Nat×(St->T (Ex×St)):=(4,lpo [17,16,15,2,1] [] AG SL SK)
def EB:Env:=bq ty au bp [] [] [] [azH]
theorem azI:aZ Tryz.prog EB:=bG bF
theorem azJ (k:Nat):((exec EB (aw f109 0) (EA k)).bind (bE ([17,16,15,2,1],[]) ([],[]) ([6],[]))).val =
 some (Ex.exit (0:Nat),St.mk [] []):=by kernel_rfl
theorem azK (k:Nat) (hp:SL k=true) : ∀ex s',(SK k).val=some (ex,s')->ba EB (aw f109 0) (EA k) ex s':=by
 simp only[SL,aM]at hp
 refine cE (st:=fun k=>EA k) (out:=fun k=>SK k) (I:=fun k=>k=0) (n:=([17,16,15,2,1],[])) (e:=([],[])) (r:=([6],[])) (fun _=>0) ?_ k hp
 rintro k rfl
 left
 refine⟨(.exit 0,⟨[],[]⟩),?_,rfl,by simp,rfl⟩
 rw[azJ]
theorem azL  : (aB EB false f109 [.sl [], .sl [], .fn 108 []]).val =
 ai (ac AG (St.mk [(17,(vI 0)),(16,(vI (↑(0:Nat):Int))),(15,AV.sl []),(2,AV.fn (108:FuncId) []),(1,AV.sl [])] [])) fun z=>
 bif decide (z=(0:Nat))&&true then some ((vB true),[]) else none:=by kernel_rfl
def SM  : List AV:=[.sl [], .sl [], .fn 108 []]
def EC (a:Unit):List AV:=SM
theorem azM a a' (h:EC a=EC a'):a=a':=rfl
theorem azN  : ac EC ([AV.sl [],AV.sl [],AV.fn (108:FuncId) []])=some ():=ax azM () rfl
def SN  : AV×Heap:=(vB true,[])
def azO  : Bool:=true
def adu:aW:=aY 109 true EC (fun a=>azO) fun a=>SN
theorem azP:aX Tryz.prog au adu:=by
 refine cQ f109 azI (de (x0:=aw f109 0) (by kernel_rfl) (bS ?_)) ?_
 .intro k hp
  exact azK k hp
 rintro⟨⟩ hpre hok
 show(aB EB false _ (SM )).val=some (SN )
 unfold SM SN
 rw[azL]
 simp only[azG,ar,aS]
 try rfl
def SO:Env:=bq ty au bp [adu] [] [] []
theorem azQ:aZ Tryz.prog SO:=bG (aI azP bF)
theorem azR  : (aB SO false f53 [.agg [vI 0,vI 0,vI 0, .sl [],vB false], .agg [vI 0,vI 0,vI 0, .sl [],vB false]]).val =
 ai (ac EC [AV.sl [],AV.sl [],AV.fn (108:Nat) []]) fun z=>some ((vB true),[]):=by kernel_rfl
def SP  : List AV:=[.agg [vI 0,vI 0,vI 0, .sl [],vB false], .agg [vI 0,vI 0,vI 0, .sl [],vB false]]
def ED (a:Unit):List AV:=SP
theorem azS a a' (h:ED a=ED a'):a=a':=rfl
theorem azT  : ac ED ([AV.agg [(vI (0:Int)),(vI (0:Int)),(vI (0:Int)),AV.sl [],(vB false)],AV.agg [(vI (0:Int)),(vI (0:Int)),(vI (0:Int)),AV.sl [],(vB false)]])=some ():=ax azS () rfl
def SQ  : AV×Heap:=(vB true,[])
def azU  : Bool:=true
def adv:aW:=aY 53 true ED (fun a=>azU) fun a=>SQ
theorem azV:aX Tryz.prog au adv:=by
 refine cx f53 azQ ?_
 rintro⟨⟩ hpre hok
 show(aB SO false _ (SP )).val=some (SQ )
 unfold SP SQ
 rw[azR]
 simp only[azN,ar]
 try rfl
def SR:Env:=bq ty au bp [jJ,Sv] [] [] []
theorem azW:aZ Tryz.prog SR:=bG (aI jZ (aI ade bF))
section
variable (l:bH)
theorem azX:(aB SR false f54 [.agg (cd l),vI 0]).val =
 ai (ac eT [(vI 0),(vI 0),(vI 1000000000000000)]) fun z=>bif F.out z.1 z.2.1 z.2.2 then some
 (AV.aF [(vI 0),(vI 0),(vI 1)],[]) else bif (↑(ae (ab bm l.entries)):Int)==0 then some (AV.aF [(vI 0),(vI
 (0:Int)),(vI 9)],[]) else ai (ac uP [AV.agg [(vI l.target),(vI l.first),(vI l.breaks),AV.sl (ab bm l.entries),(vB l.ended)]]) fun
 (z:bH)=>bif bif l.ended then true else decide (am.wrap (qc (0:Int) z.entries - (0:Int))<0) then some (AV.aF [(vI 0),(vI
 (0:Int)),(vI 0)],[]) else ai (idx (am.wrap ((↑(ae (ab bm l.entries)):Int) - (1:Int)))) fun z=>
 ai (ac (ab bm) (ab bm l.entries)) fun z_1=>bif decide (z<ae z_1) then some (AV.aF [(vI (bQ am
 ((↑(ae (ab bm l.entries)):Int) - (1:Int)))),(vI (al z_1 z (cb.mk (az (aA [])) (0:Int) false (0:Int) (az
 (aA [])) false [])).eK),(vI 0)],[]) else none:=by kernel_rfl
def JR:List AV:=[.agg (cd l),vI 0]
def AH (a:bH):List AV:=JR a
theorem azY a a' (h:AH a=AH a'):a=a':=by
 simp only[AH,JR]at h
 try simp[nT]at h
 grind
theorem azZ (l_target:Int) (l_first:Int) (l_breaks:Int) (l_entries:List cb) (l_ended:Bool):ac AH ([AV.agg [(vI l_target),(vI l_first),(vI l_breaks),AV.sl (ab bm l_entries),(vB l_ended)],(vI (0:Int))])=some ((bH.mk l_target l_first l_breaks l_entries l_ended)):=ax azY ((bH.mk l_target l_first l_breaks l_entries l_ended)) rfl
def SS:AV×Heap:=(.aF [vI 0,vI 0,vI (bif sC l then 9 else 0)],[])
def adw:Bool:=l.ended
def adx:aW:=aY 54 true AH adw SS
theorem az0:aX Tryz.prog au adx:=by
 refine cx f54 azW ?_
 rintro l hpre hok
 show(aB SR false _ (JR _)).val=some (SS _)
 unfold JR SS
 rw[azX]
 simp only[adw]at hpre
 simp only[jk,adc,ar,aN,tA,ak,afH,hpre]
 unfold sC
 cases l.entries.isEmpty<;>rfl
def SU:Env:=bq ty au bp [SE,adv,adx] [] [] []
theorem az1:aZ Tryz.prog SU:=bG (aI adl (aI azV (aI az0 bF)))
theorem az2:(aB SU false f22 [.agg [vB false,vI 0,vI 0,vI 0,vI 0, .sl [],vB false, .sl [],vI 0], .agg (cd l),vI 0]).val =
 ai (ac rS [AV.agg [(vB false),(vI 0),(vI 0),(vI 0),(vI 0),AV.sl [],(vB false),AV.sl [],(vI 0)],(vI 0)]) fun z=>bif lU z.1 z.2 != 0 then some (AV.aF [(vI 0),(vI (lU z.1 z.2))],[]) else ai (ac ED
 [AV.agg [(vI 0),(vI 0),(vI 0),AV.sl [],(vB false)],AV.agg [(vI 0),(vI 0),(vI 0),AV.sl [],(vB false)]]) fun(z :
 Unit)=>ai (ac AH [AV.agg [(vI l.target),(vI l.first),(vI l.breaks),AV.sl (ab bm l.entries),(vB l.ended)],(vI 0)]) fun z=>
 bif z.ended then some (AV.aF [(vI (am.wrap (l.first+0))),(vI (bif sC z then (9:Int) else (0:Int)))],[]) else none:=by kernel_rfl
def JS:List AV:=[.agg [vB false,vI 0,vI 0,vI 0,vI 0, .sl [],vB false, .sl [],vI 0], .agg (cd l),vI 0]
def AI (a:bH):List AV:=JS a
theorem az3 a a' (h:AI a=AI a'):a=a':=by
 simp only[AI,JS]at h
 try simp[nT]at h
 grind
theorem ady (l_target:Int) (l_first:Int) (l_breaks:Int) (l_entries:List cb) (l_ended:Bool):ac AI ([AV.agg [(vB false),(vI (0:Int)),(vI (0:Int)),(vI (0:Int)),(vI (0:Int)),AV.sl [],(vB false),AV.sl [],(vI (0:Int))],AV.agg [(vI l_target),(vI l_first),
 (vI l_breaks),AV.sl (ab bm l_entries),(vB l_ended)],(vI (0:Int))])=some ((bH.mk l_target l_first l_breaks l_entries l_ended)):=ax az3 ((bH.mk l_target l_first l_breaks l_entries l_ended)) rfl
def SV:AV×Heap:=(.aF [vI (am.wrap (l.first+0)),vI (bif sC l then 9 else 0)],[])
def adz:Bool:=l.ended
def adA:aW:=aY 22 false AI adz SV
theorem az4:aX Tryz.prog au adA:=by
 refine cx f22 az1 ?_
 rintro l hpre hok
 show(aB SU false _ (JS _)).val=some (SV _)
 unfold JS SV
 rw[az2]
 obtain⟨t,fi,br,es,en⟩:=l
 simp only[adz]at hpre
 subst hpre
 simp only[azT,azZ,ar,ak]
 have hu:ac rS [.agg [.v (.bool false), .v (.int .i64 0), .v (.int .i64 0), .v (.int .i64 0), .v (.int .i64 0), .sl [], .v (.bool false), .sl [], .v (.int .i64 0)], .v (.int .i64 0)]=some (⟨false,0,⟨0,0,0,[],false⟩,[],0⟩,0):=ax adk (⟨false,0,⟨0,0,0,[],false⟩,[],0⟩,0) rfl
 rw[hu]
 have hf:lU ⟨false,0,⟨0,0,0,[],false⟩,[],0⟩ 0=0:=rfl
 simp only[ar,hf]
 cases sC ⟨t,fi,br,es,true⟩<;>rfl
def rU (ll:Int) (lost:Int) (next:Int) (q:List dK) (k:Nat):St:=⟨[(55,vI k),(54,vI l.entries.length),(53, .sl (l.entries.map bm)),(12,vI lost),(11, .ptr 11 0 0),(6, .ptr 6 0 0),(4, .ptr 4 0 0)],[(48000,⟨false,53,7,l.entries.map bm⟩),(34001,⟨false,55,8,q.map cw⟩),(11,⟨true,0,0,[[vB true,vI next,vI l.target,vI l.first,vI l.breaks, .own 48000,vB l.ended, .own 34001,vI ll]]⟩),(6,⟨true,0,0,[[vB false,vI 0,vI 0,vI 0,vI 0, .e0,vB false, .e0,vI 0]]⟩),(4,⟨true,0,0,[cd l]⟩)]⟩
def AJ (a:bH×Int×Int×Int×(List dK)×Nat):St:=rU a.1 a.2.1 a.2.2.1 a.2.2.2.1 a.2.2.2.2.1 a.2.2.2.2.2
theorem az5 a a' (h:AJ a=AJ a'):a=a':=by
 simp only[AJ,rU]at h
 try simp[ri,nT,GQ]at h
 grind
theorem az6 (ll:Int) (lost:Int) (next:Int)  : ac AJ (St.mk [(55,(vI (0:Int))),(54,(vI (↑(ae l.entries):Int))),(53,AV.sl (ab bm l.entries)),(12,(vI lost)),(11, .ptr 11 0 0),(6, .ptr 6 0 0),(4,
 .ptr 4 0 0)] [(48000,ah.mk false 53 7 (ab bm l.entries)),(34001,ah.mk false 55 8 []),(11,ah.mk true 0 0 [[(vB true),(vI next),(vI l.target),(vI
 l.first),(vI l.breaks), .own 48000,(vB l.ended), .own 34001,(vI ll)]]),(6,ah.mk true 0 0 [[(vB false),(vI (0:Int)),(vI (0:Int)),(vI (0:Int)),(vI (0 :
 Int)),AV.e0,(vB false),AV.e0,(vI (0:Int))]]),(4,ah.mk true 0 0 [[(vI l.target),(vI l.first),(vI l.breaks),AV.sl (ab bm l.entries),(vB l.ended)]])])=some (l,ll,lost,next,[],0):=ax az5 (l,ll,lost,next,[],0) rfl
def adB (ll:Int) (lost:Int) (next:Int) (q:List dK) (k:Nat):T (Ex×St):= .ret (.exit 0,⟨[(11, .ptr 11 0 0),(6, .ptr 6 0 0)],[(48000,⟨false,53,7,l.entries.map bm⟩),(34001,⟨false,55,8,(F.ld l.first k lost next q (l.entries.drop k)).2.2.2.map cw⟩),(11,⟨true,0,0,[[vB true,vI (F.ld l.first k lost next q (l.entries.drop k)).2.2.1,vI l.target,vI l.first,vI l.breaks, .own 48000,vB l.ended, .own 34001,vI ll]]⟩),(6,⟨true,0,0,[[vB false,vI 0,vI 0,vI 0,vI 0, .e0,vB false, .e0,vI 0]]⟩)]⟩)
def SX (ll:Int) (lost:Int) (next:Int) (q:List dK) (k:Nat):Bool:=decide (l.entries.length<=1000)&&decide (k<=l.entries.length)&&decide (q.length<=2000+k)&&l.entries.all (fun e=>decide (e.dz.length*16<=140737488355328))
def az7:Nat×(St->T (Ex×St)):=(11,lpo [55,54,53,12,11,6,4] [48000,34001,11,6,4] AJ (m7 SX) (m7 adB))
def EE:Env:=bq ty au bp [HM,adA,SH,Sz,JK] [] [] [az7]
theorem az8:aZ Tryz.prog EE:=bG (aI Oi (aI az4 (aI adq (aI adi (aI Sr bF)))))
theorem adC (ll:Int) (lost:Int) (next:Int) (q:List dK) (k:Nat):((exec EE (aw f6 0) (rU l ll lost next q k)).bind (bE ([55,54,53,12,11,6,4],[48000,34001,11,6,4]) ([11,6],[48000,34001,11,6]) ([],[]))).val =
 (fun(q_1:Int)=>(fun(q_2:AV)=>(fun(q_3:Nat×ah)=>(fun(q_4:Nat×AV)=>(fun(q_5:Bool)=>(fun(q_6:cb)=>(fun(q_7:List (Nat×AV))=>(fun
 (q_8:List AV)=>(fun(q_9:Nat×ah)=>(fun(q_10:Nat×ah)=>(fun(q_11:List (Nat×AV))=>(fun(q_12:List (Nat×ah))=>(fun(q_13:List (Nat×ah))
 =>bif decide ((↑k:Int)<(↑(ae l.entries):Int)) then ai (ac (ab bm) (ab bm l.entries)) fun z=>bif decide (k <
 ae z) then bif decide (q_1<next) then some (Ex.normal,St.mk q_11 (q_3::(34001,ah.mk false 55 8 (ab cw q))::q_10::q_12)) else ai (ac
 rR [AV.agg [(vS (al z k q_6).uri),(vI (al z k q_6).eK),(vB (al z k q_6).brk),(vI (al z k q_6).date),(vS (al z k q_6).key),
 (vB (al z k q_6).kK),AV.sl (ab aC (al z k q_6).dz)]]) fun z=>(fun(q_14:List AV)=>bif decide (ae z.dz*16 <=
 (140737488355328:Nat)) then bif decide ((0:Int)<lost) then bif q_5 then some (Ex.normal,St.mk (q_4::(54,(vI (↑(ae l.entries):Int)))::(53,AV.sl
 (ab bm l.entries))::(12,(vI 0))::q_7) (q_3::(34001,ah.mk false 55 8 (ab cw q++[q_2::(vS z.uri)::(vI z.eK)::(vB true)::q_14]))
 :: q_13)) else none else bif q_5 then some (Ex.normal,St.mk q_11 (q_3::(34001,ah.mk false 55 8 (ab cw q++[q_2::(vS z.uri)::(vI z.eK)::(vB z.brk) ::
 q_14]))::q_13)) else none else none) [(vI z.date),(vS z.key),(vB z.kK),AV.sl (ab aC z.dz)] else none else some (Ex.exit (0:Nat),St.mk [(11, .ptr 11 0
 0),(6, .ptr 6 0 0)] [q_3,(34001,ah.mk false 55 8 (ab cw q)),q_10,q_9])) ((11,ah.mk true 0 0 [(vB true)::(vI (am.wrap (next+1)))::q_8])::q_12)) [q_9,(4,ah.mk true 0 0 [[(vI l.target),(vI l.first),(vI l.breaks),AV.sl (ab bm l.entries),(vB l.ended)]])]) (q_4::(54,(vI
 (↑(ae l.entries):Int)))::(53,AV.sl (ab bm l.entries))::(12,(vI lost))::q_7)) (11,ah.mk true 0 0 [(vB true)::(vI next)::q_8])) (6,ah.mk
 true 0 0 [[(vB false),(vI 0),(vI 0),(vI 0),(vI 0),AV.e0,(vB false),AV.e0,(vI 0)]])) [(vI l.target),(vI l.first),(vI
 l.breaks), .own 48000,(vB l.ended), .own 34001,(vI ll)]) [(11, .ptr 11 0 0),(6, .ptr 6 0 0),(4, .ptr 4 0 0)]) (cb.mk (az (aA [])) (0:Int) false (0 :
 Int) (az (aA [])) false [])) (aP ((ae (ab cw q)+1)*96) 140737488355328&&true)) (55,(vI (bQ
 am ((↑k:Int)+1))))) (48000,ah.mk false 53 7 (ab bm l.entries))) ((vI q_1))) (am.wrap (l.first+(↑k:Int))):=by kernel_rfl
theorem az9 (l:bH) (ll:Int) (lost:Int) (next:Int) (q:List dK) (k:Nat) (hp:SX l ll lost next q k=true) : ∀ex s',(adB l ll lost next q k).val=some (ex,s')->ba EE (aw f6 0) (rU l ll lost next q k) ex s':=by
 simp only[SX,aG,aM]at hp
 obtain⟨⟨⟨h1,h2⟩,h3⟩,h4⟩:=hp
 refine rh (xs:=l.entries) (st:=fun(a:Nat×Int×Int×List dK) k=>rU l ll a.2.1 a.2.2.1 a.2.2.2 k) (f:=sf l.first) (fin:=fun a=>(.exit 0,⟨[(11, .ptr 11 0 0),(6, .ptr 6 0 0)],[(48000,⟨false,53,7,l.entries.map bm⟩),(34001,⟨false,55,8,a.2.2.2.map cw⟩),(11,⟨true,0,0,[[vB true,vI a.2.2.1,vI l.target,vI l.first,vI l.breaks, .own 48000,vB l.ended, .own 34001,vI ll]]⟩),(6,⟨true,0,0,[[vB false,vI 0,vI 0,vI 0,vI 0, .e0,vB false, .e0,vI 0]]⟩)]⟩)) (I:=fun a k=>a.1=k/\a.2.2.2.length<=2000+k) (n:=([55,54,53,12,11,6,4],[48000,34001,11,6,4])) (e:=([11,6],[48000,34001,11,6])) (r:=([],[])) ?_ (fun _=>⟨by simp,rfl⟩) (fun _ _=>rfl) ?_ (k,lost,next,q) k h2 ⟨rfl,h3⟩
 .rintro⟨j,lost,next,q⟩ _
  rw[adC];simp
 .rintro⟨j,lost,next,q⟩ k y hy ⟨hj,hI⟩
  simp only at hj hI
  subst hj
  have hlt:=cy hy
  have he:decide (y.dz.length*16<=140737488355328)=true:=bP.1 h4 y (cL hy)
  have hb:aP ((q.length+1)*96) 140737488355328=true:=cg (by omega)
  refine⟨?_,?_⟩
  .rw[adC]
   by_cases hn:am.wrap (l.first+(j:Int))<next
   .simp only[Ev,CQ,ar,aN,tA,F.lt,ak,aS,bA hlt,aj hlt,ch hlt (by omega:l.entries.length<=9223372036854775807),rU,hb,sf,F.lt,hn,decide_true,cd]
    try rfl
   .by_cases hl:0<lost
    .simp only[Ev,CQ,ar,aN,tA,F.lt,ak,ap,aS,bA hlt,aj hlt,ch hlt (by omega:l.entries.length<=9223372036854775807),getD_at hy,rU,he,hb,sf,F.lt,hn,hl,decide_true,decide_false,cd,l7]
     rfl
    .simp only[Ev,CQ,ar,aN,tA,F.lt,ak,ap,aS,bA hlt,aj hlt,ch hlt (by omega:l.entries.length<=9223372036854775807),getD_at hy,rU,he,hb,sf,F.lt,hn,hl,decide_false,cd,l7]
     rfl
  .simp only[sf]
   cases F.lt (am.wrap (l.first+(j:Int))) next<;>simp<;>omega
theorem aAa:(aB EE false f6 [.agg [vB false,vI 0,vI 0,vI 0,vI 0, .sl [],vB false, .sl [],vI 0], .agg (cd l),vI 0]).val =
 (fun(q:List AV)=>(fun(q_1:List AV)=>(fun(q_2:AV)=>(fun(q_3:List AV)=>(fun(q_4:AV)=>ai (ac oN q_3) fun z=>bif gm z
 != 0 then some (AV.aF [q_4,(vI (gm z))],[]) else ai (ac AI (q_4::q_2::q)) fun z=>(fun(q_5:Int)=>bif z.ended then bif
 (bif sC z then (9:Int) else (0:Int)) != 0 then some (AV.aF [q_4,(vI (bif sC z then (9:Int) else (0:Int)))],[]) else ai (ac rT
 [q_4]) fun z_1=>bif (decide (ae z_1.last.entries*88<=140737488355328)&&fx z_1.last.entries fun(e:cb)=>decide
 (ae e.dz*16<=140737488355328))&&decide (ae z_1.queue<=100000)&&qh z_1.queue then ai (ac uQ q_3) fun
 (z_2:bH)=>bif decide (ae z_2.entries*88<=140737488355328)&&fx z_2.entries fun(e:cb)=>decide (ae e.dz*16<=140737488355328) then ai (ac AJ (St.mk [(55,(vI 0)),(54,(vI (↑(ae (ab bm l.entries)):Int))),(53,AV.sl
 (ab bm l.entries)),(12,(vI q_5)),(11, .ptr 11 0 0),(6, .ptr 6 0 0),(4, .ptr 4 0 0)] [(48000,ah.mk false 53 7 (ab bm z_2.entries)),(34001,ah.mk
 false 55 8 (ab cw z_1.queue)),(11,ah.mk true 0 0 [[(vB true),(vI (am.wrap (am.wrap (z.first+0)+q_5))),(vI
 z_2.target),(vI z_2.first),(vI z_2.breaks), .own 48000,(vB z_2.ended), .own 34001,(vI (am.wrap ((0:Int)+q_5)))]]),(6,ah.mk true 0 0 [(vB false)
 :: (vI 0)::(vI 0)::(vI 0)::(vI 0)::AV.e0::(vB false)::AV.e0::q]),(4,ah.mk true 0 0 [q_1])])) fun z=>(fun(q_6:Nat)=>(fun(q_7:Int×List dK)=>(fun(q_8:List Row)=>bif (decide (ae z.1.entries<=1000)&&decide (q_6
 <= ae z.1.entries)&&decide (ae z.2.2.2.2.1<=2000+q_6)&&fx z.1.entries fun(e:cb)=>decide (ae e.dz *
 (16:Nat)<=140737488355328))&&true then bif decide ((2000:Int)<(↑(ae q_8):Int)) then some (AV.aF [q_4,(vI 17)],[]) else some (AV.aF
 (AV.agg [(vB true),(vI q_7.fst),(vI z.1.target),(vI z.1.first),(vI z.1.breaks),AV.sl (ab bm z.1.entries),(vB z.1.ended),AV.sl q_8,(vI z.2.1)]
 :: q),[]) else none) (ab cw q_7.snd)) (F.ld z.1.first q_6 z.2.2.1 z.2.2.2.1 z.2.2.2.2.1 (bn q_6 z.1.entries)).snd.snd)
 z.2.2.2.2.2 else none else none else none) (max (0:Int) (am.wrap (l.first - am.wrap (z.first+0))))) (AV.agg ((vB
 false)::(vI 0)::(vI 0)::(vI 0)::(vI 0)::AV.sl []::(vB false)::AV.sl []::q))) [q_2]) (AV.agg q_1)) [(vI l.target),(vI
 l.first),(vI l.breaks),AV.sl (ab bm l.entries),(vB l.ended)]) [(vI 0)]:=by kernel_rfl
def JT:List AV:=[.agg [vB false,vI 0,vI 0,vI 0,vI 0, .sl [],vB false, .sl [],vI 0], .agg (cd l),vI 0]
def AK (a:bH):List AV:=JT a
theorem aAb a a' (h:AK a=AK a'):a=a':=by
 simp only[AK,JT]at h
 try simp[nT]at h
 grind
theorem aAc (l_target:Int) (l_first:Int) (l_breaks:Int) (l_entries:List cb) (l_ended:Bool):ac AK ([AV.agg [(vB false),(vI (0:Int)),(vI (0:Int)),(vI (0:Int)),(vI (0:Int)),AV.sl [],(vB false),AV.sl [],(vI (0:Int))],AV.agg [(vI l_target),(vI l_first),
 (vI l_breaks),AV.sl (ab bm l_entries),(vB l_ended)],(vI (0:Int))])=some ((bH.mk l_target l_first l_breaks l_entries l_ended)):=ax aAb ((bH.mk l_target l_first l_breaks l_entries l_ended)) rfl
def SY:AV×Heap:=(.aF [.agg (lB (iT l).1),vI (iT l).2],[])
def adD:Bool:=l.ended
end
def adE:aW:=aY 6 false AK adD SY
theorem aAd:aX Tryz.prog au adE:=by
 refine cQ f6 az8 (de (x0:=aw f6 0) (by kernel_rfl) (bS ?_)) ?_
 .rintro⟨l,ll,lost,next,q,k⟩ hp
  exact az9 l ll lost next q k hp
 rintro l hpre hok
 show(aB EE false _ (JT _)).val=some (SY _)
 unfold JT SY
 rw[aAa]
 obtain⟨t,fi,br,es,en⟩:=l
 simp only[adD]at hpre
 subst hpre
 by_cases h0:gm ⟨t,fi,br,es,true⟩=0
 .have hr:=afK h0
  have hr1:=(aG _ _▸hr:_/\_).1
  have hr2:=(aG _ _▸hr:_/\_).2
  have d0:decide (es.length<=1000)=true:=aj (vA h0).1
  have hu:ac rT [.agg [.v (.bool false), .v (.int .i64 0), .v (.int .i64 0), .v (.int .i64 0), .v (.int .i64 0), .sl [], .v (.bool false), .sl [], .v (.int .i64 0)]]=some ⟨false,0,⟨0,0,0,[],false⟩,[],0⟩:=ax ado ⟨false,0,⟨0,0,0,[],false⟩,[],0⟩ rfl
  simp only[HL,ady,Sx,ar,aN,F.lt,ak,ap,aS,h0,hr1,hr2,hu,iT,BH,BN,F.lt,qh,sC,sD,i6,List.all_nil,cf,decide_true,bne_self_eq_false]
  cases es.isEmpty
  .have hs:=az6 ⟨t,fi,br,es,true⟩ (am.wrap (0+max 0 (am.wrap (fi - am.wrap (fi+0))))) (max 0 (am.wrap (fi - am.wrap (fi+0)))) (am.wrap (am.wrap (fi+0)+max 0 (am.wrap (fi - am.wrap (fi+0)))))
   simp only at hs
   rw[hs]
   have d1:decide (0*88<=140737488355328)=true:=rfl
   simp only[d1,ar,d0,hr2,ak,ap,df,i6,cf,decide_true,bT,bne_self_eq_false]
   by_cases hR:2000<((F.ld fi 0 (max 0 (am.wrap (fi - am.wrap (fi+0)))) (am.wrap (am.wrap (fi+0)+max 0 (am.wrap (fi - am.wrap (fi+0))))) [] es).2.2.2.length:Int)<;>simp only[hR,decide_true,decide_false]<;>rfl
  .rfl
 .have hb:(gm ⟨t,fi,br,es,true⟩ != 0)=true:=by simp[h0]
  simp only[HL,ady,Sx,ar,aN,F.lt,ak,aS,hb,iT]
  rfl
end M
def F.q0 (first:Int) (k:Nat):List cb->List dK
 | []=>[]
 | e::l=>⟨first+k,e⟩::F.q0 first (k+1) l
theorem KS (first:Int) : ∀(l:List cb) (k:Nat),(F.q0 first k l).length=l.length
 | [],_=>rfl
 | _::l,k=>by simp only[F.q0,gq,KS first l]
theorem afV (first:Int) : ∀(l:List cb) (k i:Nat) (e:cb),l[i]? = some e->(F.q0 first k l)[i]? = some ⟨first+(k+i:Nat),e⟩
 | [],_,_,_,h=>by simp at h
 | y::l,k,0,e,h=>by
  simp only[List.getElem?_cons_zero,eX]at h
  subst h
  simp[F.q0]
 | y::l,k,i+1,e,h=>by
  simp only[qu]at h
  simp only[F.q0,qu]
  rw[afV first l (k+1) i e h,show k+1+i=k+(i+1) by omega]
theorem af6 (first:Int) (h0:0<=first) : ∀(l:List cb) (k:Nat) (q:List dK),first+k+l.length<=1000000000000000000 ->
  F.ld first k 0 (first+k) q l=(k+l.length,0,first+(k+l.length:Nat),q++F.q0 first k l)
 | [],k,q,h=>by simp[F.ld,F.q0]
 | e::l,k,q,h=>by
  simp only[gq]at h
  have e1:am.wrap (first+(k:Int))=first+k:=M.cA (by omega) (by omega)
  have e2:am.wrap (first+(k:Int)+1)=first+(k+1:Nat):=by rw[M.cA (by omega) (by omega)];omega
  have hs:sf first (k,0,first+k,q) e=(k+1,0,first+(k+1:Nat),q++[⟨first+k,e⟩]):=by
   simp only[sf,e1,e2,F.lt,Int.lt_irrefl,decide_false,ap]
  have ih:=af6 first h0 l (k+1) (q++[⟨first+k,e⟩]) (by omega)
  unfold F.ld at ih ⊢
  rw[lY,hs,ih]
  simp only[F.q0,gq,cq,List.singleton_append,show k+1+l.length=k+(l.length+1) by omega]
def ki (x:bH) (k:Nat):dQ:=⟨true,x.first+x.entries.length,x,(F.q0 x.first 0 x.entries).drop k,0⟩
theorem aFv {x:bH} (h:gm x=0) (hn:x.entries≠[]):iT x=(ki x 0,0):=by
 obtain⟨hl,_,_,h0,_⟩:=vA h
 have w1:am.wrap (x.first+0)=x.first:=by rw[Int.add_zero];exact M.cA (by omega) (by omega)
 have hN:BN x=0:=by
  unfold BN
  rw[w1,Int.sub_self]
  rfl
 have hL:BH x=(x.entries.length,0,x.first+x.entries.length,F.q0 x.first 0 x.entries):=by
  unfold BH
  rw[hN,w1,w1]
  have:=af6 x.first h0.1 x.entries 0 [] (by omega)
  simpa using this
 have he:x.entries.isEmpty=false:=by cases hh:x.entries<;>simp_all
 have hq:F.lt 2000 ((F.q0 x.first 0 x.entries).length:Int)=false:=by
  rw[KS];unfold F.lt;exact aH (by omega)
 unfold iT
 rw[h,he,hL,hN]
 simp only[bne_self_eq_false,ap,hq]
 simp only[ki,df,Prod.mk.injEq,and_true,dQ.mk.injEq,true_and]
 rfl
theorem aFi {x:bH} (h:gm x=0) (k:Nat):lU (ki x k) 0=0:=by
 obtain⟨hl,_,_,h0,_⟩:=vA h
 have h1:F.out (x.first+x.entries.length) 0 1000000000000000=false:=by simp[F.out];omega
 have h2:F.lt 2000 (((F.q0 x.first 0 x.entries).drop k).length:Int)=false:=by
  rw[fe,KS];unfold F.lt;exact aH (by omega)
 simp only[lU,ki,h1,h2]
 rfl
theorem aEV {x:bH} (h:gm x=0) {k:Nat} {e:cb} (he:x.entries[k]? = some e):jA (ki x k)=(ki x (k+1),⟨x.first+k,e⟩,0):=by
 have hk:=(cO.1 he).1
 have hq:=afV x.first x.entries 0 k e he
 rw[gD]at hq
 have hg:((F.q0 x.first 0 x.entries).drop k)[0]? = some ⟨x.first+k,e⟩:=by rw[sH];exact hq
 have hz:((F.q0 x.first 0 x.entries).drop k).isEmpty=false:=by
  cases hh:(F.q0 x.first 0 x.entries).drop k with
  | nil=>rw[hh]at hg;simp at hg
  | cons _ _=>rfl
 unfold jA
 rw[aFi h]
 simp only[bne_self_eq_false,ap,ki,hz,sE]
 rw[vL,hg]
 rfl
theorem aEZ {l:List Std} {cs:List cv} {w:b9} {n:Int} (h:(eE l cs w n).2=0) :
  ∃bs,dV l=0/\(gp l bs n).2=0/\(eE l cs w n).1.lK=(gp l bs n).1/\(eE l cs w n).1.lists=l.zipIdx.map (nt (gp l bs n).1 n)/\M.bN (kV (gp l bs n).1 n) l.zipIdx=0:=by
 unfold eE at h ⊢
 by_cases h1:dV l=0
 case neg=>rw[M.cP h1]at h;exact absurd h h1
 rw[M.cR h1]at h ⊢
 simp only[ap]at h ⊢
 by_cases h2:o7 l cs=0
 case neg=>rw[M.cP h2]at h;exact absurd h h2
 rw[M.cR h2]at h ⊢
 simp only[ap]at h ⊢
 cases h3:(w.aU != eD l)with
 | true=>rw[h3]at h;simp at h
 | false=>
 rw[h3]at h
 simp only[ap]at h ⊢
 by_cases h4:(ib l w).2=0
 case neg=>rw[M.cP h4]at h;exact absurd h h4
 rw[M.cR h4]at h ⊢
 simp only[ap]at h ⊢
 by_cases h5:(gp l (ib l w).1 n).2=0
 case neg=>rw[M.cP h5]at h;exact absurd h h5
 rw[M.cR h5]at h ⊢
 simp only[ap]at h ⊢
 refine⟨(ib l w).1,h1,h5,?_⟩
 generalize gp l (ib l w).1 n=A at h
 generalize (ib l w).1=bs at h
 unfold KJ at h ⊢
 cases h6:sr A.1 with
 | true=>rw[h6]at h;simp at h
 | false=>
 rw[h6]at h
 simp only[ap]at h ⊢
 by_cases h7:M.bN (kV A.1 n) l.zipIdx=0
 case neg=>rw[M.cP h7]at h;exact absurd h h7
 rw[M.cR h7]at h ⊢
 simp only[ap]at h ⊢
 by_cases h8:qb (pa l A.1 cs)=0
 case neg=>rw[M.cP h8]at h;exact absurd h h8
 rw[M.cR h8]
 exact⟨rfl,rfl,h7⟩
theorem aFe {l:List Std} {cs:List cv} {w:b9} {n:Int} (h:(eE l cs w n).2≠0):(eE l cs w n).1=qp:=by
 unfold eE at h ⊢
 cases h1:dV l != 0 with
 | true=>rfl
 | false=>
 rw[h1]at h
 simp only[ap]at h ⊢
 cases h2:o7 l cs != 0 with
 | true=>rfl
 | false=>
 rw[h2]at h
 simp only[ap]at h ⊢
 cases h3:(w.aU != eD l)with
 | true=>rfl
 | false=>
 rw[h3]at h
 simp only[ap]at h ⊢
 cases h4:(ib l w).2 != 0 with
 | true=>rfl
 | false=>
 rw[h4]at h
 simp only[ap]at h ⊢
 cases h5:(gp l (ib l w).1 n).2 != 0 with
 | true=>rfl
 | false=>
 rw[h5]at h
 simp only[ap]at h ⊢
 generalize gp l (ib l w).1 n=A at h
 generalize (ib l w).1=bs at h
 unfold KJ at h ⊢
 cases h6:sr A.1 with
 | true=>rfl
 | false=>
 rw[h6]at h
 simp only[ap]at h ⊢
 cases h7:M.bN (kV A.1 n) l.zipIdx != 0 with
 | true=>rfl
 | false=>
 rw[h7]at h
 simp only[ap]at h ⊢
 cases h8:qb (pa l A.1 cs) != 0 with
 | true=>rfl
 | false=>
 rw[h8]at h
 exact absurd rfl h
def KM (x:bH) (S:List aK):Prop:=gm x=0/\x.ended=true/\x.entries.length=S.length/\S≠[] /\ ∀k s,S[k]? = some s->s.number=x.first+(k:Nat)
theorem aEy {l:List Std} {bs:List Int} {n:Int} {r:Std} (h:(kv r (eD l) bs n).2=0):(kp l bs n r).length=bs.length /\ ∀k s,(kp l bs n r)[k]? = some s->s.number=am.wrap (n+(k:Nat)):=by
 obtain⟨_,fs,cs,e1,e2⟩:=Uo h
 unfold kp
 rw[e2]
 refine⟨by rw[afG,e1],fun k s hk=>?_⟩
 unfold mz at hk
 rw[dM]at hk
 obtain⟨j,hj,rfl⟩:=eZ.1 hk
 have hj2:=cO.1 hj
 obtain⟨hlt,he⟩:=hj2
 rw[List.getElem_range]at he
 subst he
 rfl
theorem aES {l:List Std} {cs:List cv} {w:b9} {n:Int} (h:(eE l cs w n).2=0) :
  (eE l cs w n).1.lists.length=l.length/\(eE l cs w n).1.lK.length=l.length/\1<=l.length/\l.length<=12 /\
   ∀(i:Nat) (x:bH) (S:List aK),(eE l cs w n).1.lists[i]? = some x->(eE l cs w n).1.lK[i]? = some S->KM x S:=by
 obtain⟨bs,c1,c2,e1,e2,c3⟩:=aEZ h
 obtain⟨l1,l2⟩:=sB c1
 obtain⟨a1,a2,a3,a4,a5⟩:=afN c2 c1
 rw[e1,e2]
 refine⟨by rw[aN,agS],a1,by omega,by omega,fun i x S hx hS=>?_⟩
 rw[dM]at hx
 obtain⟨p,hp,rfl⟩:=eZ.1 hx
 rw[FJ]at hp
 obtain⟨r,hr,rfl⟩:=eZ.1 hp
 have hm:(r,0+i)∈l.zipIdx:=cL (by rw[FJ,hr];rfl)
 have hz:=oZ c3 _ hm
 have hd:(gp l bs n).1.getD (0+i) []=S:=by rw[gD,vL,hS];rfl
 unfold kV at hz
 unfold nt
 simp only[hd]at hz ⊢
 obtain⟨o1,o2,o3,o4⟩:=afU hz
 rw[o3]
 have hR:S=kp l bs n r:=by
  rw[a4,dM,hr]at hS
  exact(jC hS).symm
 obtain⟨q1,q2⟩:=aEy (a3 r (cL hr))
 rw[<-hR]at q1 q2
 obtain⟨f1,_,_,f2,_⟩:=vA o4
 refine⟨o4,rfl,by simp[sj],?_,fun k s hk=>?_⟩
 .intro h0;rw[h0]at q1;simp at q1;omega
 .have hk2:=(cO.1 hk).1
  rw[q2 k s hk]
  simp only[sj]at f1 f2 ⊢
  simp only[aN,sN]at f1
  exact M.cA (by omega) (by omega)
theorem aEJ {s p:ByteArray} (h:F.j0 s p=true):p.size<=s.size:=by
 unfold F.j0 Lib.hasSuffix at h
 have:=(List.isSuffixOf_iff_suffix.1 h).length_le
 rw[F.eC,F.eC]at this
 exact this
theorem F.AL {s p:ByteArray} (h:F.eV s p=true):p.size<=s.size:=by
 unfold F.eV B3 at h
 have:=(List.isPrefixOf_iff_prefix.1 h).length_le
 rw[F.eC,F.eC]at this
 exact this
theorem aEF {b:UInt8} (h:F.jn b=true):48<=(b.toNat:Int)/\(b.toNat:Int)<=57:=by simpa[F.jn,F.digit]using h
namespace M
theorem AM {α:Type} {xs:List α} {k:Nat} {y:α} (h:xs[k]? = some y):xs.drop k=y::xs.drop (k+1):=by
 obtain⟨h1,h2⟩:=cO.1 h
 rw[List.drop_eq_getElem_cons h1,h2]
section
variable (s p:ByteArray)
def adF:List AV:=[vS s,vS p]
def AN (a:ByteArray×ByteArray):List AV:=adF a.1 a.2
theorem aAe a a' (h:AN a=AN a'):a=a':=by
 simp only[AN,adF]at h
 try simp at h
 grind
theorem aAf:ac AN ([(vS s),(vS p)])=some (s,p):=ax aAe (s,p) rfl
def aAg:AV×Heap:=(vB (F.eV s p),[])
def aAh (s:ByteArray) (p:ByteArray):Bool:=true
def adG:aW:=aY 138 true AN (aT aAh) (aT aAg)
theorem aAi:aX Tryz.prog au adG:=by
 refine io ⟨Tryz.f138,by kernel_rfl,by kernel_rfl,by kernel_rfl⟩ (fun x _ _=>?_) (fun _ _=>⟨rfl,rfl⟩)
 exact dy.GX trivial fun _ _ w=>Tryz.stringslite_HasPrefix x.1 x.2 w
def adH:List AV:=[vS s,vS p]
def AO (a:ByteArray×ByteArray):List AV:=adH a.1 a.2
theorem aAj a a' (h:AO a=AO a'):a=a':=by
 simp only[AO,adH]at h
 try simp at h
 grind
theorem aAk:ac AO ([(vS s),(vS p)])=some (s,p):=ax aAj (s,p) rfl
def aAl:AV×Heap:=(vB (F.j0 s p),[])
def aAm (s:ByteArray) (p:ByteArray):Bool:=true
def adI:aW:=aY 170 true AO (aT aAm) (aT aAl)
theorem aAn:aX Tryz.prog au adI:=by
 refine io ⟨f170,by kernel_rfl,by kernel_rfl,by kernel_rfl⟩ (fun x _ _=>?_) (fun _ _=>⟨rfl,rfl⟩)
 exact dy.GX trivial fun hk _ w=>Tryz.stringslite_HasSuffix x.1 x.2 w hk
def SZ:Env:=bq ty au bp [adI] [] [] []
theorem aAo:aZ Tryz.prog SZ:=bG (aI aAn bF)
theorem aAp:(aB SZ false f153 [vS s,vS p]).val =
 ai (ac AO [(vS s),(vS p)]) fun z=>bif F.j0 z.1 z.2 then ai (idx (am.wrap ((↑(aJ
 s):Int) - (↑(aJ p):Int)))) fun z=>bif aP (0:Nat) z&&aP z (aJ s) then some ((vS (vV s (0:Nat) z)),[])
 else none else some ((vS s),[]):=(cm).symm.trans (by kernel_rfl)
def JU:List AV:=[vS s,vS p]
def AP (a:ByteArray×ByteArray):List AV:=JU a.1 a.2
theorem aAq a a' (h:AP a=AP a'):a=a':=by
 simp only[AP,JU]at h
 try simp at h
 grind
theorem aAr:ac AP ([(vS s),(vS p)])=some (s,p):=ax aAq (s,p) rfl
def S3:AV×Heap:=(vS (F.trim s p),[])
def adJ:Bool:=F.small s&&decide (p.size<=100)
def adK:aW:=aY 153 true AP (aT adJ) (aT S3)
theorem aAs:aX Tryz.prog au adK:=by
 refine cx f153 aAo ?_
 rintro⟨s,p⟩ hpre hok
 show(aB SZ false _ (JU _ _)).val=some (S3 _ _)
 unfold JU S3
 rw[aAp]
 simp only[adJ,aT,F.small,aG,aM]at hpre
 simp only[aAk,ar,F.trim]
 cases h:F.j0 s p
 .rfl
 .have hl:=aEJ h
  have hi:idx (am.wrap ((s.size:Int) - (p.size:Int)))=some (s.size - p.size):=by
   rw[cA (by omega) (by omega),show(s.size:Int) - (p.size:Int)=((s.size - p.size:Nat):Int) by omega];rfl
  simp only[hi,ar,cg (cf _),cg (show s.size - p.size<=s.size by omega),ak,bT]
def S4:Env:=bq ty au bp [adK] [] [] []
theorem aAt:aZ Tryz.prog S4:=bG (aI aAs bF)
theorem aAu:(aB S4 false f118 [vS s,vS p]).val =
 ai (ac AP [(vS s),(vS p)]) fun z=>bif F.small z.1&&decide (aJ z.2<=100) then some ((vS (F.trim
 z.1 z.2)),[]) else none:=(cm).symm.trans (by kernel_rfl)
def JV:List AV:=[vS s,vS p]
def AQ (a:ByteArray×ByteArray):List AV:=JV a.1 a.2
theorem aAv a a' (h:AQ a=AQ a'):a=a':=by
 simp only[AQ,JV]at h
 try simp at h
 grind
theorem aAw:ac AQ ([(vS s),(vS p)])=some (s,p):=ax aAv (s,p) rfl
def S5:AV×Heap:=(vS (F.trim s p),[])
def adL:Bool:=F.small s&&decide (p.size<=100)
def adM:aW:=aY 118 true AQ (aT adL) (aT S5)
theorem aAx:aX Tryz.prog au adM:=by
 refine cx f118 aAt ?_
 rintro⟨s,p⟩ hpre hok
 show(aB S4 false _ (JV _ _)).val=some (S5 _ _)
 unfold JV S5
 rw[aAu]
 simp only[adL,aT]at hpre
 simp only[aAr,ar,ak,hpre]
def S6:Env:=bq ty au bp [adG] [] [] []
theorem aAy:aZ Tryz.prog S6:=bG (aI aAi bF)
theorem aAz:(aB S6 false Tryz.f154 [vS s,vS p]).val =
 ai (ac AN [(vS s),(vS p)]) fun z=>bif !F.eV z.1 z.2 then some (AV.aF [(vS s),(vB false)],[]) else bif aP
 (aJ p) (aJ s)&&aP (aJ s) (aJ s) then some (AV.aF [(vS (vV s (aJ p) (aJ s))),
 (vB true)],[]) else none:=(cm).symm.trans (by kernel_rfl)
def JW:List AV:=[vS s,vS p]
def AR (a:ByteArray×ByteArray):List AV:=JW a.1 a.2
theorem aAA a a' (h:AR a=AR a'):a=a':=by
 simp only[AR,JW]at h
 try simp at h
 grind
theorem aAB:ac AR ([(vS s),(vS p)])=some (s,p):=ax aAA (s,p) rfl
def S7:AV×Heap:=(.aF [vS (F.cC s p).1,vB (F.cC s p).2],[])
def adN:Bool:=F.small s&&decide (p.size<=100)
def adO:aW:=aY 154 true AR (aT adN) (aT S7)
theorem aAC:aX Tryz.prog au adO:=by
 refine cx Tryz.f154 aAy ?_
 rintro⟨s,p⟩ hpre hok
 show(aB S6 false _ (JW _ _)).val=some (S7 _ _)
 unfold JW S7
 rw[aAz]
 simp only[adN,aT,F.small,aG,aM]at hpre
 simp only[aAf,ar,F.cC]
 cases h:F.eV s p
 .rfl
 .have hl:=F.AL h
  simp only[cg hl,cg (bR _),ak,ap,bT,dC]
def S8:Env:=bq ty au bp [adO] [] [] []
theorem aAD:aZ Tryz.prog S8:=bG (aI aAC bF)
theorem aAE:(aB S8 false f120 [vS s,vS p]).val =
 ai (ac AR [(vS s),(vS p)]) fun z=>bif F.small z.1&&decide (aJ z.2<=100) then some (AV.aF [(vS
 (F.cC z.1 z.2).fst),(vB (F.cC z.1 z.2).snd)],[]) else none:=(cm).symm.trans (by kernel_rfl)
def JX:List AV:=[vS s,vS p]
def ml (a:ByteArray×ByteArray):List AV:=JX a.1 a.2
theorem aAF a a' (h:ml a=ml a'):a=a':=by
 simp only[ml,JX]at h
 try simp at h
 grind
theorem adP:ac ml ([(vS s),(vS p)])=some (s,p):=ax aAF (s,p) rfl
def S9:AV×Heap:=(.aF [vS (F.cC s p).1,vB (F.cC s p).2],[])
def adQ:Bool:=F.small s&&decide (p.size<=100)
end
def Ta:aW:=aY 120 true ml (aT adQ) (aT S9)
theorem adR:aX Tryz.prog au Ta:=by
 refine cx f120 aAD ?_
 rintro⟨s,p⟩ hpre hok
 show(aB S8 false _ (JX _ _)).val=some (S9 _ _)
 unfold JX S9
 rw[aAE]
 simp only[adQ,aT]at hpre
 simp only[aAB,ar,ak,hpre]
end M
namespace M
section
variable (s f:ByteArray) (n:Int) (k:Nat)
def EF:St:=⟨[(23,vI k),(22,vI f.size),(8,vI n),(7,vS f),(0,vS s)],[]⟩
def AS (a:ByteArray×ByteArray×Int×Nat):St:=EF a.1 a.2.1 a.2.2.1 a.2.2.2
theorem aAG a a' (h:AS a=AS a'):a=a':=by
 simp only[AS,EF]at h
 try simp at h
 grind
theorem aAH: ac AS (St.mk [(23,(vI (0:Int))),(22,(vI (↑(aJ f):Int))),(8,(vI (0:Int))),(7,(vS f)),(0,(vS s))] [])=some (s,f,0,0):=ax aAG (s,f,0,0) rfl
def rV:T (Ex×St):= .bM (F.found (F.j5 (((F.bs f).zip (F.bs s)).drop k) n)) (.ret (.exit 0,⟨[(8,vI (F.fp (F.j5 (((F.bs f).zip (F.bs s)).drop k) n) 0)),(7,vS f),(0,vS s)],[]⟩)) (.ret (.ret,⟨[(6,vB false),(5,vS ⟨⟨[]⟩⟩),(4,vI 0)],[]⟩))
def Tb:Bool:=decide (f.size=12)&&decide (12<=s.size)&&decide (k<=12)&&decide (0<=n)&&decide (n+1<=10 ^ k)
def aAI:Nat×(St->T (Ex×St)):=(6,lpo [23,22,8,7,0] [] AS (cD Tb) (cD rV))
def EG:Env:=bq ty au bp [Oy] [] [] [aAI]
theorem aAJ:aZ Tryz.prog EG:=bG (aI ZA bF)
theorem EH:((exec EG (aw f119 0) (EF s f n k)).bind (bE ([23,22,8,7,0],[]) ([8,7,0],[]) ([6,5,4],[]))).val =
 bif decide ((↑k:Int)<(↑(aJ f):Int)) then ai f[k]? fun z=>bif (↑(dF z):Int) != 48 then ai s[k]? fun(z :
 UInt8)=>ai f[k]? fun z_1=>bif (↑(dF z):Int) != (↑(dF z_1):Int) then some (Ex.ret,St.mk [(6,(vB false)),(5,(vS
 (az (aA [])))),(4,(vI 0))] []) else some (Ex.normal,St.mk [(23,(vI (am.wrap ((↑k:Int)+1)))),(22,(vI
 (↑(aJ f):Int))),(8,(vI n)),(7,(vS f)),(0,(vS s))] []) else ai s[k]? fun z=>ai (ac tU [(vU (↑(dF z) :
 Int))]) fun z=>bif !F.digit z then some (Ex.ret,St.mk [(6,(vB false)),(5,(vS ⟨⟨[]⟩⟩)),(4,(vI 0))] []) else ai s[k]?
 fun z=>some (Ex.normal,St.mk [(23,(vI (am.wrap ((↑k:Int)+1)))),(22,(vI (↑(aJ f):Int))),(8,(vI (bQ
 am (am.wrap ((10:Int)*n)+am.wrap (bQ IntKind.u8 ((↑(dF z):Int) - (48:Int))))))),(7,(vS f)),(0,
 (vS s))] []) else some (Ex.exit (0:Nat),St.mk [(8,(vI n)),(7,(vS f)),(0,(vS s))] []):=(cr _ _ _).symm.trans (by kernel_rfl)
theorem aAK (s:ByteArray) (f:ByteArray) (n:Int) (k:Nat) (hp:Tb s f n k=true) : ∀ex s',(rV s f n k).val=some (ex,s')->ba EG (aw f119 0) (EF s f n k) ex s':=by
 simp only[Tb,aG,aM]at hp
 obtain⟨⟨⟨⟨h1,h2⟩,h3⟩,h4⟩,h5⟩:=hp
 refine cE (st:=fun a:Int×Nat=>EF s f a.1 a.2) (out:=fun a=>rV s f a.1 a.2) (I:=fun a=>a.2<=12/\0<=a.1/\a.1+1<=10 ^ a.2) (n:=([23,22,8,7,0],[])) (e:=([8,7,0],[])) (r:=([6,5,4],[])) (fun a=>12 - a.2) ?_ (n,k) ⟨h3,h4,h5⟩
 rintro⟨n,k⟩ ⟨i1,i2,i3⟩
 simp only at i1 i2 i3
 have hzl:((F.bs f).zip (F.bs s)).length=12:=by rw[List.length_zip,F.eC,F.eC];omega
 by_cases hk:k<12
 .obtain⟨x,y,hxy⟩ : ∃x y,((F.bs f).zip (F.bs s))[k]? = some (x,y):=⟨_,_,bC (by omega)⟩
  have hd:=AM hxy
  have hx:(F.bs f)[k]? = some x:=(aFX.1 hxy).1
  have hy:(F.bs s)[k]? = some y:=(aFX.1 hxy).2
  have hpw:(10:Int) ^ (k+1)=10*10 ^ k:=by rw[Int.pow_succ,Int.mul_comm]
  have hle:(10:Int) ^ k<=1000000000000:=by
   have:(10:Int) ^ k<=10 ^ 12:=by
    have:k<=12:=by omega
    exact_mod_cast Nat.pow_le_pow_right (by omega) this
   exact this
  have hkf:k<f.size:=by omega
  have hnx:am.wrap ((k:Int)+1)=((k+1:Nat):Int):=ch hk (by omega)
  cases hc:((x.toNat:Int) != 48)
  .cases hg:F.jn y
   .left
    refine⟨(.ret,⟨[(6,vB false),(5,vS ⟨⟨[]⟩⟩),(4,vI 0)],[]⟩),?_,?_,by simp,rfl⟩
    .rw[EH]
     rw[iF f,iF s,hx,hy]
     have hg':F.digit (y.toNat:Int)=false:=hg
     simp only[Dd,ar,ak,ap,bA hkf,hc,hg',hnx]
     rfl
    .simp only[rV,hd,F.j5,hc,hg,ap,F.found]
     rfl
   .right
    have hg':F.digit (y.toNat:Int)=true:=hg
    obtain⟨g1,g2⟩:=aEF hg
    refine⟨(10*n+((y.toNat:Int) - 48),k+1),?_,rfl,⟨hk,by simp only;omega,by simp only[hpw];omega⟩,by simp only;omega,?_⟩
    .rw[EH]
     rw[iF f,iF s,hx,hy]
     simp only[Dd,ar,ak,ap,bA hkf,hc,hg',hnx]
     rw[anX (by omega) (by omega),cA (n:=10*n) (by omega) (by omega),cA (n:=(y.toNat:Int) - 48) (by omega) (by omega),cA (by omega) (by omega)]
     rfl
    .simp only[rV,hd,F.j5,hc,hg,ak,ap]
  .cases he:((y.toNat:Int) != (x.toNat:Int))
   .right
    refine⟨(n,k+1),?_,rfl,⟨hk,i2,by simp only[hpw];omega⟩,by simp only;omega,?_⟩
    .rw[EH]
     rw[iF f,iF s,hx,hy]
     simp only[Dd,ar,ak,ap,bA hkf,hc,he,hnx]
     rfl
    .simp only[rV,hd,F.j5,hc,he,ak,ap]
   .left
    refine⟨(.ret,⟨[(6,vB false),(5,vS ⟨⟨[]⟩⟩),(4,vI 0)],[]⟩),?_,?_,by simp,rfl⟩
    .rw[EH]
     rw[iF f,iF s,hx,hy]
     simp only[Dd,ar,ak,bA hkf,hc,he,hnx]
     done
    .simp only[rV,hd,F.j5,hc,he,ak,F.found]
     rfl
 .have:k=12:=by omega
  subst this
  left
  refine⟨(.exit 0,⟨[(8,vI n),(7,vS f),(0,vS s)],[]⟩),?_,?_,by simp,rfl⟩
  .rw[EH]
   rw[h1]
   rfl
  .have:(((F.bs f).zip (F.bs s)).drop 12)=[]:=qr (by omega)
   simp[rV,this,F.j5,F.found,F.fp,T.val]
theorem aAL (p:ByteArray):(aB EG false f119 [vS s,vS p]).val =
 (fun(q:ByteArray)=>(fun(q_1:Option (AV×Heap))=>(fun(q_2:ByteArray)=>(fun(q_3:ByteArray)=>(fun(q_4:Int)=>bif aP (aJ q +
 aJ p) 9223372036854775807 then bif aP (aJ q_2+aJ (az (aA [(48:UInt8),(48:UInt8),(48:UInt8)])))
 (9223372036854775807:Nat) then bif decide ((↑(aJ s):Int)<q_4) then q_1 else ai (ac AS (St.mk [(23,(vI 0)),(22,(vI q_4)),(8,
 (vI 0)),(7,(vS q_3)),(0,(vS s))] [])) fun z=>(fun(q:Option Int)=>(fun(q_5:Int)=>(fun(q_6:Int)=>(fun(q_7
 : Int)=>bif decide (aJ z.2.1=(12:Nat))&&decide ((12:Nat)<=aJ z.1)&&decide (z.2.2.2<=12)&&decide ((0:Int) <=
 z.2.2.1)&&decide (z.2.2.1+1<=10 ^ z.2.2.2)&&true then bif F.found q then bif aP (aJ z.2.1) (aJ
 z.1)&&aP (aJ z.1) (aJ z.1) then some (AV.aF [(vI (am.wrap (am.wrap (bQ am
 (am.wrap (am.wrap (ix q_5 (10000000:Int))*3600000)+am.wrap (q_7*60000))+bQ
 am (q_6*1000))+vT q_5 (1000:Int)))),(vS (vV z.1 (aJ z.2.1) (aJ z.1))),(vB (bif decide (q_7 <
 (60:Int)) then decide (q_6<60) else false))],[]) else none else q_1 else none) (vT (am.wrap (ix q_5 (100000:Int))) (100 :
 Int))) (vT (am.wrap (ix q_5 (1000:Int))) (100:Int))) (F.fp q (0:Int))) (F.j5 (bn z.2.2.2 (List.zip (F.bs z.2.1) (F.bs
 z.1))) z.2.2.1) else none else none) (↑(aJ q_3):Int)) (q_2++az (aA [(48:UInt8),(48:UInt8),(48:UInt8)]))) (q++p)) (some
 (AV.aF [(vI 0),(vS ⟨⟨[]⟩⟩),(vB false)],[]))) (az (aA [(48:UInt8),(48:UInt8),(58:UInt8),(48:UInt8),(48 :
 UInt8),(58:UInt8),(48:UInt8),(48:UInt8)])):=(cm).symm.trans (by kernel_rfl)
def JY (p:ByteArray):List AV:=[vS s,vS p]
def uR (a:ByteArray×ByteArray):List AV:=JY a.1 a.2
theorem aAM a a' (h:uR a=uR a'):a=a':=by
 simp only[uR,JY]at h
 try simp at h
 grind
theorem aAN (p:ByteArray):ac uR ([(vS s),(vS p)])=some (s,p):=ax aAM (s,p) rfl
def Tc (p:ByteArray):AV×Heap:=(.aF [vI (F.cW s p).1,vS (F.cW s p).2.1,vB (F.cW s p).2.2],[])
def adS (p:ByteArray):Bool:=F.small s&&decide (p.size=1)
end
def adT:aW:=aY 119 true uR (aT adS) (aT Tc)
theorem aAO:aX Tryz.prog au adT:=by
 refine cQ f119 aAJ (de (x0:=aw f119 0) (by kernel_rfl) (bS ?_)) ?_
 .rintro⟨s,f,n,k⟩ hp
  exact aAK s f n k hp
 rintro⟨s,p⟩ hpre hok
 show(aB EG false _ (JY _ _)).val=some (Tc _ _)
 unfold JY Tc
 rw[aAL]
 simp only[adS,aT,F.small,aG,aM]at hpre
 simp only[aAH,ar,aS,F.cW]
 have ef:((⟨⟨[48,48,58,48,48,58,48,48]⟩⟩:ByteArray)++p++(⟨⟨[48,48,48]⟩⟩:ByteArray))=F.form p:=rfl
 have fs:=F.anV hpre.2
 have b1:aP ((⟨⟨[48,48,58,48,48,58,48,48]⟩⟩:ByteArray).size+p.size) 9223372036854775807=true:=by rw[hpre.2];rfl
 have b2:aP (((⟨⟨[48,48,58,48,48,58,48,48]⟩⟩:ByteArray)++p).size+(⟨⟨[48,48,48]⟩⟩:ByteArray).size) 9223372036854775807=true:=by rw[gE,hpre.2];rfl
 have hT:F.j5 ((F.bs (F.form p)).zip (F.bs s)) 0=F.rB s p:=rfl
 simp only[b1,b2,ef,fs,df,ak,hT]
 by_cases h12:s.size<12
 .rw[aj (show(s.size:Int)<((12:Nat):Int) by omega),aj h12]
  rfl
 have c1:decide ((s.size:Int)<((12:Nat):Int))=false:=aH (by omega)
 have c2:decide (s.size<12)=false:=aH h12
 have c3:decide (12<=s.size)=true:=aj (by omega)
 have c4:decide ((0:Int)+1<=10 ^ 0)=true:=rfl
 have c5:decide ((0:Int)<=0)=true:=rfl
 have c6:decide ((0:Nat)<=12)=true:=rfl
 have c7:decide ((12:Nat)=12)=true:=rfl
 simp only[c1,c2,c3,c4,c5,c6,ak,ap,bT,nF,cg (show 12<=s.size by omega),cg (bR s.size)]
 cases ho:F.rB s p with
 | none=>rfl
 | some n=>
  obtain⟨h0,hb⟩:=F.Ot (k:=0) (Int.le_refl 0) (by decide) ho
  have hzl:((F.bs (F.form p)).zip (F.bs s)).length=12:=by rw[List.length_zip,F.eC,F.eC];omega
  rw[hzl]at hb
  have hb:n+1<=1000000000000:=hb
  have t1:n.tdiv 10000000=n / 10000000:=tw h0
  have t2:n.tdiv 100000=n / 100000:=tw h0
  have t3:n.tdiv 1000=n / 1000:=tw h0
  have m1:(n / 100000).tmod 100=n / 100000 % 100:=FI (by omega)
  have m2:(n / 1000).tmod 100=n / 1000 % 100:=FI (by omega)
  have m3:n.tmod 1000=n % 1000:=FI (by omega)
  have w1:am.wrap (n / 10000000)=n / 10000000:=cA (by omega) (by omega)
  have w2:am.wrap (n / 100000)=n / 100000:=cA (by omega) (by omega)
  have w3:am.wrap (n / 1000)=n / 1000:=cA (by omega) (by omega)
  have w4:am.wrap (n / 10000000*3600000)=n / 10000000*3600000:=cA (by omega) (by omega)
  have w5:am.wrap (n / 100000 % 100*60000)=n / 100000 % 100*60000:=cA (by omega) (by omega)
  have w6:am.wrap (n / 1000 % 100*1000)=n / 1000 % 100*1000:=cA (by omega) (by omega)
  have w7:am.wrap (n / 10000000*3600000+n / 100000 % 100*60000)=n / 10000000*3600000+n / 100000 % 100*60000:=cA (by omega) (by omega)
  have w8:am.wrap (n / 10000000*3600000+n / 100000 % 100*60000+n / 1000 % 100*1000)=n / 10000000*3600000+n / 100000 % 100*60000+n / 1000 % 100*1000:=cA (by omega) (by omega)
  have w9:am.wrap (n / 10000000*3600000+n / 100000 % 100*60000+n / 1000 % 100*1000+n % 1000)=n / 10000000*3600000+n / 100000 % 100*60000+n / 1000 % 100*1000+n % 1000:=cA (by omega) (by omega)
  simp only[F.found,F.fp,Option.isSome_some,k7,ak,ap,dC,t1,t2,t3,m1,m2,m3,w1,w2,w3,w4,w5,w6,w7,w8,w9,F.Oo,F.Oq,F.lt,decide_true,bT]
  by_cases hh:n / 100000 % 100<60<;>by_cases hh2:n / 1000 % 100<60<;>simp[hh,hh2]
end M
theorem KG (s p:ByteArray):(F.cW s p).2.1.size<=s.size:=by
 unfold F.cW
 cases(decide (s.size<12) || !F.found (F.rB s p))
 .exact Fz _ _ _
 .exact cf _
theorem Ky (s p:ByteArray):(F.cC s p).1.size<=s.size:=by
 unfold F.cC
 cases F.eV s p
 .exact bR _
 .exact Fz _ _ _
theorem F.uS {a b:ByteArray} (h:a.size<=b.size) (hb:b.size<=4294967280):F.small a=true:=aj (iW h hb)
namespace M
def Td:Env:=bq ty au bp [adT,Ta] [] [] []
theorem aAP:aZ Tryz.prog Td:=bG (aI aAO (aI adR bF))
section
variable (s p:ByteArray)
theorem aAQ:(eu Td [] f77 [vS s,vS p, .ptr 900 0 0] [(900,⟨true,0,0,[[vI 0,vI 0, .e0,vI 0,vB false,vB false]]⟩)]).val =
 ai (ac uR [(vS s),(vS p)]) fun z=>bif F.small z.1&&decide (aJ z.2=(1:Nat)) then ai (ac
 ml [(vS (F.cW z.1 z.2).snd.fst),(vS ⟨⟨[32,45,45,62,32]⟩⟩)]) fun z_1=>bif F.small z_1.1&&decide (aJ z_1.2<=100) then ai (ac uR [(vS (F.cC z_1.1 z_1.2).fst),(vS p)]) fun(z_2 :
 ByteArray×ByteArray)=>bif F.small z_2.1&&decide (aJ z_2.2=(1:Nat)) then some (AV.aF [(vS (F.cW z_2.1 z_2.2).snd.fst),(vB (bif bif (F.cW
 z.1 z.2).snd.snd then (F.cC z_1.1 z_1.2).snd else false then (F.cW z_2.1 z_2.2).snd.snd else false))],[(900,ah.mk true 0 0 [[(vI (F.cW z.1
 z.2).fst),(vI (F.cW z_2.1 z_2.2).fst),AV.e0,(vI 0),(vB false),(vB false)]])],[]) else none else none else none:=(lD).symm.trans (by kernel_rfl)
def EI:List AV×Heap:=([vS s,vS p, .ptr 900 0 0],[(900,⟨true,0,0,[[vI 0,vI 0, .e0,vI 0,vB false,vB false]]⟩)])
def AT (a:ByteArray×ByteArray):List AV×Heap:=EI a.1 a.2
theorem aAR a a' (h:AT a=AT a'):a=a':=by
 simp only[AT,EI]at h
 try simp at h
 grind
theorem EJ:ac AT (([(vS s),(vS p), .ptr 900 0 0],[(900,ah.mk true 0 0 [[(vI (0:Int)),(vI (0:Int)),AV.e0,(vI (0:Int)),(vB false),(vB false)]])]))=some (s,p):=ax aAR (s,p) rfl
def Te:AV×Heap×List Nat:=(.aF [vS (F.gi s p).2.2.1,vB (F.gi s p).2.2.2],[(900,⟨true,0,0,[[vI (F.gi s p).1,vI (F.gi s p).2.1, .e0,vI 0,vB false,vB false]]⟩)],[])
def adU:Bool:=F.small s&&decide (p.size=1)
end
def adV:fT:=jI 77 AT (fun a=>adU a.1 a.2) fun a=>Te a.1 a.2
theorem aAS:fX Tryz.prog au adV:=by
 refine mX (mv:=[]) f77 (by kernel_rfl) (by kernel_rfl) aAP mixed (nS (by kernel_rfl)) ?_
 rintro⟨s,p⟩ hpre hok hokh
 show(eu Td [] _ (EI _ _).1 (EI _ _).2).val=some (Te _ _)
 unfold EI Te
 rw[aAQ]
 simp only[adU,F.small,aG,aM]at hpre
 obtain⟨h1,h2⟩:=hpre
 simp only[aAN,adP,ar,F.gi]
 have ea:(⟨⟨[32,45,45,62,32]⟩⟩:ByteArray)=F.arrow:=rfl
 have s1:F.small s=true:=aj h1
 have s2:F.small (F.cW s p).2.1=true:=F.uS (KG s p) h1
 have s3:F.small (F.cC (F.cW s p).2.1 F.arrow).1=true:=F.uS (iW (Ky _ _) (KG s p)) h1
 have s4:decide (F.arrow.size<=100)=true:=rfl
 rw[ea,s1,s2,s3,s4,aj h2]
 cases(F.cW s p).2.2<;>cases(F.cC (F.cW s p).2.1 F.arrow).2<;>rfl
end M
def F.lead:List ByteArray->Nat
 | []=>0
 | x::r=>bif F.emp x then F.lead r+1 else 0
def F.eM (L:List ByteArray) (a:Nat):Bool:=decide (a<L.length)
def F.ft (L:List ByteArray) (a:Nat):ByteArray:=bif F.eM L a then L.getD a ⟨⟨[]⟩⟩ else ⟨⟨[]⟩⟩
theorem Ux : ∀l,F.lead l<=l.length
 | []=>bR 0
 | x::r=>by
  rw[F.lead]
  have:=Ux r
  cases F.emp x<;>simp<;>omega
def F.fZ (L:List ByteArray):Bool:=decide (L.length<=200001)&&L.all F.small
theorem aEI (a b:Nat):decide ((a:Int)<(b:Int))=decide (a<b):=by
 by_cases h:a<b
 .rw[aj h,aj (by omega)]
 .rw[aH h,aH (by omega)]
namespace M
section
variable (L:List ByteArray) (a:Nat)
theorem aAT:(aB dj false f76 [.bD [.sl (L.map aC),vI a] 0]).val =
 some ((vB (decide ((↑a:Int)<(↑(ae (ab aC L)):Int)))),[]):=(cm).symm.trans (by kernel_rfl)
def JZ:List AV:=[.bD [.sl (L.map aC),vI a] 0]
def oR (a:(List ByteArray)×Nat):List AV:=JZ a.1 a.2
theorem aAU a a' (h:oR a=oR a'):a=a':=by
 simp only[oR,JZ]at h
 try simp[iL]at h
 grind
theorem kc:ac oR ([AV.bD [AV.sl (ab aC L),(vI (↑a:Int))] (0:Nat)])=some (L,a):=ax aAU (L,a) rfl
def Tf:AV×Heap:=(vB (F.eM L a),[])
def aAV (L:List ByteArray) (a:Nat):Bool:=true
def J0:aW:=aY 76 true oR (aT aAV) (aT Tf)
theorem Tg:aX Tryz.prog au J0:=by
 refine cx f76 gL ?_
 rintro⟨L,a⟩ hpre hok
 show(aB dj false _ (JZ _ _)).val=some (Tf _ _)
 unfold JZ Tf
 rw[aAT]
 simp only[aN,F.eM]
 rw[aEI]
theorem aAW:(eu dj [] f74 [.ptr 900 0 0] [(900,⟨true,0,0,[[.sl (L.map aC),vI a]]⟩)]).val =
 bif decide ((↑(ae (ab aC L)):Int)<am.wrap ((↑a:Int)+1)) then some (AV.aF [(vS ⟨⟨[]⟩⟩),(vB
 false)],[(900,ah.mk true 0 0 [[AV.sl (ab aC L),(vI (am.wrap ((↑a:Int)+1)))]])],[]) else ai (idx (bQ
 am (am.wrap ((↑a:Int)+1) - (1:Int)))) fun z=>ai (ac (ab aC) (ab aC L)) fun z_1=>bif decide (z<ae z_1) then some (AV.aF [(vS (al z_1 z (az (aA [])))),(vB true)],[(900,ah.mk true 0 0 [[AV.sl (ab
 aC L),(vI (am.wrap ((↑a:Int)+1)))]])],[]) else none:=(lD).symm.trans (by kernel_rfl)
def EK:List AV×Heap:=([.ptr 900 0 0],[(900,⟨true,0,0,[[.sl (L.map aC),vI a]]⟩)])
def oS (a:(List ByteArray)×Nat):List AV×Heap:=EK a.1 a.2
theorem aAX a a' (h:oS a=oS a'):a=a':=by
 simp only[oS,EK]at h
 try simp[iL]at h
 grind
theorem mm:ac oS (([.ptr 900 0 0],[(900,ah.mk true 0 0 [[AV.sl (ab aC L),(vI (↑a:Int))]])]))=some (L,a):=ax aAX (L,a) rfl
def Th:AV×Heap×List Nat:=(.aF [vS (F.ft L a),vB (F.eM L a)],[(900,⟨true,0,0,[[.sl (L.map aC),vI (a+1:Nat)]]⟩)],[])
def adW:Bool:=F.fZ L&&decide (a<=200001)
def Ti:fT:=jI 74 oS (fun a=>adW a.1 a.2) fun a=>Th a.1 a.2
theorem adX:fX Tryz.prog au Ti:=by
 refine mX (mv:=[]) f74 (by kernel_rfl) (by kernel_rfl) gL mixed (nS (by kernel_rfl)) ?_
 rintro⟨L,a⟩ hpre hok hokh
 show(eu dj [] _ (EK _ _).1 (EK _ _).2).val=some (Th _ _)
 unfold EK Th
 rw[aAW]
 simp only[adW,F.fZ,aG,aM]at hpre
 simp only[ar,aN,jV,F.eM,F.ft]
 have w1:am.wrap ((a:Int)+1)=((a+1:Nat):Int):=by rw[cA (by omega) (by omega)];rfl
 have w2:idx (am.wrap (((a+1:Nat):Int) - 1))=some a:=by
  rw[cA (by omega) (by omega),show((a+1:Nat):Int) - 1=(a:Int) by omega];rfl
 rw[w1,w2]
 by_cases ha:a<L.length
 .simp only[aH (show ¬(L.length:Int)<((a+1:Nat):Int) by omega),aj ha,ap,ak,ar]
 .simp only[aj (show(L.length:Int)<((a+1:Nat):Int) by omega),aH ha,ap,ak,ar]
def EL (n:Nat):St:=⟨[(3,vI n),(0, .ptr 900 0 0)],[(900,⟨true,0,0,[[.sl (L.map aC),vI a]]⟩)]⟩
def AU (a:(List ByteArray)×Nat×Nat):St:=EL a.1 a.2.1 a.2.2
theorem aAY a a' (h:AU a=AU a'):a=a':=by
 simp only[AU,EL]at h
 try simp[iL]at h
 grind
theorem aAZ: ac AU (St.mk [(3,(vI (0:Int))),(0, .ptr 900 0 0)] [(900,ah.mk true 0 0 [[AV.sl (ab aC L),(vI (↑a:Int))]])])=some (L,a,0):=ax aAY (L,a,0) rfl
def AW (n:Nat):T (Ex×St):= .ret (.exit 0,⟨[(3,vI (n+F.lead (L.drop a):Nat)),(0, .ptr 900 0 0)],[(900,⟨true,0,0,[[.sl (L.map aC),vI (a+F.lead (L.drop a):Nat)]]⟩)]⟩)
def Tj (n:Nat):Bool:=decide (L.length<=200001)&&decide (a<=200001)&&decide (n<=a)
def aA0:Nat×(St->T (Ex×St)):=(2,lpo [3,0] [900] AU (bU Tj) (bU AW))
def EM:Env:=bq ty au bp [J0] [] [] [aA0]
theorem aA1:aZ Tryz.prog EM:=bG (aI Tg bF)
theorem Tk (n:Nat):((exec EM (aw f75 0) (EL L a n)).bind (bE ([3,0],[900]) ([3,0],[900]) ([],[]))).val =
 ai (ac oR [AV.bD [AV.sl (ab aC L),(vI (↑a:Int))] (0:Nat)]) fun z=>bif F.eM z.1 z.2 then ai (ac
 (ab aC) (ab aC L)) fun z=>bif decide (a<ae z) then bif cU (al z a (az (aA []))) ==
 cU (az (aA [])) then some (Ex.normal,St.mk [(3,(vI (am.wrap ((↑n:Int)+1)))),(0, .ptr 900 0 0)] [(900,ah.mk
 true 0 0 [[AV.sl (ab aC L),(vI (am.wrap ((↑a:Int)+1)))]])]) else some (Ex.exit (0:Nat),St.mk [(3,(vI (↑n:Int))),(0, .ptr 900 0
 0)] [(900,ah.mk true 0 0 [[AV.sl (ab aC L),(vI (↑a:Int))]])]) else none else some (Ex.exit (0:Nat),St.mk [(3,(vI (↑n:Int))),(0, .ptr 900 0 0)] [(900,
 ah.mk true 0 0 [[AV.sl (ab aC L),(vI (↑a:Int))]])]):=(cr _ _ _).symm.trans (by kernel_rfl)
theorem aA2 (n:Nat) (hp:Tj L a n=true) : ∀ex s',(AW L a n).val=some (ex,s')->ba EM (aw f75 0) (EL L a n) ex s':=by
 simp only[Tj,aG,aM]at hp
 obtain⟨⟨h1,h2⟩,h3⟩:=hp
 refine cE (st:=fun b:Nat×Nat=>EL L b.1 b.2) (out:=fun b=>AW L b.1 b.2) (I:=fun b=>b.1<=200001/\b.2<=b.1) (n:=([3,0],[900])) (e:=([3,0],[900])) (r:=([],[])) (fun b=>L.length - b.1) ?_ (a,n) ⟨h2,h3⟩
 rintro⟨a,n⟩ ⟨i1,i2⟩
 simp only at i1 i2
 have w1:am.wrap ((a:Int)+1)=((a+1:Nat):Int):=by rw[cA (by omega) (by omega)];rfl
 have w2:am.wrap ((n:Int)+1)=((n+1:Nat):Int):=by rw[cA (by omega) (by omega)];rfl
 by_cases ha:a<L.length
 .have hy:L[a]? = some L[a]:=bC ha
  generalize L[a]=y at hy
  have hd:=AM hy
  have ht:F.eM L a=true:=aj ha
  have ey:(y.toList==(⟨⟨[]⟩⟩:ByteArray).toList)=F.emp y:=rfl
  cases he:F.emp y
  .left
   refine⟨(.exit 0,⟨[(3,vI n),(0, .ptr 900 0 0)],[(900,⟨true,0,0,[[.sl (L.map aC),vI a]]⟩)]⟩),?_,?_,by simp,rfl⟩
   .rw[Tk]
    simp only[kc,ar,jV,ak,ap,ht,aj ha,getD_at hy,ey,he]
   .simp only[AW,hd,F.lead,he,ap,jP]
    rfl
  .right
   refine⟨(a+1,n+1),?_,rfl,⟨by simp only;omega,by simp only;omega⟩,by simp only;omega,?_⟩
   .rw[Tk]
    simp only[kc,ar,jV,ak,ht,aj ha,getD_at hy,ey,he,w1,w2]
    rfl
   .have e1:a+(F.lead (L.drop (a+1))+1)=a+1+F.lead (L.drop (a+1)):=by omega
    have e2:n+(F.lead (L.drop (a+1))+1)=n+1+F.lead (L.drop (a+1)):=by omega
    simp only[AW,hd,F.lead,he,ak,e1,e2]
 .have ht:F.eM L a=false:=aH ha
  have hd:L.drop a=[]:=qr (by omega)
  left
  refine⟨(.exit 0,⟨[(3,vI n),(0, .ptr 900 0 0)],[(900,⟨true,0,0,[[.sl (L.map aC),vI a]]⟩)]⟩),?_,?_,by simp,rfl⟩
  .rw[Tk]
   simp only[kc,ar,jV,ap,ht]
  .simp only[AW,hd,F.lead,jP]
   rfl
theorem aA3:(eu EM [] f75 [.ptr 900 0 0] [(900,⟨true,0,0,[[.sl (L.map aC),vI a]]⟩)]).val =
 ai (ac AU (St.mk [(3,(vI 0)),(0, .ptr 900 0 0)] [(900,ah.mk true 0 0 [[AV.sl (ab aC L),(vI (↑a:Int))]])])) fun z=>bif decide (ae z.1<=200001)&&decide (z.2.1<=200001)&&decide (z.2.2<=z.2.1)&&true then some ((vI (↑(z.2.2
 + F.lead (bn z.2.1 z.1)):Int)),[(900,ah.mk true 0 0 [[AV.sl (ab aC z.1),(vI (↑(z.2.1+F.lead (bn z.2.1 z.1)):Int))]])],
 []) else none:=(lD).symm.trans (by kernel_rfl)
def EN:List AV×Heap:=([.ptr 900 0 0],[(900,⟨true,0,0,[[.sl (L.map aC),vI a]]⟩)])
def uT (a:(List ByteArray)×Nat):List AV×Heap:=EN a.1 a.2
theorem aA4 a a' (h:uT a=uT a'):a=a':=by
 simp only[uT,EN]at h
 try simp[iL]at h
 grind
theorem AX:ac uT (([.ptr 900 0 0],[(900,ah.mk true 0 0 [[AV.sl (ab aC L),(vI (↑a:Int))]])]))=some (L,a):=ax aA4 (L,a) rfl
def Tl:AV×Heap×List Nat:=(vI (F.lead (L.drop a)),[(900,⟨true,0,0,[[.sl (L.map aC),vI (a+F.lead (L.drop a):Nat)]]⟩)],[])
def adY:Bool:=F.fZ L&&decide (a<=200001)
end
def adZ:fT:=jI 75 uT (fun a=>adY a.1 a.2) fun a=>Tl a.1 a.2
theorem aA5:fX Tryz.prog au adZ:=by
 refine mX (mv:=[]) f75 (by kernel_rfl) (by kernel_rfl) aA1 mixed (de (x0:=aw f75 0) (by kernel_rfl) (bS ?_)) ?_
 .rintro⟨L,a,n⟩ hp
  exact aA2 L a n hp
 rintro⟨L,a⟩ hpre hok hokh
 show(eu EM [] _ (EN _ _).1 (EN _ _).2).val=some (Tl _ _)
 unfold EN Tl
 rw[aA3]
 simp only[adY,F.fZ,aG,aM]at hpre
 simp only[aAZ,ar,ak,aS,aj hpre.1.1,aj hpre.2,cf,decide_true,gD]
def Tm:Env:=bq ty au bp [adM,Y3] [] [] []
theorem aA6:aZ Tryz.prog Tm:=bG (aI aAx (aI amP bF))
section
variable (s:ByteArray)
theorem aA7:(eu Tm [] f73 [vS s] []).val =
 bif cU s==cU (az (aA [])) then some (.ptr 0 0 0,[(0,ah.mk true 0 0 [[AV.e0,(vI 0)]])],[]) else ai
 (ac AQ [(vS s),(vS ⟨⟨[10]⟩⟩)]) fun z=>bif F.small z.1&&decide (aJ z.2<=100)
 then ai (ac xD [(vS (F.trim z.1 z.2)),(vS ⟨⟨[10]⟩⟩)]) fun z=>bif decide (aJ
 z.1<=4294967280)&&decide ((1:Nat)<=aJ z.2) then some (.ptr 0 0 0,[(0,ah.mk true 0 0 [[AV.sl (ab aC (F.split z.1 z.2)),(vI 0)]])],[]) else none else none:=(lD).symm.trans (by kernel_rfl)
def EO:List AV×Heap:=([vS s],[])
def AY (a:ByteArray):List AV×Heap:=EO a
theorem aA8 a a' (h:AY a=AY a'):a=a':=by
 simp only[AY,EO]at h
 try simp at h
 grind
theorem aA9:ac AY (([(vS s)],[]))=some (s):=ax aA8 (s) rfl
def Tn:T (AV×Heap×List Nat):= .ret (.ptr 0 0 0,[(0,⟨true,0,0,[[.sl ((F.kN s).map aC),vI 0]]⟩)],[])
def ad0:Bool:=F.small s
end
def ad1:fT:=rq 73 AY (fun a=>ad0 a) fun a=>Tn a
theorem aBa:fX Tryz.prog au ad1:=by
 refine ajG (mv:=[]) f73 (by kernel_rfl) (by kernel_rfl) aA6 mixed (nS (by kernel_rfl)) ?_
 rintro s r0 hpre hok hokh hr0
 show((eu Tm [] _ (EO _).1 (EO _).2).val.map CX)=some r0
 replace hr0:(Tn _).val=some r0:=hr0
 unfold Tn at hr0
 unfold EO
 rw[aA7]
 simp only[ad0,F.small,aM]at hpre
 simp only[aAw,amN,ar]
 have e1:(s.toList==(⟨⟨[]⟩⟩:ByteArray).toList)=F.emp s:=rfl
 have e2:(⟨⟨[10]⟩⟩:ByteArray)=F.nl:=rfl
 rw[<-hr0,e1,e2,F.anR]
 have s1:F.small s=true:=aj hpre
 have s2:(F.trim s F.nl).size<=s.size:=by
  unfold F.trim
  cases F.j0 s F.nl
  .exact bR _
  .exact Fz _ _ _
 have s3:decide (F.nl.size<=100)=true:=rfl
 have s4:decide (1<=F.nl.size)=true:=rfl
 rw[s1,s3,s4,aj (show(F.trim s F.nl).size<=4294967280 by omega)]
 cases F.emp s<;>rfl
end M
namespace F
def mo:ByteArray:=⟨⟨[38,97,109,112,59]⟩⟩
def nc:ByteArray:=⟨⟨[38,108,116,59]⟩⟩
def nd:ByteArray:=⟨⟨[38]⟩⟩
def oT:ByteArray:=⟨⟨[60]⟩⟩
def p7 (s:ByteArray):Bool:=match (bs s)[0]? with
 | some b=>b==38||b==60
 | none=>false
def eN:Nat->ByteArray->ByteArray->Option ByteArray
 | 0,s,out=>some out
 | f+1,s,out=>
  bif emp s then some out else
  bif eV s mo then eN f (s.extract 5 s.size) (out++nd) else
  bif eV s nc then eN f (s.extract 4 s.size) (out++oT) else
  bif p7 s then none else eN f (s.extract 1 s.size) (out++s.extract 0 1)
def uU (s:ByteArray):Option ByteArray:=eN s.size s ⟨⟨[]⟩⟩
theorem ke (s:ByteArray) (k:Nat):(s.extract k s.size).size=s.size - k:=by rw[K1];omega
theorem AZ : ∀(f g:Nat) (s out:ByteArray),s.size<=f->s.size<=g->eN f s out=eN g s out
 | 0,0,s,out,_,_=>rfl
 | 0,g+1,s,out,h,_=>by
  have he:emp s=true:=by rw[lG];exact aj (by omega)
  rw[eN,eN,he];rfl
 | f+1,0,s,out,_,h=>by
  have he:emp s=true:=by rw[lG];exact aj (by omega)
  rw[eN,eN,he];rfl
 | f+1,g+1,s,out,h1,h2=>by
  rw[eN,eN]
  cases he:emp s
  .have hz:s.size≠0:=by
    rw[lG]at he
    exact of_decide_eq_false he
   have e5:=ke s 5;have e4:=ke s 4;have e1:=ke s 1
   rw[AZ f g (s.extract 5 s.size) _ (by omega) (by omega),AZ f g (s.extract 4 s.size) _ (by omega) (by omega),AZ f g (s.extract 1 s.size) _ (by omega) (by omega)]
  .rfl
theorem uV (s:ByteArray) (k:Nat):bs (s.extract k s.size)=(bs s).drop k:=by
 rw[xS,B6 (by rw[<-iA];exact bR _)]
theorem J1 (s:ByteArray) (k:Nat):bs (s.extract 0 k)=(bs s).take k:=by rw[xS,df]
theorem oU (a b:ByteArray):bs (a++b)=bs a++bs b:=by unfold bs;simp
theorem ad2 {s:ByteArray} {b:UInt8} {r:List UInt8} (hs:bs s=b::r) (h:b≠38):eV s mo=false/\eV s nc=false:=by
 have e1:bs mo=[38,97,109,112,59]:=rfl
 have e2:bs nc=[38,108,116,59]:=rfl
 have hb:((38:UInt8)==b)=false:=beq_eq_false_iff_ne.2 (fun e=>h e.symm)
 unfold eV B3
 rw[hs,e1,e2]
 simp only[Lj,hb,qD]
 exact⟨trivial,trivial⟩
theorem ad3 : ∀(n:Nat) (s out:ByteArray) (f:Nat),n<=s.size->(∀b∈(bs s).take n,b≠38/\b≠60)->s.size<=f->eN f s out=eN f (s.extract n s.size) (out++s.extract 0 n)
 | 0,s,out,f,_,_,_=>by
  have e1:s.extract 0 s.size=s:=rC (by rw[xS,df,B6 (by rw[<-iA];exact bR _)])
  have e2:out++s.extract 0 0=out:=rC (by rw[oU,xS];simp)
  rw[e1,e2]
 | n+1,s,out,f,hn,hb,hf=>by
  obtain⟨b,r,hs⟩ : ∃b r,bs s=b::r:=by
   cases h:bs s with
   | nil=>have:=eC s;rw[h]at this;simp at this;omega
   | cons b r=>exact⟨b,r,rfl⟩
  have h0:=hb b (by rw[hs];simp)
  obtain⟨p1,p2⟩:=ad2 hs h0.1
  have he:emp s=false:=by rw[lG];exact aH (by omega)
  have hg:p7 s=false:=by
   unfold p7
   rw[hs]
   simp[h0.1,h0.2]
  obtain⟨g,rfl⟩ : ∃g,f=g+1:=⟨f - 1,by omega⟩
  have hz:=ke s 1
  have hr:bs (s.extract 1 s.size)=r:=by rw[uV,hs];rfl
  have ih:=ad3 n (s.extract 1 s.size) (out++s.extract 0 1) g (by omega) (fun x hx=>hb x (by rw[hr]at hx;rw[hs,KT];exact iH _ hx)) (by omega)
  have x1:(s.extract 1 s.size).extract n (s.extract 1 s.size).size=s.extract (n+1) s.size:=rC (by
   rw[uV,uV,uV,sE,U4])
  have x2:(out++s.extract 0 1)++(s.extract 1 s.size).extract 0 n=out++s.extract 0 (n+1):=rC (by
   rw[oU,oU,oU,J1,J1,J1,hr,hs]
   simp)
  rw[x1,x2]at ih
  have hz2:=ke s (n+1)
  rw[eN,he,p1,p2,hg]
  simp only[ap]
  rw[ih]
  exact AZ _ _ _ _ (by omega) (by omega)
end F
namespace F
def lL (s p:ByteArray):ByteArray:=⟨(qz (bs s) (bs p)).1.toArray⟩
def lM (s p:ByteArray):ByteArray:=⟨(qz (bs s) (bs p)).2.1.toArray⟩
def EP (s p:ByteArray):Bool:=(qz (bs s) (bs p)).2.2
def n8 (s:ByteArray):Int:=(Lib.atoi (bs s)).getD 0
theorem ad4 : ∀(l:List UInt8) (acc:Nat),l.all jn=true -> ∃n,Lib.decFrom acc l=some n
 | [],acc,_=>⟨acc,rfl⟩
 | b::r,acc,h=>by
  simp only[K7,aG]at h
  have hb:48<=(b.toNat:Int)/\(b.toNat:Int)<=57:=by simpa[jn,digit]using h.1
  have hd:Lib.digitVal b=some (b.toNat - 48):=by
   unfold Lib.digitVal
   rw[if_pos ⟨by omega,by omega⟩]
  obtain⟨n,hn⟩:=ad4 r (acc*10+(b.toNat - 48)) h.2
  exact⟨n,by unfold Lib.decFrom;rw[hd];exact hn⟩
theorem aBb {s:ByteArray} (h:isNum s=true):s.size<=18/\Lib.atoi (bs s)=some (n8 s)/\0<=n8 s/\n8 s<=1000000000000000000:=by
 unfold isNum at h
 simp only[aG,aM]at h
 obtain⟨⟨h1,h2⟩,h3⟩:=h
 have hl:=eC s
 cases hs:bs s with
 | nil=>rw[hs]at hl;simp at hl;omega
 | cons b r=>
  rw[hs]at h1
  have hb:48<=(b.toNat:Int)/\(b.toNat:Int)<=57:=by
   simp only[K7,aG]at h1
   simpa[jn,digit]using h1.1
  have n1:(b==45)=false:=by rw[beq_eq_false_iff_ne];rintro rfl;exact absurd hb.1 (by decide)
  have n2:(b==43)=false:=by rw[beq_eq_false_iff_ne];rintro rfl;exact absurd hb.1 (by decide)
  obtain⟨n,hn⟩:=ad4 (b::r) 0 h1
  have ha:Lib.atoi (bs s)=some (n:Int):=by
   rw[hs]
   simp[Lib.atoi,Lib.decNat,n1,n2,hn]
  have hlt:=Lib.decFrom_lt18 hn (by rw[<-hs,hl];omega)
  have he:n8 s=(n:Int):=by unfold n8;rw[ha];rfl
  rw[hs]at ha
  rw[he]
  exact⟨by omega,ha,by omega,by omega⟩
theorem ad5 (s p:ByteArray):(lL s p).size<=s.size:=by
 have hl:=eC s
 show(qz (bs s) (bs p)).1.toArray.size<=_
 unfold qz
 split
 .simp only[l3,eY];omega
 .simp only[l3];omega
theorem ad6 (s p:ByteArray):(lM s p).size<=s.size:=by
 have hl:=eC s
 show(qz (bs s) (bs p)).2.1.toArray.size<=_
 unfold qz
 split
 .simp only[l3,fe];omega
 .simp
def runN:List UInt8->Nat
 | []=>0
 | b::r=>bif b==38||b==60 then 0 else runN r+1
theorem ad7 : ∀l,runN l<=l.length
 | []=>bR 0
 | b::r=>by
  rw[runN]
  have:=ad7 r
  cases(b==38||b==60)<;>simp<;>omega
theorem ad8 : ∀(l:List UInt8),∀b∈l.take (runN l),b≠38/\b≠60
 | [],b,h=>by simp[runN]at h
 | x::r,b,h=>by
  rw[runN]at h
  cases hx:(x==38||x==60)
  .rw[hx]at h
   simp only[ap,KT,cK]at h
   simp only[jQ,beq_eq_false_iff_ne]at hx
   rcases h with rfl | h
   .exact hx
   .exact ad8 r b h
  .rw[hx]at h;simp at h
theorem J2 (b:UInt8):((b.toNat:Int)==38)=(b==38):=by
 have:=Ou b 38
 have h:((b.toNat:Int) != 38) = !(b==38):=this
 unfold bne at h
 cases h1:((b.toNat:Int)==38)<;>cases h2:(b==38)<;>rw[h1,h2]at h<;>first | rfl | cases h
theorem J3 (b:UInt8):((b.toNat:Int)==60)=(b==60):=by
 have:=Ou b 60
 have h:((b.toNat:Int) != 60) = !(b==60):=this
 unfold bne at h
 cases h1:((b.toNat:Int)==60)<;>cases h2:(b==60)<;>rw[h1,h2]at h<;>first | rfl | cases h
def oV (s:ByteArray):Bool:=found (uU s)
def fW (s:ByteArray):ByteArray:=fp (uU s) ⟨⟨[]⟩⟩
end F
namespace M
section
variable (s p:ByteArray)
def ad9:List AV:=[vS s,vS p]
def A3 (a:ByteArray×ByteArray):List AV:=ad9 a.1 a.2
theorem aBc a a' (h:A3 a=A3 a'):a=a':=by
 simp only[A3,ad9]at h
 try simp at h
 grind
theorem aBd:ac A3 ([(vS s),(vS p)])=some (s,p):=ax aBc (s,p) rfl
def aBe:AV×Heap:=(.aF [vS (F.lL s p),vS (F.lM s p),vB (F.EP s p)],[])
def aea (p:ByteArray):Bool:=decide (s.size<=4294967280)
def aeb:aW:=aY 121 true A3 (aT aea) (aT aBe)
theorem aBf:aX Tryz.prog au aeb:=by
 refine io ⟨f121,by kernel_rfl,by kernel_rfl,by kernel_rfl⟩ (fun x hp _=>?_) (fun _ _=>⟨rfl,rfl⟩)
 obtain⟨s,p⟩:=x
 simp only[aea,aT,aM]at hp
 have h1:=F.ad5 s p
 have h2:=F.ad6 s p
 refine dy.GY (rv:= .tuple #[.string (F.lL s p), .string (F.lM s p), .bool (F.EP s p)]) (fun w S=>⟨[_,_,_],rfl,R0.v (by show(F.lL s p).size<=9223372036854775807;omega),R0.v (by show(F.lM s p).size<=9223372036854775807;omega),R0.v trivial,trivial⟩) fun hk _ w S hG=>?_
 obtain⟨m,hm⟩:=G7 hG
 refine(Tryz.strings_Cut s p m w (by omega) hm).mono ?_
 rintro e w' ⟨he,n,rfl⟩
 exact⟨he,⟨rfl,rfl,rfl,bR _,fun _ _=>rfl⟩⟩
def aec:List AV:=[vS s]
def A5 (a:ByteArray):List AV:=aec a
theorem aBg a a' (h:A5 a=A5 a'):a=a':=by
 simp only[A5,aec]at h
 try simp at h
 grind
theorem aBh:ac A5 ([(vS s)])=some (s):=ax aBg (s) rfl
def aBi:AV×Heap:=(.aF [vI (F.n8 s), .v .nilIface],[])
def aBj:Bool:=F.isNum s
def aed:aW:=aY 123 true A5 aBj aBi
theorem aBk:aX Tryz.prog au aed:=by
 refine io ⟨f123,by kernel_rfl,by kernel_rfl,by kernel_rfl⟩ (fun s hp _=>?_) (fun _ _=>⟨rfl,rfl⟩)
 obtain⟨h1,h2,h3,h4⟩:=F.aBb hp
 refine dy.CV (rv:= .tuple #[.int .i64 (F.n8 s), .nilIface]) (fun w S=>⟨[_,_],rfl,R0.v (by simp only[dh,IntKind.min,IntKind.max,IntKind.signed,IntKind.bits];simp;omega),R0.v trivial,trivial⟩) fun hk w S hG=>?_
 refine(Tryz.strconv_Atoi s (F.n8 s) h1 h2 w).mono ?_
 rintro e w' ⟨he,t,rfl⟩
 exact⟨he,Lib.bytesWorld_below w _ _⟩
def EQ (out:ByteArray) (n:Nat):St:=⟨[(5,vI n),(4,vS out),(0,vS s)],[]⟩
def A6 (a:ByteArray×ByteArray×Nat):St:=EQ a.1 a.2.1 a.2.2
theorem aBl a a' (h:A6 a=A6 a'):a=a':=by
 simp only[A6,EQ]at h
 try simp at h
 grind
theorem ER (out:ByteArray)  : ac A6 (St.mk [(5,(vI (1:Int))),(4,(vS out)),(0,(vS s))] [])=some (s,out,1):=ax aBl (s,out,1) rfl
def A7 (out:ByteArray) (n:Nat):T (Ex×St):= .ret (.exit 3,⟨[(5,vI (n+F.runN ((F.bs s).drop n):Nat)),(4,vS out),(0,vS s)],[]⟩)
def To (out:ByteArray) (n:Nat):Bool:=decide (s.size<=4294967280)&&decide (n<=4294967290)
def aBm:Nat×(St->T (Ex×St)):=(4,lpo [5,4,0] [] A6 (bU To) (bU A7))
def ES (out:ByteArray):St:=⟨[(4,vS out),(0,vS s)],[]⟩
def A8 (a:ByteArray×ByteArray):St:=ES a.1 a.2
theorem aBn a a' (h:A8 a=A8 a'):a=a':=by
 simp only[A8,ES]at h
 try simp at h
 grind
theorem aBo (out:ByteArray):ac A8 (St.mk [(4,(vS out)),(0,(vS s))] [])=some (s,out):=ax aBn (s,out) rfl
def rW (out:ByteArray):T (Ex×St):= .bM (F.found (F.eN s.size s out)) (.ret (.exit 0,⟨[(4,vS (F.fp (F.eN s.size s out) ⟨⟨[]⟩⟩))],[]⟩)) (.ret (.ret,⟨[(3,vB false),(2,vS ⟨⟨[]⟩⟩)],[]⟩))
def Tp (out:ByteArray):Bool:=decide (s.size+out.size<=4294967280)
def aBp:Nat×(St->T (Ex×St)):=(2,lpo [4,0] [] A8 (aT Tp) (aT rW))
def uW:Env:=bq ty au bp [M9] [] [] [aBp,aBm]
theorem aBq:aZ Tryz.prog uW:=bG (aI XQ bF)
theorem Tq (out:ByteArray) (n:Nat):((exec uW (aw f80 1) (EQ s out n)).bind (bE ([5,4,0],[]) ([5,4,0],[]) ([],[]))).val =
 bif decide ((↑n:Int)<(↑(aJ s):Int)) then ai s[n]? fun z=>bif (↑(dF z):Int) != 38 then ai s[n]? fun(z :
 UInt8)=>bif (↑(dF z):Int) != 60 then some (Ex.normal,St.mk [(5,(vI (am.wrap ((↑n:Int)+1)))),(4,(vS out)),(0,(vS
 s))] []) else some (Ex.exit (3:Nat),St.mk [(5,(vI (↑n:Int))),(4,(vS out)),(0,(vS s))] []) else some (Ex.exit (3:Nat),St.mk [(5,(vI (↑n:Int))),(4,(vS
 out)),(0,(vS s))] []) else some (Ex.exit (3:Nat),St.mk [(5,(vI (↑n:Int))),(4,(vS out)),(0,(vS s))] []):=(cr _ _ _).symm.trans (by kernel_rfl)
theorem aBr (out:ByteArray) (n:Nat) (hp:To s out n=true) : ∀ex s',(A7 s out n).val=some (ex,s')->ba uW (aw f80 1) (EQ s out n) ex s':=by
 simp only[To,aG,aM]at hp
 obtain⟨h1,h2⟩:=hp
 refine cE (st:=fun b:Nat=>EQ s out b) (out:=fun b=>A7 s out b) (I:=fun b=>b<=4294967290) (n:=([5,4,0],[])) (e:=([5,4,0],[])) (r:=([],[])) (fun b=>s.size - b) ?_ n h2
 .intro n i1
  have w1:am.wrap ((n:Int)+1)=((n+1:Nat):Int):=by rw[cA (by omega) (by omega)];rfl
  by_cases hk:n<s.size
  .obtain⟨y,hy⟩ : ∃y,(F.bs s)[n]? = some y:=⟨_,bC (by rw[F.eC];exact hk)⟩
   have hd:=AM hy
   cases hc:(y==38||y==60)
   .right
    refine⟨n+1,?_,rfl,by omega,by omega,?_⟩
    .rw[Tq]
     rw[iF,hy]
     simp only[jQ]at hc
     simp only[ar,ak,bA hk,F.J2,F.J3,hc.1,hc.2,w1,bne]
     try rfl
    .have e1:n+(F.runN ((F.bs s).drop (n+1))+1)=n+1+F.runN ((F.bs s).drop (n+1)):=by omega
     simp only[A7,hd,F.runN,hc,ap,e1]
   .left
    refine⟨(.exit 3,⟨[(5,vI n),(4,vS out),(0,vS s)],[]⟩),?_,?_,by simp,rfl⟩
    .rw[Tq]
     rw[iF,hy]
     simp only[ar,ak,bA hk,F.J2,F.J3,bne]
     cases h1:y==38
     .rw[h1,nF]at hc
      rw[hc];rfl
     .rfl
    .simp only[A7,hd,F.runN,hc,ak,jP]
     rfl
  .left
   have hd:(F.bs s).drop n=[]:=qr (by rw[F.eC];omega)
   refine⟨(.exit 3,⟨[(5,vI n),(4,vS out),(0,vS s)],[]⟩),?_,?_,by simp,rfl⟩
   .rw[Tq]
    simp only[ap,aH (show ¬(n:Int)<(s.size:Int) by omega)]
    try rfl
   .simp only[A7,hd,F.runN,jP]
    rfl
theorem plx (s out:ByteArray) : ∀k f,s.size=f+1->1<=k->F.eN f (s.extract k s.size) out=F.eN (s.extract k s.size).size (s.extract k s.size) out:=fun k f h hk=>by
 have:=F.ke s k
 exact F.AZ _ _ _ _ (by omega) (bR _)
theorem ET (out:ByteArray):((exec uW (aw f80 0) (ES s out)).bind (bE ([4,0],[]) ([4],[]) ([3,2],[]))).val =
 (fun(q:Option (Ex×St))=>bif !cU s==cU (az (aA [])) then ai (ac ru [(vS s),(vS (az (aA
 [(38:UInt8),(97:UInt8),(109:UInt8),(112:UInt8),(59:UInt8)])))]) fun z=>bif F.eV z.1 z.2 then bif aP (aJ
 out+aJ (az (aA [(38:UInt8)]))) 9223372036854775807 then bif aP (5:Nat) (aJ s)&&aP (aJ s)
 (aJ s) then some (Ex.normal,St.mk [(4,(vS (out++az (aA [(38:UInt8)])))),(0,(vS (vV s (5:Nat) (aJ s))))]
 []) else none else none else ai (ac ru [(vS s),(vS ⟨⟨[38,108,116,59]⟩⟩)]) fun(z :
 ByteArray×ByteArray)=>bif F.eV z.1 z.2 then bif aP (aJ out+aJ (az (aA [(60:UInt8)]))) 9223372036854775807 then bif aP (4:Nat) (aJ s)&&aP (aJ s) (aJ s) then some (Ex.normal,St.mk [(4,(vS (out++az (aA
 [(60:UInt8)])))),(0,(vS (vV s (4:Nat) (aJ s))))] []) else none else none else ai s[(0:Nat)]? fun z=>bif
 !(↑(dF z):Int)==38 then ai s[(0:Nat)]? fun z=>bif (↑(dF z):Int)==60 then q else ai (ac A6
 (St.mk [(5,(vI 1)),(4,(vS out)),(0,(vS s))] [])) fun z=>(fun(q:Nat)=>(fun(q_1:Bool)=>(fun(q_2:ByteArray)=>bif
 decide (aJ z.1<=4294967280)&&decide (z.2.2<=4294967290)&&true then bif aP (0:Nat) q&&q_1 then bif aP (aJ
 z.2.1+aJ q_2) 9223372036854775807 then bif q_1&&aP (aJ z.1) (aJ z.1) then some (Ex.normal,St.mk [(4,(vS
 (z.2.1++q_2))),(0,(vS (vV z.1 q (aJ z.1))))] []) else none else none else none else none) (vV z.1 (0:Nat) q))
 (aP q (aJ z.1))) (z.2.2+F.runN (bn z.2.2 (F.bs z.1))) else q else some (Ex.exit (0:Nat),St.mk [(4,(vS out))] [])) (some (Ex.ret,
 St.mk [(3,(vB false)),(2,(vS ⟨⟨[]⟩⟩))] [])):=(cr _ _ _).symm.trans (by kernel_rfl)
theorem aBt (s:ByteArray) (out:ByteArray) (hp:Tp s out=true) : ∀ex s',(rW s out).val=some (ex,s')->ba uW (aw f80 0) (ES s out) ex s':=by
 simp only[Tp,aM]at hp
 refine cE (st:=fun b:ByteArray×ByteArray=>ES b.1 b.2) (out:=fun b=>rW b.1 b.2) (I:=fun b=>b.1.size+b.2.size<=4294967280) (n:=([4,0],[])) (e:=([4],[])) (r:=([3,2],[])) (fun b=>b.1.size) ?_ (s,out) hp
 rintro⟨s,out⟩ i1
 simp only at i1
 have ey:(s.toList==(⟨⟨[]⟩⟩:ByteArray).toList)=F.emp s:=rfl
 have ea:(⟨⟨[38,97,109,112,59]⟩⟩:ByteArray)=F.mo:=rfl
 have el:(⟨⟨[38,108,116,59]⟩⟩:ByteArray)=F.nc:=rfl
 have eA:(⟨⟨[38]⟩⟩:ByteArray)=F.nd:=rfl
 have eL:(⟨⟨[60]⟩⟩:ByteArray)=F.oT:=rfl
 cases he:F.emp s
 case true=>
  left
  have hz:s.size=0:=by rw[F.lG]at he;exact of_decide_eq_true he
  refine⟨(.exit 0,⟨[(4,vS out)],[]⟩),?_,?_,by simp,rfl⟩
  .rw[ET]
   simp only[xk,ER,ar,aS,ey,he]
   try rfl
  .simp only[rW,hz,F.eN]
   rfl
 have hz:s.size≠0:=by rw[F.lG]at he;exact of_decide_eq_false he
 obtain⟨f,hf⟩ : ∃f,s.size=f+1:=⟨s.size - 1,by omega⟩
 have o1 : ∀k o,1<=k->F.eN f (s.extract k s.size) o=F.eN (s.extract k s.size).size (s.extract k s.size) o:=fun k o hk=>plx s o k f hf hk
 cases h5:F.eV s F.mo
 case true=>
  right
  have hl:=F.AL h5
  have hl:5<=s.size:=hl
  have e5:=F.ke s 5
  have eo:(out++F.nd).size=out.size+1:=by rw[gE];rfl
  refine⟨(s.extract 5 s.size,out++F.nd),?_,rfl,by simp only;omega,by simp only;omega,?_⟩
  .rw[ET]
   simp only[xk,ER,ar,ak,aS,ey,he,ea,el,eA,eL,h5,dt]
   rw[cg (show out.size+F.nd.size<=9223372036854775807 by have:F.nd.size=1:=rfl;omega),cg hl,cg (bR _)]
   rfl
  .simp only[rW,hf,F.eN,he,h5,ak,ap]
   rw[<-hf,o1 5 _ (by omega)]
 cases h4:F.eV s F.nc
 case true=>
  right
  have hl:=F.AL h4
  have hl:4<=s.size:=hl
  have e5:=F.ke s 4
  have eo:(out++F.oT).size=out.size+1:=by rw[gE];rfl
  refine⟨(s.extract 4 s.size,out++F.oT),?_,rfl,by simp only;omega,by simp only;omega,?_⟩
  .rw[ET]
   simp only[xk,ER,ar,ak,ap,aS,ey,he,ea,el,eA,eL,h5,h4,dt]
   rw[cg (show out.size+F.oT.size<=9223372036854775807 by have:F.oT.size=1:=rfl;omega),cg hl,cg (bR _)]
   rfl
  .simp only[rW,hf,F.eN,he,h5,h4,ak,ap]
   rw[<-hf,o1 4 _ (by omega)]
 obtain⟨b,r,hs⟩ : ∃b r,F.bs s=b::r:=by
  cases h:F.bs s with
  | nil=>have:=F.eC s;rw[h]at this;simp at this;omega
  | cons b r=>exact⟨b,r,rfl⟩
 have h0:(F.bs s)[0]? = some b:=by rw[hs];rfl
 have hsg:F.p7 s=(b==38||b==60):=by unfold F.p7;rw[h0]
 cases hg:F.p7 s
 case true=>
  left
  rw[hg]at hsg
  refine⟨(.ret,⟨[(3,vB false),(2,vS ⟨⟨[]⟩⟩)],[]⟩),?_,?_,by simp,rfl⟩
  .rw[ET]
   rw[iF,h0]
   simp only[xk,ER,ar,ak,ap,aS,ey,he,ea,el,eA,eL,h5,h4,F.J2,F.J3,dt]
   cases h1:b==38
   .rw[h1,nF]at hsg
    rw[<-hsg];rfl
   .rfl
  .simp only[rW,hf,F.eN,he,h5,h4,hg,ak,ap]
   rfl
 right
 rw[hg]at hsg
 have hrl:=F.ad7 ((F.bs s).drop 1)
 rw[fe,F.eC]at hrl
 obtain⟨n,hn⟩ : ∃n,1+F.runN ((F.bs s).drop 1)=n:=⟨_,rfl⟩
 have hmem : ∀x∈(F.bs s).take n,x≠38/\x≠60:=by
  intro x hx
  rw[<-hn,U4,hs,KT,cK]at hx
  rcases hx with rfl | hx
  .have:=hsg.symm;simp only[jQ,beq_eq_false_iff_ne]at this;exact this
  .exact F.ad8 r x hx
 have en:=F.ke s n
 have e0:(s.extract 0 n).size=n:=by rw[K1];omega
 have eo:(out++s.extract 0 n).size=out.size+n:=by rw[gE,e0]
 have hrun:=F.ad3 n s out s.size (by omega) hmem (bR _)
 refine⟨(s.extract n s.size,out++s.extract 0 n),?_,rfl,by simp only;omega,by simp only;omega,?_⟩
 .rw[ET]
  rw[iF,h0]
  have g1:(b==38)=false:=by cases h1:b==38;rfl;rw[h1]at hsg;cases hsg
  have g2:(b==60)=false:=by cases h1:b==60;rfl;rw[h1,Bool.or_true]at hsg;cases hsg
  simp only[xk,ER,ar,ak,ap,aS,ey,he,ea,el,eA,eL,h5,h4,F.J2,F.J3,hn,g1,g2,dt]
  rw[aj (show s.size<=4294967280 by omega),cg (cf n),cg (show n<=s.size by omega),cg (show out.size+(s.extract 0 n).size<=9223372036854775807 by omega),cg (bR s.size)]
  rfl
 .have:=F.AZ s.size (s.extract n s.size).size (s.extract n s.size) (out++s.extract 0 n) (by omega) (bR _)
  simp only[rW]
  rw[hrun,this]
theorem aBu:(aB uW false f80 [vS s]).val =
 ai (ac A8 (St.mk [(4,(vS ⟨⟨[]⟩⟩)),(0,(vS s))] [])) fun z=>bif decide (aJ z.1 +
 aJ z.2<=4294967280)&&true then bif F.found (F.eN (aJ z.1) z.1 z.2) then some (AV.aF [(vS (F.fp (F.eN (aJ z.1)
 z.1 z.2) (az (aA [])))),(vB true)],[]) else some (AV.aF [(vS ⟨⟨[]⟩⟩),(vB false)],[]) else none:=(cm).symm.trans (by kernel_rfl)
def J4:List AV:=[vS s]
def uX (a:ByteArray):List AV:=J4 a
theorem aBv a a' (h:uX a=uX a'):a=a':=by
 simp only[uX,J4]at h
 try simp at h
 grind
theorem uY:ac uX ([(vS s)])=some (s):=ax aBv (s) rfl
def Tr:AV×Heap:=(.aF [vS (F.fW s),vB (F.oV s)],[])
def aee:Bool:=F.small s
end
def aef:aW:=aY 80 true uX aee Tr
theorem aBw:aX Tryz.prog au aef:=by
 refine cQ f80 aBq (md (x0:=aw f80 0) (x1:=aw f80 1) (by kernel_rfl) (bS ?_) (bS ?_)) ?_
 .rintro⟨s,out⟩ hp
  exact aBt s out hp
 .rintro⟨s,out,n⟩ hp
  exact aBr s out n hp
 rintro s hpre hok
 show(aB uW false _ (J4 _)).val=some (Tr _)
 unfold J4 Tr
 rw[aBu]
 simp only[aee,F.small,aM]at hpre
 have e0:s.size+(⟨⟨[]⟩⟩:ByteArray).size<=4294967280:=hpre
 have er:F.eN s.size s ⟨⟨[]⟩⟩=F.uU s:=rfl
 simp only[aBo,ar,ak,aS,F.fW,F.oV,aj e0,er]
 cases F.uU s<;>rfl
end M
namespace F
theorem J5 : ∀(f:Nat) (s out o:ByteArray),eN f s out=some o->o.size<=out.size+s.size
 | 0,s,out,o,h=>by
  rw[eN]at h;cases h;omega
 | f+1,s,out,o,h=>by
  rw[eN]at h
  cases he:emp s
  .rw[he]at h
   have hz:s.size≠0:=by rw[lG]at he;exact of_decide_eq_false he
   simp only[ap]at h
   cases h5:eV s mo
   .rw[h5]at h
    simp only[ap]at h
    cases h4:eV s nc
    .rw[h4]at h
     simp only[ap]at h
     cases hg:p7 s
     .rw[hg]at h
      have:=J5 f _ _ _ h
      have e1:=ke s 1
      have e2:(out++s.extract 0 1).size=out.size+1:=by rw[gE,K1];omega
      omega
     .rw[hg]at h;cases h
    .rw[h4]at h
     have:=J5 f _ _ _ h
     have hl:4<=s.size:=AL h4
     have e1:=ke s 4
     have e2:(out++oT).size=out.size+1:=by rw[gE];rfl
     omega
   .rw[h5]at h
    have:=J5 f _ _ _ h
    have hl:5<=s.size:=AL h5
    have e1:=ke s 5
    have e2:(out++nd).size=out.size+1:=by rw[gE];rfl
    omega
  .rw[he]at h;cases h;omega
theorem aeg (s:ByteArray):(fW s).size<=s.size:=by
 unfold fW fp
 cases h:uU s with
 | none=>exact cf _
 | some o=>
  have:=J5 _ _ _ _ h
  have e:(⟨⟨[]⟩⟩:ByteArray).size=0:=rfl
  simp only[k7];omega
def iv:ByteArray:=⟨⟨[32,108,105,110,101,58]⟩⟩
def nf:ByteArray:=⟨⟨[32,98,101,102,111,114,101]⟩⟩
def rX:ByteArray:=⟨⟨[32,97,102,116,101,114]⟩⟩
def gw:ByteArray:=⟨⟨[32]⟩⟩
def Ts (s:ByteArray):Bool:=match (bs s)[0]? with
 | some b=>((b.toNat:Int)==48)
 | none=>false
def aeh (s:ByteArray):Bool:=isNum s && !Ts s
def aei (t:ByteArray):ByteArray:=bif EP t gw then gw++lM t gw else lM t gw
def EU (s:ByteArray):Bool:= !(cC s iv).2||aeh (lL (cC s iv).1 gw)
def mkR (s:ByteArray):Int:=bif (cC s iv).2 then n8 (lL (cC s iv).1 gw) else 0
def J6 (s:ByteArray):ByteArray:=bif (cC s iv).2 then aei (cC s iv).1 else s
def uZ (s:ByteArray):Int:=bif EU s then mkR s else 0
def u7 (s:ByteArray):Bool:=EU s&&(cC (J6 s) nf).2
def u9 (s:ByteArray):Bool:=EU s&&(cC (cC (J6 s) nf).1 rX).2
def A9 (s:ByteArray):Bool:=EU s&&emp (cC (cC (J6 s) nf).1 rX).1
end F
namespace M
def Tt:Env:=bq ty au bp [Ta,aeb,ZE,aed] [] [] []
theorem aBx:aZ Tryz.prog Tt:=bG (aI adR (aI aBf (aI an9 (aI aBk bF))))
section
variable (s:ByteArray) (fr tt:Int)
theorem aBy:(eu Tt [] f78 [vS s, .ptr 900 0 0] [(900,⟨true,0,0,[[vI fr,vI tt, .e0,vI 0,vB false,vB false]]⟩)]).val =
 (fun(q:List AV)=>(fun(q_1:List AV)=>(fun(q_2:Option (AV×Heap×List Nat))=>ai (ac ml [(vS s),(vS ⟨⟨[32,
 108,105,110,101,58]⟩⟩)]) fun z=>bif F.small z.1&&decide (aJ z.2<=100) then bif (F.cC z.1 z.2).snd then ai (ac A3 [(vS (F.cC z.1 z.2).fst),(vS ⟨⟨[32]⟩⟩)]) fun z=>bif decide (aJ z.1<=4294967280) then ai (ac xW [(vS (F.lL z.1 z.2))]) fun z_1=>bif F.small z_1
 then bif !!F.isNum z_1 then ai (F.lL z.1 z.2)[(0:Nat)]? fun z_2=>bif (↑(dF z_2):Int)==48 then q_2 else ai (ac
 A5 [(vS (F.lL z.1 z.2))]) fun z_3=>bif F.isNum z_3 then bif F.EP z.1 z.2 then bif aP (aJ (az (aA [(32 :
 UInt8)]))+aJ (F.lM z.1 z.2)) 9223372036854775807 then ai (ac ml ((vS (az (aA [(32:UInt8)])++F.lM z.1
 z.2))::q_1)) fun z=>bif F.small z.1&&decide (aJ z.2<=100) then ai (ac ml ((vS (F.cC z.1
 z.2).fst)::q)) fun z_4=>bif F.small z_4.1&&decide (aJ z_4.2<=100) then some ((vB (cU (F.cC
 z_4.1 z_4.2).fst==cU (az (aA [])))),[(900,ah.mk true 0 0 [[(vI fr),(vI tt),AV.e0,(vI (F.n8 z_3)),(vB (F.cC z.1 z.2).snd),
 (vB (F.cC z_4.1 z_4.2).snd)]])],[]) else none else none else none else ai (ac ml ((vS (F.lM z.1 z.2))::q_1)) fun z=>bif F.small z.1&&decide (aJ z.2<=100) then ai (ac ml ((vS (F.cC z.1 z.2).fst)::q)) fun z_4=>bif F.small z_4.1&&decide (aJ z_4.2<=100) then some ((vB (cU (F.cC z_4.1 z_4.2).fst==cU
 (az (aA [])))),[(900,ah.mk true 0 0 [[(vI fr),(vI tt),AV.e0,(vI (F.n8 z_3)),(vB (F.cC z.1 z.2).snd),(vB (F.cC z_4.1 z_4.2).snd)]])],
 []) else none else none else none else q_2 else none else none else ai (ac ml ((vS s)::q_1)) fun z=>bif F.small z.1 &&
 decide (aJ z.2<=100) then ai (ac ml ((vS (F.cC z.1 z.2).fst)::q)) fun z_1=>bif F.small z_1.1
 && decide (aJ z_1.2<=100) then some ((vB (cU (F.cC z_1.1 z_1.2).fst==cU (az (aA [])))),[(900,
 ah.mk true 0 0 [[(vI fr),(vI tt),AV.e0,(vI 0),(vB (F.cC z.1 z.2).snd),(vB (F.cC z_1.1 z_1.2).snd)]])],[]) else none else none else none) (some
 ((vB false),[(900,ah.mk true 0 0 [[(vI fr),(vI tt),AV.e0,(vI 0),(vB false),(vB false)]])],[]))) [(vS ⟨⟨[32,98,
 101,102,111,114,101]⟩⟩)]) [(vS ⟨⟨[32,97,102,116,
 101,114]⟩⟩)]:=(lD).symm.trans (by kernel_rfl)
def EV:List AV×Heap:=([vS s, .ptr 900 0 0],[(900,⟨true,0,0,[[vI fr,vI tt, .e0,vI 0,vB false,vB false]]⟩)])
def Ba (a:ByteArray×Int×Int):List AV×Heap:=EV a.1 a.2.1 a.2.2
theorem aBz a a' (h:Ba a=Ba a'):a=a':=by
 simp only[Ba,EV]at h
 try simp at h
 grind
theorem EW:ac Ba (([(vS s), .ptr 900 0 0],[(900,ah.mk true 0 0 [[(vI fr),(vI tt),AV.e0,(vI (0:Int)),(vB false),(vB false)]])]))=some (s,fr,tt):=ax aBz (s,fr,tt) rfl
def Tu:AV×Heap×List Nat:=(vB (F.A9 s),[(900,⟨true,0,0,[[vI fr,vI tt, .e0,vI (F.uZ s),vB (F.u7 s),vB (F.u9 s)]]⟩)],[])
def aek (fr:Int) (tt:Int):Bool:=F.small s
end
def ael:fT:=jI 78 Ba (fun a=>aek a.1 a.2.1 a.2.2) fun a=>Tu a.1 a.2.1 a.2.2
theorem aBA:fX Tryz.prog au ael:=by
 refine mX (mv:=[]) f78 (by kernel_rfl) (by kernel_rfl) aBx mixed (nS (by kernel_rfl)) ?_
 rintro⟨s,fr,tt⟩ hpre hok hokh
 show(eu Tt [] _ (EV _ _ _).1 (EV _ _ _).2).val=some (Tu _ _ _)
 unfold EV Tu
 rw[aBy]
 simp only[aek,F.small,aM]at hpre
 have eL:(⟨⟨[32,108,105,110,101,58]⟩⟩:ByteArray)=F.iv:=rfl
 have eB:(⟨⟨[32,98,101,102,111,114,101]⟩⟩:ByteArray)=F.nf:=rfl
 have eA:(⟨⟨[32,97,102,116,101,114]⟩⟩:ByteArray)=F.rX:=rfl
 have eS:(⟨⟨[32]⟩⟩:ByteArray)=F.gw:=rfl
 have ey : ∀y:ByteArray,(y.toList==(⟨⟨[]⟩⟩:ByteArray).toList)=F.emp y:=fun _=>rfl
 have d1:decide (F.iv.size<=100)=true:=rfl
 have d2:decide (F.nf.size<=100)=true:=rfl
 have d3:decide (F.rX.size<=100)=true:=rfl
 have s1:F.small s=true:=aj hpre
 have hb : ∀y:ByteArray,y.size<=4294967280->F.small y=true/\F.small (F.cC y F.nf).1=true:=fun y hy=>
  ⟨aj hy,F.uS (Ky y F.nf) hy⟩
 have ht:=Ky s F.iv
 simp only[adP,aBd,an8,aBh,ar,ak,aS,eL,eB,eA,eS,ey,d1,d2,d3,s1,F.A9,F.uZ,F.u7,F.u9,F.EU,F.mkR,F.J6,F.aeh,F.aei]
 cases hc:(F.cC s F.iv).2
 .obtain⟨b1,b2⟩:=hb s hpre
  simp only[b2,ak,ap,dt,Bool.true_or,fM]
 have hlt:(F.cC s F.iv).1.size+6<=s.size:=by
  unfold F.cC at hc ⊢
  cases h:F.eV s F.iv
  .rw[h]at hc;cases hc
  .have:=F.AL h
   have h6:F.iv.size=6:=rfl
   have:=F.ke s 6
   rw[h6]
   simp only[ak];omega
 generalize (F.cC s F.iv).1=u at hlt ht ⊢
 have h1:=F.ad5 u F.gw
 have h2:=F.ad6 u F.gw
 have hs:(F.gw++F.lM u F.gw).size=1+(F.lM u F.gw).size:=by rw[gE];rfl
 have k1:decide (u.size<=4294967280)=true:=aj (by omega)
 have k2:F.small (F.lL u F.gw)=true:=F.uS h1 (by omega)
 have k3:aP (F.gw.size+(F.lM u F.gw).size) 9223372036854775807=true:=cg (by have:F.gw.size=1:=rfl;omega)
 obtain⟨b1,b2⟩:=hb (F.gw++F.lM u F.gw) (by omega)
 obtain⟨b3,b4⟩:=hb (F.lM u F.gw) (by omega)
 simp only[k1,k2,k3,b1,b2,b3,b4,ak,dC,nF]
 cases hn:F.isNum (F.lL u F.gw)
 .simp only[dC,dt,ap,qD]
 obtain⟨b,hb0⟩ : ∃b,(F.bs (F.lL u F.gw))[0]? = some b:=by
  have:1<=(F.lL u F.gw).size:=by
   unfold F.isNum at hn
   simp only[aG,aM]at hn
   exact hn.1.2
  exact⟨_,bC (by rw[F.eC];omega)⟩
 have hz:F.Ts (F.lL u F.gw)=((b.toNat:Int)==48):=by unfold F.Ts;rw[hb0]
 rw[iF,hb0,hz]
 simp only[ar,dC,dt,ak,fM]
 cases((b.toNat:Int)==48)
 .cases F.EP u F.gw<;>rfl
 .rfl
end M
namespace F
end F
namespace M
end M
def F.ng (x:ByteArray):Bool:=F.oV x&&F.line (F.fW x)
def F.cj:List ByteArray->List ByteArray->Nat->Bool×List ByteArray×Nat
 | [],acc,a=>bif acc.isEmpty then (false,acc,a+1) else (true,acc,a)
 | x::r,acc,a=>bif F.emp x && !acc.isEmpty then (true,acc,a) else bif F.ng x then F.cj r (acc++[F.fW x]) (a+1) else (false,acc,a+1)
def lQ (l:List ByteArray):Bool:=l.isEmpty
namespace M
def oCp (ls:List ByteArray):AV:=match ls with
 | []=> .e0
 | _::_=> .own 69
def oBp (ls:List ByteArray):Heap:=match ls with
 | []=>[]
 | _::_=>[(69,⟨false,9,1,ls.map aC⟩)]
section
variable (L:List ByteArray) (fr tt ro:Int) (be af:Bool) (a:Nat)
def Tv:St:=⟨[(2, .fn 80 []),(1, .ptr 901 0 0),(0, .ptr 900 0 0)],[(901,⟨true,0,0,[[vI fr,vI tt, .e0,vI ro,vB be,vB af]]⟩),(900,⟨true,0,0,[[.sl (L.map aC),vI a]]⟩)]⟩
def Bb (a:(List ByteArray)×Int×Int×Int×Bool×Bool×Nat):St:=Tv a.1 a.2.1 a.2.2.1 a.2.2.2.1 a.2.2.2.2.1 a.2.2.2.2.2.1 a.2.2.2.2.2.2
theorem aBB a a' (h:Bb a=Bb a'):a=a':=by
 simp only[Bb,Tv]at h
 try simp[iL]at h
 grind
theorem aBC:ac Bb (St.mk [(2,AV.fn (80:FuncId) []),(1, .ptr 901 0 0),(0, .ptr 900 0 0)] [(901,ah.mk true 0 0 [[(vI fr),(vI tt),AV.e0,(vI ro),(vB be),(vB af)]]),(900,ah.mk true
 0 0 [[AV.sl (ab aC L),(vI (↑a:Int))]])])=some (L,fr,tt,ro,be,af,a):=ax aBB (L,fr,tt,ro,be,af,a) rfl
def aeo: T (Ex × St) := .bM (F.cj (L.drop a) [] a).1
      (.bM (decide ((F.cj (L.drop a) [] a).2.2 < L.length))
        (.ret (.ret, ⟨[(6, vB true)], [(901, ⟨true, 0, 0, [[vI fr, vI tt, .own 69, vI ro, vB be, vB af]]⟩), (900, ⟨true, 0, 0, [[.sl (L.map aC), vI (F.cj (L.drop a) [] a).2.2]]⟩), (69, ⟨false, 9, 1, (F.cj (L.drop a) [] a).2.1.map aC⟩)]⟩))
        (.ret (.exit 0, ⟨[], [(901, ⟨true, 0, 0, [[vI fr, vI tt, .own 69, vI ro, vB be, vB af]]⟩), (900, ⟨true, 0, 0, [[.sl (L.map aC), vI (F.cj (L.drop a) [] a).2.2]]⟩), (69, ⟨false, 9, 1, (F.cj (L.drop a) [] a).2.1.map aC⟩)]⟩)))
      (.bM (lQ (F.cj (L.drop a) [] a).2.1)
        (.ret (.ret, ⟨[(6, vB false)], [(901, ⟨true, 0, 0, [[vI fr, vI tt, .e0, vI ro, vB be, vB af]]⟩), (900, ⟨true, 0, 0, [[.sl (L.map aC), vI (F.cj (L.drop a) [] a).2.2]]⟩)]⟩))
        (.ret (.ret, ⟨[(6, vB false)], [(901, ⟨true, 0, 0, [[vI fr, vI tt, .own 69, vI ro, vB be, vB af]]⟩), (900, ⟨true, 0, 0, [[.sl (L.map aC), vI (F.cj (L.drop a) [] a).2.2]]⟩), (69, ⟨false, 9, 1, (F.cj (L.drop a) [] a).2.1.map aC⟩)]⟩)))
def Tw (fr:Int) (tt:Int) (ro:Int) (be:Bool) (af:Bool) (a:Nat):Bool:=F.fZ L&&decide (a<=200001)
def aBD:Nat×(St->T (Ex×St)):=(1,lpo [2,1,0] [901,900] Bb (G6 Tw) (G6 aeo))
def rY (ls : List ByteArray) (a : Nat) : T (Ex × St) := .bM (F.cj (L.drop a) ls a).1
      (.bM (decide ((F.cj (L.drop a) ls a).2.2 < L.length))
        (.ret (.ret, ⟨[(6, vB true)], [(901, ⟨true, 0, 0, [[vI fr, vI tt, .own 69, vI ro, vB be, vB af]]⟩), (900, ⟨true, 0, 0, [[.sl (L.map aC), vI (F.cj (L.drop a) ls a).2.2]]⟩), (69, ⟨false, 9, 1, (F.cj (L.drop a) ls a).2.1.map aC⟩)]⟩))
        (.ret (.exit 0, ⟨[], [(901, ⟨true, 0, 0, [[vI fr, vI tt, .own 69, vI ro, vB be, vB af]]⟩), (900, ⟨true, 0, 0, [[.sl (L.map aC), vI (F.cj (L.drop a) ls a).2.2]]⟩), (69, ⟨false, 9, 1, (F.cj (L.drop a) ls a).2.1.map aC⟩)]⟩)))
      (.bM (lQ (F.cj (L.drop a) ls a).2.1)
        (.ret (.ret, ⟨[(6, vB false)], [(901, ⟨true, 0, 0, [[vI fr, vI tt, .e0, vI ro, vB be, vB af]]⟩), (900, ⟨true, 0, 0, [[.sl (L.map aC), vI (F.cj (L.drop a) ls a).2.2]]⟩)]⟩))
        (.ret (.ret, ⟨[(6, vB false)], [(901, ⟨true, 0, 0, [[vI fr, vI tt, .own 69, vI ro, vB be, vB af]]⟩), (900, ⟨true, 0, 0, [[.sl (L.map aC), vI (F.cj (L.drop a) ls a).2.2]]⟩), (69, ⟨false, 9, 1, (F.cj (L.drop a) ls a).2.1.map aC⟩)]⟩)))
def J7 (ls:List ByteArray) (a:Nat):St:=⟨[(2, .fn 80 []),(1, .ptr 901 0 0),(0, .ptr 900 0 0)],(901,⟨true,0,0,[[vI fr,vI tt,oCp ls,vI ro,vB be,vB af]]⟩)::(900,⟨true,0,0,[[.sl (L.map aC),vI a]]⟩)::oBp ls⟩
def mp:Env:=bq ty au bp [J0,aef,NQ] [Ti] [] [aBD]
theorem aBE:aZ Tryz.prog mp:=by
 refine mU m6 mY ?_ ?_
 .simp only[gQ]
  exact⟨Tg,aBw,YP,by simp⟩
 .simp only[gQ]
  exact⟨adX,by simp⟩
def J8:St:=⟨[(2, .fn 80 []),(1, .ptr 901 0 0),(0, .ptr 900 0 0)],[(901,⟨true,0,0,[[vI fr,vI tt, .e0,vI ro,vB be,vB af]]⟩),(900,⟨true,0,0,[[.sl (L.map aC),vI a]]⟩)]⟩
def vc (ls:List ByteArray) (a:Nat):St:=⟨[(2, .fn 80 []),(1, .ptr 901 0 0),(0, .ptr 900 0 0)],[(901,⟨true,0,0,[[vI fr,vI tt, .own 69,vI ro,vB be,vB af]]⟩),(900,⟨true,0,0,[[.sl (L.map aC),vI a]]⟩),(69,⟨false,9,1,ls.map aC⟩)]⟩
theorem Tx:((exec mp (aw f79 0) (J8 L fr tt ro be af a)).bind (bE ([2,1,0],[901,900,69]) ([],[901,900,69]) ([6],[901,900,69]))).val =
 (fun(q:List AV)=>(fun(q_1:Option (List ByteArray×Nat))=>(fun(q_2:Nat×ah)=>(fun(q:Option (Ex×St))=>(fun(q:Option (Ex×St))=>ai q_1
 fun z=>bif !F.eM z.1 z.2 then q else q) (ai q_1 fun z=>bif F.eM z.1 z.2 then ai (ac
 (ab aC) (ab aC L)) fun z=>bif decide (a<ae z) then bif cU (al z a (az (aA []))) ==
 cU (az (aA [])) then q else q else none else q)) (ai (ac oS ([.ptr 900 0 0],[(900,ah.mk true 0 0 [[AV.sl (ab aC
 L),(vI (↑a:Int))]])])) fun z=>bif F.fZ z.1&&decide (z.2<=200001) then bif !F.eM z.1 z.2 then some (Ex.ret,St.mk
 [(6,(vB false))] [q_2,(900,ah.mk true 0 0 [[AV.sl (ab aC z.1),(vI (↑(z.2+1):Int))]])]) else ai (ac uX [(vS (F.ft z.1
 z.2))]) fun z_1=>bif F.small z_1 then bif !!F.oV z_1 then ai (ac ry [(vS (F.fW z_1))]) fun z_2=>bif F.small z_2 then
 bif !F.line z_2 then some (Ex.ret,St.mk [(6,(vB false))] [q_2,(900,ah.mk true 0 0 [[AV.sl (ab aC z.1),(vI (↑(z.2+1):Int))]])]) else some
 (Ex.normal,St.mk [(2,AV.fn (80:FuncId) []),(1, .ptr 901 0 0),(0, .ptr 900 0 0)] [(901,ah.mk true 0 0 [(vI fr)::(vI tt) :: .own 69::q]),(900,ah.mk true 0 0
 [[AV.sl (ab aC z.1),(vI (↑(z.2+1):Int))]]),(69,ah.mk false 9 1 [[(vS (F.fW z_1))]])]) else none else some (Ex.ret,St.mk [(6,(vB false))]
 [q_2,(900,ah.mk true 0 0 [[AV.sl (ab aC z.1),(vI (↑(z.2+1):Int))]])]) else none else none)) (901,ah.mk true 0 0 [(vI fr)::(vI tt)::AV.e0
 :: q])) (ac oR [AV.bD [AV.sl (ab aC L),(vI (↑a:Int))] (0:Nat)])) [(vI ro),(vB be),(vB af)]:=(cr _ _ _).symm.trans (by kernel_rfl)
theorem J9 (ls:List ByteArray) (a:Nat):((exec mp (aw f79 0) (vc L fr tt ro be af ls a)).bind (bE ([2,1,0],[901,900,69]) ([],[901,900,69]) ([6],[901,900,69]))).val =
 (fun(q:Int)=>(fun(q_1:List (Nat×ah))=>(fun(q_2:Option (List ByteArray×Nat))=>(fun(q_3:Nat×ah)=>(fun(q_4:Nat×ah)=>(fun(q_5:List (Nat
 × ah))=>(fun(q_6:Option (Ex×St))=>(fun(q_7:Option (Ex×St))=>ai q_2 fun z=>bif !F.eM z.1 z.2 then bif q==0 then q_7 else some (Ex.exit (0:Nat),St.mk [] q_5) else q_7) (ai q_2 fun z=>bif F.eM z.1 z.2 then ai (ac
 (ab aC) (ab aC L)) fun z=>bif decide (a<ae z) then bif cU (al z a (az (aA []))) ==
 cU (az (aA [])) then bif decide ((0:Int)<q) then some (Ex.ret,St.mk [(6,(vB true))] q_5) else q_6 else q_6 else none else q_6))
 (ai (ac oS ([.ptr 900 0 0],[q_3])) fun z=>bif F.fZ z.1&&decide (z.2<=200001) then bif !F.eM z.1 z.2
 then some (Ex.ret,St.mk [(6,(vB false))] (q_4::(900,ah.mk true 0 0 [[AV.sl (ab aC z.1),(vI (↑(z.2+1):Int))]])::q_1)) else ai
 (ac uX [(vS (F.ft z.1 z.2))]) fun z_1=>bif F.small z_1 then bif !!F.oV z_1 then ai (ac ry [(vS (F.fW z_1))]) fun(z_2 :
 ByteArray)=>bif F.small z_2 then bif !F.line z_2 then some (Ex.ret,St.mk [(6,(vB false))] (q_4::(900,ah.mk true 0 0 [[AV.sl (ab aC z.1),(vI (↑(z.2 +
 (1:Nat)):Int))]])::q_1)) else bif aP ((ae (ab aC ls)+1)*16) 140737488355328&&true then some (Ex.normal,St.mk
 [(2,AV.fn (80:FuncId) []),(1, .ptr 901 0 0),(0, .ptr 900 0 0)] [q_4,(900,ah.mk true 0 0 [[AV.sl (ab aC z.1),(vI (↑(z.2+1):Int))]]),(69,
 ah.mk false 9 1 (ab aC ls++[[(vS (F.fW z_1))]]))]) else none else none else some (Ex.ret,St.mk [(6,(vB false))] (q_4::(900,ah.mk true 0 0 [[AV.sl
 (ab aC z.1),(vI (↑(z.2+1):Int))]])::q_1)) else none else none)) (q_4::q_3::q_1)) (901,ah.mk true 0 0 [[(vI fr),(vI tt), .own 69,(vI ro),
 (vB be),(vB af)]])) (900,ah.mk true 0 0 [[AV.sl (ab aC L),(vI (↑a:Int))]])) (ac oR [AV.bD [AV.sl (ab aC L),(vI (↑a:Int))] (0:Nat)]))
 [(69,ah.mk false 9 1 (ab aC ls))]) (↑(ae (ab aC ls)):Int):=(cr _ _ _).symm.trans (by kernel_rfl)
theorem aBF (ls:List ByteArray) (y:ByteArray):oCp (ls++[y]) = .own 69:=by cases ls<;>rfl
theorem aBG (ls:List ByteArray) (y:ByteArray):oBp (ls++[y])=[(69,⟨false,9,1,(ls++[y]).map aC⟩)]:=by cases ls<;>rfl
theorem aep (ls:List ByteArray) (y:ByteArray) (a:Nat):J7 L fr tt ro be af (ls++[y]) a=vc L fr tt ro be af (ls++[y]) a:=by
 unfold J7 vc
 rw[aBF,aBG]
theorem aBH (hp:Tw L fr tt ro be af a=true) : ∀ex s',(aeo L fr tt ro be af a).val=some (ex,s')->ba mp (aw f79 0) (Tv L fr tt ro be af a) ex s':=by
 simp only[Tw,aG,aM]at hp
 obtain⟨h1,h2⟩:=hp
 have hL:L.length<=200001/\L.all F.small=true:=by simpa[F.fZ]using h1
 refine cE (st:=fun b:List ByteArray×Nat=>J7 L fr tt ro be af b.1 b.2) (out:=fun b=>rY L fr tt ro be af b.1 b.2) (I:=fun b=>b.2<=200001/\b.1.length<=b.2) (n:=([2,1,0],[901,900,69])) (e:=([],[901,900,69])) (r:=([6],[901,900,69])) (fun b=>L.length+1 - b.2) ?_ ([],a) ⟨h2,cf _⟩
 rintro⟨ls,a⟩ ⟨i1,i2⟩
 simp only at i1 i2
 have h2:decide (a<=200001)=true:=aj i1
 by_cases ha:a<L.length
 .have hy:L[a]? = some L[a]:=bC ha
  generalize L[a]=y at hy
  have hd:=AM hy
  have ht:F.eM L a=true:=aj ha
  have hS:F.ft L a=y:=by unfold F.ft;rw[ht,ak];exact getD_at hy
  have hys:F.small y=true:=bP.1 hL.2 y (cL hy)
  have ey:(y.toList==(⟨⟨[]⟩⟩:ByteArray).toList)=F.emp y:=rfl
  have hps:F.small (F.fW y)=true:=F.uS (F.aeg y) (of_decide_eq_true hys)
  cases ls with
  | nil=>
   cases hl:F.ng y
   .left
    refine⟨(.ret,⟨[(6,vB false)],[(901,⟨true,0,0,[[vI fr,vI tt, .e0,vI ro,vB be,vB af]]⟩),(900,⟨true,0,0,[[.sl (L.map aC),vI (a+1:Nat)]]⟩)]⟩),?_,?_,by simp,rfl⟩
    .show((exec mp (aw f79 0) (J8 L fr tt ro be af a)).bind _).val=_
     rw[Tx]
     simp only[kc,uY,rz,mm,ar,jV,ak,ap,ht,hS,h1,h2,hys,hps,aj ha,getD_at hy,ey,dC,bT]
     cases hG:F.oV y
     .simp only[dt,dC,ap]
      cases F.emp y<;>rfl
     .have hl2:F.line (F.fW y)=false:=by simpa[F.ng,hG]using hl
      simp only[hl2,dt,dC,ak]
      cases F.emp y<;>rfl
    .simp only[rY,lQ,hd,F.cj,hl,agT,dC,Bool.and_false,ap]
     rfl
   .right
    refine⟨([F.fW y],a+1),?_,rfl,⟨by simp only;omega,by simp⟩,by simp only;omega,?_⟩
    .show((exec mp (aw f79 0) (J8 L fr tt ro be af a)).bind _).val=_
     rw[Tx]
     have hG:F.oV y=true/\F.line (F.fW y)=true:=by simpa[F.ng]using hl
     simp only[kc,uY,rz,mm,ar,jV,ak,ap,ht,hS,h1,h2,hys,hps,hG.1,hG.2,aj ha,getD_at hy,ey,dC,dt,bT]
     cases F.emp y<;>rfl
    .simp only[rY,lQ,hd,F.cj,hl,agT,dC,Bool.and_false,ap,ak,eh]
  | cons x r=>
   cases he:F.emp y
   .cases hl:F.ng y
    .left
     refine⟨(.ret,⟨[(6,vB false)],[(901,⟨true,0,0,[[vI fr,vI tt, .own 69,vI ro,vB be,vB af]]⟩),(900,⟨true,0,0,[[.sl (L.map aC),vI (a+1:Nat)]]⟩),(69,⟨false,9,1,(x::r).map aC⟩)]⟩),?_,?_,by simp,rfl⟩
     .show((exec mp (aw f79 0) (vc L fr tt ro be af (x::r) a)).bind _).val=_
      rw[J9]
      simp only[kc,uY,rz,mm,ar,aN,jV,ak,ap,aS,ht,hS,h1,h2,hys,hps,aj ha,getD_at hy,ey,he,dC,bT]
      cases hG:F.oV y
      .simp only[dt,dC,ap]
       try rfl
      .have hl2:F.line (F.fW y)=false:=by simpa[F.ng,hG]using hl
       simp only[hl2,dt,dC,ak]
       try rfl
     .simp only[rY,lQ,hd,F.cj,he,hl,qD,ap]
      rfl
    .right
     refine⟨(x::r++[F.fW y],a+1),?_,by rw[aep];rfl,⟨by simp only;omega,by simp at i2 ⊢;omega⟩,by simp only;omega,?_⟩
     .show((exec mp (aw f79 0) (vc L fr tt ro be af (x::r) a)).bind _).val=some (_,J7 L fr tt ro be af (x::r++[F.fW y]) (a+1))
      rw[J9,aep]
      have hG:F.oV y=true/\F.line (F.fW y)=true:=by simpa[F.ng]using hl
      simp only[kc,uY,rz,mm,ar,aN,jV,ak,ap,aS,ht,hS,h1,h2,hys,hps,hG.1,hG.2,aj ha,getD_at hy,ey,he,dC,dt,bT]
      have em:(x::r).map aC++[[vS (F.fW y)]]=(x::r++[F.fW y]).map aC:=by simp[aC]
      have hlen:((x::r).length+1)*16<=140737488355328:=by omega
      rw[em,cg hlen]
      rfl
     .simp only[rY,lQ,hd,F.cj,he,hl,qD,ap,ak]
   .left
    refine⟨(.ret,⟨[(6,vB true)],[(901,⟨true,0,0,[[vI fr,vI tt, .own 69,vI ro,vB be,vB af]]⟩),(900,⟨true,0,0,[[.sl (L.map aC),vI a]]⟩),(69,⟨false,9,1,(x::r).map aC⟩)]⟩),?_,?_,by simp,rfl⟩
    .show((exec mp (aw f79 0) (vc L fr tt ro be af (x::r) a)).bind _).val=_
     rw[J9]
     simp only[kc,uY,rz,mm,ar,aN,jV,ak,ap,aS,ht,hS,h1,h2,hys,aj ha,getD_at hy,ey,he,dC,bT]
     rw[aj (show(0:Int)<((x::r).length:Int) by simp)]
     rfl
    .simp only[rY,lQ,hd,F.cj,he,List.isEmpty_cons,dt,bT,ak,aj ha]
     rfl
 .have ht:F.eM L a=false:=aH ha
  have hd:L.drop a=[]:=qr (by omega)
  cases ls with
  | nil=>
   left
   refine⟨(.ret,⟨[(6,vB false)],[(901,⟨true,0,0,[[vI fr,vI tt, .e0,vI ro,vB be,vB af]]⟩),(900,⟨true,0,0,[[.sl (L.map aC),vI (a+1:Nat)]]⟩)]⟩),?_,?_,by simp,rfl⟩
   .show((exec mp (aw f79 0) (J8 L fr tt ro be af a)).bind _).val=_
    rw[Tx]
    simp only[kc,uY,rz,mm,ar,jV,ak,ap,ht,h1,h2,dt,bT]
    try rfl
   .simp only[rY,lQ,hd,F.cj,agT,ak]
    rfl
  | cons x r=>
   left
   refine⟨(.exit 0,⟨[],[(901,⟨true,0,0,[[vI fr,vI tt, .own 69,vI ro,vB be,vB af]]⟩),(900,⟨true,0,0,[[.sl (L.map aC),vI a]]⟩),(69,⟨false,9,1,(x::r).map aC⟩)]⟩),?_,?_,by simp,rfl⟩
   .show((exec mp (aw f79 0) (vc L fr tt ro be af (x::r) a)).bind _).val=_
    rw[J9]
    simp only[kc,uY,rz,mm,ar,aN,jV,ak,ap,aS,ht,h1,h2,dt,bT]
    have e0:(((x::r).length:Int)==0)=false:=by rw[beq_eq_false_iff_ne];simp;omega
    rw[e0]
    rfl
   .simp only[rY,lQ,hd,F.cj,List.isEmpty_cons,ap,aH ha]
    rfl
theorem aBI:(eu mp [] f79 [.ptr 900 0 0, .ptr 901 0 0, .fn 80 []] [(901,⟨true,0,0,[[vI fr,vI tt, .e0,vI ro,vB be,vB af]]⟩),(900,⟨true,0,0,[[.sl (L.map aC),vI a]]⟩)]).val =
 ai (ac Bb (St.mk [(2,AV.fn (80:FuncId) []),(1, .ptr 901 0 0),(0, .ptr 900 0 0)] [(901,ah.mk true 0 0 [[(vI fr),(vI tt),AV.e0,(vI ro),(vB be),(vB
 af)]]),(900,ah.mk true 0 0 [[AV.sl (ab aC L),(vI (↑a:Int))]])])) fun z=>(fun(q:Bool×List
 ByteArray×Nat)=>(fun(q_1:List ByteArray)=>(fun(q_2:Nat)=>(fun(q_3:List AV)=>(fun(q_4:Nat×ah)=>(fun(q_5:Heap×List Nat)=>(fun(q_6:Option
 (AV×Heap×List Nat))=>bif F.fZ z.1&&decide (z.2.2.2.2.2.2<=200001)&&true then bif q.fst then bif decide (q_2<ae z.1) then
 q_6 else q_6 else bif lQ q_1 then some ((vB false),[(901,ah.mk true 0 0 [(vI z.2.1)::(vI z.2.2.1)::AV.e0::q_3]),q_4],[]) else some ((vB false),
 q_5) else none) (some ((vB true),q_5))) ([(901,ah.mk true 0 0 [(vI z.2.1)::(vI z.2.2.1) :: .own 0::q_3]),q_4,(0,ah.mk false 9 1 (ab aC q_1))],
 [])) (900,ah.mk true 0 0 [[AV.sl (ab aC z.1),(vI (↑q_2:Int))]])) [(vI z.2.2.2.1),(vB z.2.2.2.2.1),(vB z.2.2.2.2.2.1)])
 q.snd.snd) q.snd.fst) (F.cj (bn z.2.2.2.2.2.2 z.1) [] z.2.2.2.2.2.2):=(lD).symm.trans (by kernel_rfl)
def EX:List AV×Heap:=([.ptr 900 0 0, .ptr 901 0 0, .fn 80 []],[(901,⟨true,0,0,[[vI fr,vI tt, .e0,vI ro,vB be,vB af]]⟩),(900,⟨true,0,0,[[.sl (L.map aC),vI a]]⟩)])
def Bc (a:(List ByteArray)×Int×Int×Int×Bool×Bool×Nat):List AV×Heap:=EX a.1 a.2.1 a.2.2.1 a.2.2.2.1 a.2.2.2.2.1 a.2.2.2.2.2.1 a.2.2.2.2.2.2
theorem aBJ a a' (h:Bc a=Bc a'):a=a':=by
 simp only[Bc,EX]at h
 try simp[iL]at h
 grind
theorem EY:ac Bc (([.ptr 900 0 0, .ptr 901 0 0,AV.fn (80:FuncId) []],[(901,ah.mk true 0 0 [[(vI fr),(vI tt),AV.e0,(vI ro),(vB be),(vB af)]]),(900,ah.mk true 0 0 [[AV.sl
 (ab aC L),(vI (↑a:Int))]])]))=some (L,fr,tt,ro,be,af,a):=ax aBJ (L,fr,tt,ro,be,af,a) rfl
def Ty: T (AV × Heap × List Nat) := .bM (F.cj (L.drop a) [] a).1
      (.ret (vB true, [(901, ⟨true, 0, 0, [[vI fr, vI tt, .own 0, vI ro, vB be, vB af]]⟩), (900, ⟨true, 0, 0, [[.sl (L.map aC), vI (F.cj (L.drop a) [] a).2.2]]⟩), (0, ⟨false, 9, 1, (F.cj (L.drop a) [] a).2.1.map aC⟩)], []))
      (.bM (lQ (F.cj (L.drop a) [] a).2.1)
        (.ret (vB false, [(901, ⟨true, 0, 0, [[vI fr, vI tt, .e0, vI ro, vB be, vB af]]⟩), (900, ⟨true, 0, 0, [[.sl (L.map aC), vI (F.cj (L.drop a) [] a).2.2]]⟩)], []))
        (.ret (vB false, [(901, ⟨true, 0, 0, [[vI fr, vI tt, .own 0, vI ro, vB be, vB af]]⟩), (900, ⟨true, 0, 0, [[.sl (L.map aC), vI (F.cj (L.drop a) [] a).2.2]]⟩), (0, ⟨false, 9, 1, (F.cj (L.drop a) [] a).2.1.map aC⟩)], [])))
def aeq (fr:Int) (tt:Int) (ro:Int) (be:Bool) (af:Bool) (a:Nat):Bool:=F.fZ L&&decide (a<=200001)
end
def aer:fT:=rq 79 Bc (fun a=>aeq a.1 a.2.1 a.2.2.1 a.2.2.2.1 a.2.2.2.2.1 a.2.2.2.2.2.1 a.2.2.2.2.2.2) fun a=>Ty a.1 a.2.1 a.2.2.1 a.2.2.2.1 a.2.2.2.2.1 a.2.2.2.2.2.1 a.2.2.2.2.2.2
theorem aBK:fX Tryz.prog au aer:=by
 refine ajE (mv:=[]) f79 (by kernel_rfl) (by kernel_rfl) aBE mixed (de (x0:=aw f79 0) (by kernel_rfl) (bS ?_)) ?_
 .rintro⟨L,fr,tt,ro,be,af,a⟩ hp
  exact aBH L fr tt ro be af a hp
 rintro⟨L,fr,tt,ro,be,af,a⟩ r0 hpre hok hokh hr0
 show(eu mp [] _ (EX _ _ _ _ _ _ _).1 (EX _ _ _ _ _ _ _).2).val=some r0
 replace hr0:(Ty _ _ _ _ _ _ _).val=some r0:=hr0
 unfold Ty at hr0
 unfold EX
 rw[aBI]
 simp only[aeq,aG]at hpre
 obtain⟨h1,h2⟩:=hpre
 rw[<-hr0]
 simp only[aBC,ar,ak,aS,h1,h2]
 clear hr0 hok hokh
 generalize F.cj (bn a L) [] a=b
 obtain⟨b1,b2,b3⟩:=b
 cases b1
 .cases lQ b2<;>rfl
 .cases decide (b3<L.length)<;>rfl
end M
namespace F
def da:ByteArray:=⟨⟨[46]⟩⟩
def nh:ByteArray:=⟨⟨[87,69,66,86,84,84]⟩⟩
def p8 (s:ByteArray):Bool:=(gi s da).2.2.2&&A9 (gi s da).2.2.1
def oW (s:ByteArray) (ls:List ByteArray):ay:=⟨(gi s da).1,(gi s da).2.1,ls,uZ (gi s da).2.2.1,u7 (gi s da).2.2.1,u9 (gi s da).2.2.1⟩
def fv (L:List ByteArray):Nat->List ay->Nat->Bool×List ay×Nat
 | 0,out,a=>(true,out,a)
 | f+1,out,a=>
  bif eM L a then
   bif p8 (ft L a) then
    bif (cj (L.drop (a+1)) [] (a+1)).1 then
     fv L f (out++[oW (ft L a) (cj (L.drop (a+1)) [] (a+1)).2.1]) ((cj (L.drop (a+1)) [] (a+1)).2.2+lead (L.drop (cj (L.drop (a+1)) [] (a+1)).2.2))
    else (false,[],(cj (L.drop (a+1)) [] (a+1)).2.2)
   else (false,[],a+1)
  else (true,out,a)
theorem Tz : ∀(M acc:List ByteArray) (a:Nat),a<=(cj M acc a).2.2
 | [],acc,a=>by
  rw[cj]
  cases acc.isEmpty<;>simp
 | x::r,acc,a=>by
  rw[cj]
  have:=Tz r (acc++[fW x]) (a+1)
  cases emp x && !acc.isEmpty
  .cases ng x
   .simp
   .simp only[ap,ak];omega
  .simp
theorem aes : ∀(M acc:List ByteArray) (a:Nat),(cj M acc a).1=true->(cj M acc a).2.2<=a+M.length
 | [],acc,a,h=>by
  rw[cj]at h ⊢
  cases he:acc.isEmpty
  .simp
  .rw[he]at h;cases h
 | x::r,acc,a,h=>by
  rw[cj]at h ⊢
  have:=aes r (acc++[fW x]) (a+1)
  cases he:emp x && !acc.isEmpty
  .rw[he]at h
   cases hl:ng x
   .rw[hl]at h;cases h
   .rw[hl]at h
    simp only[ap,ak,gq]at h ⊢
    have:=this h
    omega
  .simp
theorem aet (L:List ByteArray) : ∀(f g:Nat) (out:List ay) (a:Nat),L.length<f+a->L.length<g+a->fv L f out a=fv L g out a
 | 0,0,out,a,_,_=>rfl
 | 0,g+1,out,a,h,_=>by
  have ht:eM L a=false:=aH (by omega)
  rw[fv,fv,ht];rfl
 | f+1,0,out,a,_,h=>by
  have ht:eM L a=false:=aH (by omega)
  rw[fv,fv,ht];rfl
 | f+1,g+1,out,a,h1,h2=>by
  have hb:=Tz (L.drop (a+1)) [] (a+1)
  rw[fv,fv]
  rw[aet L f g _ _ (by omega) (by omega)]
def EZ (L:List ByteArray):Bool:=eM L 0&&seq (ft L 0) nh
def ni (L:List ByteArray):Bool:=((lead (L.drop 1):Int)==0)&&eM L 1
def ga (L:List ByteArray):Bool×List ay×Nat:=
 bif EZ L then (bif ni L then (false,[],2) else fv L (L.length+1 - (1+lead (L.drop 1))) [] (1+lead (L.drop 1))) else (false,[],1)
end F
namespace M
theorem aBL (s:ByteArray) (ls:List ByteArray):aq (F.oW s ls)=[vI (F.cW s F.da).1,vI (F.cW (F.cC (F.cW s F.da).2.1 F.arrow).1 F.da).1, .sl (ls.map aC),vI (F.uZ (F.cW (F.cC (F.cW s F.da).2.1 F.arrow).1 F.da).2.1),vB (F.u7 (F.cW (F.cC (F.cW s F.da).2.1 F.arrow).1 F.da).2.1),vB (F.u9 (F.cW (F.cC (F.cW s F.da).2.1 F.arrow).1 F.da).2.1)]:=by
 simp only[aq,F.oW,F.gi]
section
variable (L:List ByteArray) (out:List ay) (a:Nat)
def E0:St:=⟨[(7, .own 7),(0, .ptr 900 0 0)],[(900,⟨true,0,0,[[.sl (L.map aC),vI a]]⟩),(7,⟨false,129,6,out.map aq⟩)]⟩
def Bd (a:(List ByteArray)×(List ay)×Nat):St:=E0 a.1 a.2.1 a.2.2
theorem aBM a a' (h:Bd a=Bd a'):a=a':=by
 simp only[Bd,E0]at h
 try simp[iL,dT]at h
 grind
theorem aBN: ac Bd (St.mk [(7, .own 7),(0, .ptr 900 0 0)] [(900,ah.mk true 0 0 [[AV.sl (ab aC L),(vI (↑a:Int))]]),(7,ah.mk false 129 6 [])])=some (L,[],a):=ax aBM (L,[],a) rfl
def rZ: T (Ex × St) := .bM (F.fv L (L.length + 1 - a) out a).1
      (.ret (.exit 0, ⟨[(7, .own 7)], [(900, ⟨true, 0, 0, [[.sl (L.map aC), vI (F.fv L (L.length + 1 - a) out a).2.2]]⟩), (7, ⟨false, 129, 6, (F.fv L (L.length + 1 - a) out a).2.1.map aq⟩)]⟩))
      (.ret (.ret, ⟨[(3, vB false), (2, .own 2)], [(900, ⟨true, 0, 0, [[.sl (L.map aC), vI (F.fv L (L.length + 1 - a) out a).2.2]]⟩), (2, ⟨false, 129, 6, []⟩)]⟩))
def TA:Bool:=F.fZ L&&decide (a<=200001)&&decide (out.length<=a)
def aBO:Nat×(St->T (Ex×St)):=(9,lpo [7,0] [900,7] Bd (bU TA) (bU rZ))
def E1:Env:=bq ty au bp [J0] [adZ,Ti,adV,ael,aer] [2] [aBO]
theorem aBP:aZ Tryz.prog E1:=by
 refine mU m6 mY ?_ ?_
 .simp only[gQ]
  exact⟨Tg,by simp⟩
 .simp only[gQ]
  exact⟨aA5,adX,aAS,aBA,aBK,by simp⟩
theorem E2:((exec E1 (aw f36 0) (E0 L out a)).bind (bE ([7,0],[900,7]) ([7],[900,7]) ([3,2],[900,2]))).val =
 (fun(q:List AV)=>(fun(q_1:List (Nat×ah))=>(fun(q_2:List (Nat×AV))=>(fun(q_3:List AV)=>(fun(q_4:Nat×ah)=>ai (ac oR [AV.bD
 [AV.sl (ab aC L),(vI (↑a:Int))] (0:Nat)]) fun z=>bif F.eM z.1 z.2 then ai (ac oS (q,[q_4])) fun z=>(fun(q_5:Nat×ah)=>(fun(q_6:Option (Ex×St))=>bif F.fZ z.1&&decide (z.2<=200001) then ai (ac AT ((vS
 (F.ft z.1 z.2))::(vS ⟨⟨[46]⟩⟩)::q,[(900,ah.mk true 0 0 [(vI 0)::(vI 0)::q_3])])) fun z=>(fun(q_7:Int×ByteArray×Bool)=>bif F.small z.1&&decide (aJ z.2=(1:Nat)) then bif !!((F.cW z.1 z.2).snd.snd&&(F.cC
 (F.cW z.1 z.2).snd.fst F.arrow).snd&&q_7.snd.snd) then ai (ac Ba ((vS q_7.snd.fst)::q,[(900,ah.mk true 0 0 [(vI (F.cW z.1 z.2).fst)::(vI
 q_7.fst)::q_3])])) fun z=>bif F.small z.1 then bif !!F.A9 z.1 then ai (ac Bc ([.ptr 900 0 0, .ptr 901 0 0,AV.fn (80 :
 Nat) []],[(901,ah.mk true 0 0 [[(vI z.2.1),(vI z.2.2),AV.e0,(vI (F.uZ z.1)),(vB (F.u7 z.1)),(vB (F.u9 z.1))]]),q_5])) fun z=>(fun(q_8:Bool×List ByteArray×Nat)=>(fun(q_9:List ByteArray)=>(fun(q_10:Nat×ah)=>(fun(q_11 :
 Option (Ex×St))=>bif F.fZ z.1&&decide (z.2.2.2.2.2.2<=200001) then bif q_8.fst then bif aP ((ae (ab aq out)+1)*56) 140737488355328&&true then ai (ac uT (q,[q_10])) fun z_1=>bif F.fZ z_1.1&&decide
 (z_1.2<=200001) then some (Ex.normal,St.mk [(7, .own 7),(0, .ptr 900 0 0)] [(900,ah.mk true 0 0 [[AV.sl (ab aC z_1.1),(vI (↑(z_1.2+F.lead
 (bn z_1.2 z_1.1)):Int))]]),(7,ah.mk false 129 6 (ab aq out++[[(vI z.2.1),(vI z.2.2.1),AV.sl (ab aC q_9),(vI
 z.2.2.2.1),(vB z.2.2.2.2.1),(vB z.2.2.2.2.2.1)]]))]) else none else none else bif lQ q_9 then q_11 else q_11 else none) (some (Ex.ret,
 St.mk q_2 (q_10::q_1)))) (900,ah.mk true 0 0 [[AV.sl (ab aC z.1),(vI (↑q_8.snd.snd:Int))]])) q_8.snd.fst) (F.cj (bn z.2.2.2.2.2.2
 z.1) [] z.2.2.2.2.2.2) else q_6 else none else q_6 else none) (F.cW (F.cC (F.cW z.1 z.2).snd.fst F.arrow).fst z.2) else none) (some (Ex.ret,St.mk
 q_2 (q_5::q_1)))) (900,ah.mk true 0 0 [[AV.sl (ab aC z.1),(vI (↑(z.2+1):Int))]]) else some (Ex.exit (0:Nat),St.mk [(7, .own 7)] [q_4,(7,
 ah.mk false 129 6 (ab aq out))])) (900,ah.mk true 0 0 [[AV.sl (ab aC L),(vI (↑a:Int))]])) [AV.e0,(vI 0),(vB false),(vB false)]) [(3,(vB
 false)),(2, .own 2)]) [(2,ah.mk false 129 6 [])]) [.ptr 900 0 0]:=(cr _ _ _).symm.trans (by kernel_rfl)
theorem aBQ (hp:TA L out a=true) : ∀ex s',(rZ L out a).val=some (ex,s')->ba E1 (aw f36 0) (E0 L out a) ex s':=by
 simp only[TA,aG,aM]at hp
 obtain⟨⟨h1,h2⟩,h3⟩:=hp
 have hL:L.length<=200001/\L.all F.small=true:=by simpa[F.fZ]using h1
 refine cE (st:=fun b:List ay×Nat=>E0 L b.1 b.2) (out:=fun b=>rZ L b.1 b.2) (I:=fun b=>b.2<=200001/\b.1.length<=b.2) (n:=([7,0],[900,7])) (e:=([7],[900,7])) (r:=([3,2],[900,2])) (fun b=>L.length+1 - b.2) ?_ (out,a) ⟨h2,h3⟩
 rintro⟨out,a⟩ ⟨i1,i2⟩
 simp only at i1 i2
 have iu : ∀k,F.small (F.ft L k)=true:=fun k=>by
  unfold F.ft F.eM
  by_cases hk:k<L.length
  .rw[aj hk,ak]
   have hy:L[k]? = some L[k]:=bC hk
   rw[getD_at hy]
   exact bP.1 hL.2 _ (cL hy)
  .rw[aH hk];rfl
 have ec:(⟨⟨[46]⟩⟩:ByteArray)=F.da:=rfl
 have e1:decide (F.da.size=1)=true:=rfl
 cases ht:F.eM L a
 .left
  refine⟨(.exit 0,⟨[(7, .own 7)],[(900,⟨true,0,0,[[.sl (L.map aC),vI a]]⟩),(7,⟨false,129,6,out.map aq⟩)]⟩),?_,?_,by simp,rfl⟩
  .rw[E2]
   simp only[kc,AX,mm,EJ,EW,EY,ar,aN,ap,aS,ht]
  .have:F.fv L (L.length+1 - a) out a=(true,out,a):=by
    cases L.length+1 - a with
    | zero=>rfl
    | succ f=>rw[F.fv,ht];rfl
   simp only[rZ,this]
   rfl
 have ha:a<L.length:=by simpa[F.eM]using ht
 obtain⟨f,hf⟩ : ∃f,L.length+1 - a=f+1:=⟨L.length - a,by omega⟩
 have h2:decide (a<=200001)=true:=aj i1
 have h2':decide (a+1<=200001)=true:=aj (by omega)
 have hrs:F.small (F.gi (F.ft L a) F.da).2.2.1=true:=F.uS (iW (KG _ _) (iW (Ky _ _) (KG _ _))) (of_decide_eq_true (iu a))
 have failT:F.p8 (F.ft L a)=false->(rZ L out a).val=some (.ret,⟨[(3,vB false),(2, .own 2)],[(900,⟨true,0,0,[[.sl (L.map aC),vI (a+1:Nat)]]⟩),(2,⟨false,129,6,[]⟩)]⟩):=fun w=>by
  simp only[rZ,hf,F.fv,ht,w,ak,ap]
  rfl
 cases hg:(F.gi (F.ft L a) F.da).2.2.2
 .left
  refine⟨_,?_,failT (by unfold F.p8;rw[hg];rfl),by simp,rfl⟩
  simp only[F.gi]at hg
  rw[E2]
  simp only[kc,AX,mm,EJ,EW,EY,ar,aN,ak,ap,aS,fM,ht,hg,h1,h2,h2',iu,ec,e1,bT,dC,dt]
  try rfl
 cases hm:F.A9 (F.gi (F.ft L a) F.da).2.2.1
 .left
  refine⟨_,?_,failT (by unfold F.p8;rw[hg,hm];rfl),by simp,rfl⟩
  simp only[F.gi]at hg hm hrs
  rw[E2]
  simp only[kc,AX,mm,EJ,EW,EY,ar,aN,ak,ap,aS,fM,ht,hg,hm,hrs,h1,h2,h2',iu,ec,e1,bT,dC,dt]
  done
 have hok:F.p8 (F.ft L a)=true:=by unfold F.p8;rw[hg,hm];rfl
 have hg':=hg
 have hm':=hm
 have hrs':=hrs
 simp only[F.gi]at hg' hm' hrs'
 cases hb:(F.cj (L.drop (a+1)) [] (a+1)).1
 .left
  refine⟨(.ret,⟨[(3,vB false),(2, .own 2)],[(900,⟨true,0,0,[[.sl (L.map aC),vI (F.cj (L.drop (a+1)) [] (a+1)).2.2]]⟩),(2,⟨false,129,6,[]⟩)]⟩),?_,?_,by simp,rfl⟩
  .rw[E2]
   simp only[kc,AX,mm,EJ,EW,EY,ar,aN,ak,ap,aS,fM,ht,hg',hm',hrs',hb,h1,h2,h2',iu,ec,e1,bT,dC,dt]
   cases lQ (F.cj (L.drop (a+1)) [] (a+1)).2.1<;>rfl
  .simp only[rZ,hf,F.fv,ht,hok,hb,ak,ap]
   rfl
 .right
  have b1:=F.Tz (L.drop (a+1)) [] (a+1)
  have b2:=F.aes (L.drop (a+1)) [] (a+1) hb
  rw[fe]at b2
  have b3:=Ux (L.drop (F.cj (L.drop (a+1)) [] (a+1)).2.2)
  rw[fe]at b3
  have h4:decide ((F.cj (L.drop (a+1)) [] (a+1)).2.2<=200001)=true:=aj (by omega)
  refine⟨(out++[F.oW (F.ft L a) (F.cj (L.drop (a+1)) [] (a+1)).2.1],(F.cj (L.drop (a+1)) [] (a+1)).2.2+F.lead (L.drop (F.cj (L.drop (a+1)) [] (a+1)).2.2)),?_,rfl,⟨by simp only;omega,by simp;omega⟩,by simp only;omega,?_⟩
  .rw[E2]
   simp only[kc,AX,mm,EJ,EW,EY,ar,aN,ak,aS,ht,hg',hm',hrs',hb,h1,h2,h2',h4,iu,ec,e1,bT,dC,dt]
   have em:out.map aq++[[vI (F.cW (F.ft L a) F.da).1,vI (F.cW (F.cC (F.cW (F.ft L a) F.da).2.1 F.arrow).1 F.da).1, .sl ((F.cj (L.drop (a+1)) [] (a+1)).2.1.map aC),vI (F.uZ (F.cW (F.cC (F.cW (F.ft L a) F.da).2.1 F.arrow).1 F.da).2.1),vB (F.u7 (F.cW (F.cC (F.cW (F.ft L a) F.da).2.1 F.arrow).1 F.da).2.1),vB (F.u9 (F.cW (F.cC (F.cW (F.ft L a) F.da).2.1 F.arrow).1 F.da).2.1)]]=(out++[F.oW (F.ft L a) (F.cj (L.drop (a+1)) [] (a+1)).2.1]).map aq:=by
    rw[l7,List.map_cons,sD,aBL]
   rw[em,cg (show(out.length+1)*56<=140737488355328 by omega)]
   rfl
  .have key:=F.aet L (L.length+1 - ((F.cj (L.drop (a+1)) [] (a+1)).2.2+F.lead (L.drop (F.cj (L.drop (a+1)) [] (a+1)).2.2))) f (out++[F.oW (F.ft L a) (F.cj (L.drop (a+1)) [] (a+1)).2.1]) ((F.cj (L.drop (a+1)) [] (a+1)).2.2+F.lead (L.drop (F.cj (L.drop (a+1)) [] (a+1)).2.2)) (by omega) (by omega)
   simp only[rZ,hf,F.fv,ht,hok,hb,ak,key]
theorem aBR:(eu E1 [] f36 [.ptr 900 0 0] [(900,⟨true,0,0,[[.sl (L.map aC),vI 0]]⟩)]).val =
 (fun(q:List (Nat×ah))=>(fun(q_1:AV)=>(fun(q_2:List (Nat×AV))=>ai (ac oS ([.ptr 900 0 0],[(900,ah.mk true 0 0 [[AV.sl (ab aC
 L),(vI 0)]])])) fun z=>(fun(q_3:Nat×ah)=>bif F.fZ z.1&&decide (z.2<=200001) then bif bif !F.eM z.1 z.2
 then true else !cU (F.ft z.1 z.2)==cU (az (aA [(87:UInt8),(69:UInt8),(66:UInt8),(86:UInt8),(84:UInt8),(84
 : UInt8)])) then some (q_1,q_3::q,[]) else ai (ac uT ([.ptr 900 0 0],[q_3])) fun z=>(fun(q_4:List AV)=>(fun(q_5 :
 Option (AV×Heap×List Nat))=>bif F.fZ z.1&&decide (z.2<=200001) then bif (↑(F.lead (bn z.2 z.1)):Int)==0 then ai
 (ac oR [AV.bD q_4 (0:Nat)]) fun z_1=>bif F.eM z_1.1 z_1.2 then some (q_1,(900,ah.mk true 0 0 [[AV.sl (ab aC z.1),
 (vI (am.wrap ((↑(z.2+F.lead (bn z.2 z.1)):Int)+1)))]])::q,[]) else q_5 else q_5 else none) (ai (ac Bd (St.mk
 q_2 [(900,ah.mk true 0 0 [q_4]),(7,ah.mk false 129 6 [])])) fun z=>bif F.fZ z.1&&decide (z.2.2<=200001) &&
 decide (ae z.2.1<=z.2.2)&&true then bif (F.fv z.1 (ae z.1+1 - z.2.2) z.2.1 z.2.2).fst then some (AV.aF [.own 0,
 (vB true)],[(900,ah.mk true 0 0 [[AV.sl (ab aC z.1),(vI (↑(F.fv z.1 (ae z.1+1 - z.2.2) z.2.1 z.2.2).snd.snd:Int))]]),
 (0,ah.mk false 129 6 (ab aq (F.fv z.1 (ae z.1+1 - z.2.2) z.2.1 z.2.2).snd.fst))],[]) else some (q_1,(900,ah.mk true 0 0
 [[AV.sl (ab aC z.1),(vI (↑(F.fv z.1 (ae z.1+1 - z.2.2) z.2.1 z.2.2).snd.snd:Int))]])::q,[]) else none)) [AV.sl
 (ab aC z.1),(vI (↑(z.2+F.lead (bn z.2 z.1)):Int))] else none) (900,ah.mk true 0 0 [[AV.sl (ab aC z.1),(vI (↑(z.2+1) :
 Int))]])) [(7, .own 7),(0, .ptr 900 0 0)]) (AV.aF [.own 0,(vB false)])) [(0,ah.mk false 129 6 [])]:=(lD).symm.trans (by kernel_rfl)
def E3:List AV×Heap:=([.ptr 900 0 0],[(900,⟨true,0,0,[[.sl (L.map aC),vI 0]]⟩)])
def Be (a:(List ByteArray)):List AV×Heap:=E3 a
theorem aBS a a' (h:Be a=Be a'):a=a':=by
 simp only[Be,E3]at h
 try simp[iL]at h
 grind
theorem aBT:ac Be (([.ptr 900 0 0],[(900,ah.mk true 0 0 [[AV.sl (ab aC L),(vI (0:Int))]])]))=some (L):=ax aBS (L) rfl
def TB:AV×Heap×List Nat:=(.aF [.own 0,vB (F.ga L).1],[(900,⟨true,0,0,[[.sl (L.map aC),vI (F.ga L).2.2]]⟩),(0,⟨false,129,6,(bif (F.ga L).1 then (F.ga L).2.1 else []).map aq⟩)],[])
def aeu:Bool:=F.fZ L
end
def aev:fT:=jI 36 Be (fun a=>aeu a) fun a=>TB a
theorem aBU:fX Tryz.prog au aev:=by
 refine mX (mv:=[]) f36 (by kernel_rfl) (by kernel_rfl) aBP mixed (de (x0:=aw f36 0) (by kernel_rfl) (bS ?_)) ?_
 .rintro⟨L,out,a⟩ hp
  exact aBQ L out a hp
 rintro L hpre hok hokh
 show(eu E1 [] _ (E3 _).1 (E3 _).2).val=some (TB _)
 unfold E3 TB
 rw[aBR]
 simp only[aeu]at hpre
 have hL:L.length<=200001/\L.all F.small=true:=by simpa[F.fZ]using hpre
 have b3:=Ux (L.drop 1)
 rw[fe]at b3
 have u0:ac oS ([.ptr 900 0 0],[(900,⟨true,0,0,[[.sl (L.map aC),vI 0]]⟩)])=some (L,0):=mm L 0
 have eW:(⟨⟨[87,69,66,86,84,84]⟩⟩:ByteArray)=F.nh:=rfl
 have es : ∀x y:ByteArray,(x.toList==y.toList)=F.seq x y:=fun _ _=>rfl
 simp only[kc,AX,aBN,ar,ak,aS,fM,hpre,u0,eW,es,cf,decide_true,bT,F.ga,F.EZ,F.ni,gD]
 cases hA:F.eM L 0
 .simp only[dt,ak,ap,qD,sD]
  try rfl
 cases hB:F.seq (F.ft L 0) F.nh
 .simp only[dt,dC,ak,ap,fM,sD]
  try rfl
 have hA1:1<=L.length:=by
  have:(0:Nat)<L.length:=by simpa[F.eM]using hA
  omega
 have q1:decide (1<=200001)=true:=rfl
 have q2:decide (1+F.lead (L.drop 1)<=200001)=true:=aj (by omega)
 have q3:decide (([]:List ay).length<=1+F.lead (L.drop 1))=true:=aj (cf _)
 simp only[dC,ak,ap,bT,q1,q2,q3]
 by_cases hl:F.lead (L.drop 1)=0
 .rw[hl]
  have e0:(((0:Nat):Int)==0)=true:=rfl
  have e1:am.wrap (((1+0:Nat):Int)+1)=2:=rfl
  simp only[e0,e1,jP,ak,fM]
  cases F.eM L 1
  .simp only[ap]
   generalize F.fv L (L.length+1 - 1) [] 1=q
   obtain⟨q1,q2,q3⟩:=q
   cases q1<;>rfl
  .simp only[ak]
   try rfl
 .have e0:((F.lead (L.drop 1):Int)==0)=false:=by rw[beq_eq_false_iff_ne];omega
  simp only[e0,ap,qD]
  generalize F.fv L (L.length+1 - (1+F.lead (L.drop 1))) [] (1+F.lead (L.drop 1))=q
  obtain⟨q1,q2,q3⟩:=q
  cases q1<;>rfl
end M
end Go.Proofs.YtaobkfpnebbohaaGreatDoor
namespace Go.Proofs.YtaobkfpnebbohaaGreatDoor
open Go Go.RowKit
set_option linter.unusedVariables false
set_option linter.unusedSimpArgs false
set_option maxHeartbeats 1000000
namespace F
theorem aew : ∀(M acc:List ByteArray) (a:Nat),kM M=true->kM acc=true->kM (cj M acc a).2.1=true
 | [],acc,a,_,h=>by
  rw[cj]
  cases acc.isEmpty<;>exact h
 | x::r,acc,a,hM,h=>by
  have hM:(small x&&kM r)=true:=hM
  rw[aG]at hM
  rw[cj]
  have hx:small (fW x)=true:=uS (aeg x) (of_decide_eq_true hM.1)
  have ih:=aew r (acc++[fW x]) (a+1) hM.2 (by unfold kM at h ⊢;rw[List.all_append,h];simp[hx])
  cases emp x && !acc.isEmpty
  .cases ng x
   .exact h
   .exact ih
  .exact h
theorem aBV {L:List ByteArray} (h:kM L=true) (k:Nat):kM (L.drop k)=true:=
 bP.2 fun x hx=>bP.1 h x (List.mem_of_mem_drop hx)
theorem aex {L:List ByteArray} (hL:kM L=true) : ∀(f:Nat) (out:List ay) (a:Nat),gh out=true->gh (fv L f out a).2.1=true
 | 0,out,a,h=>h
 | f+1,out,a,h=>by
  have hb:=aew (L.drop (a+1)) [] (a+1) (aBV hL _) rfl
  have ih:=aex hL f (out++[oW (ft L a) (cj (L.drop (a+1)) [] (a+1)).2.1]) ((cj (L.drop (a+1)) [] (a+1)).2.2+lead (L.drop (cj (L.drop (a+1)) [] (a+1)).2.2)) (by
   unfold gh at h ⊢
   rw[List.all_append,h]
   simp[oW,hb])
  rw[fv]
  cases eM L a
  .exact h
  cases p8 (ft L a)
  .rfl
  cases(cj (L.drop (a+1)) [] (a+1)).1
  .rfl
  .exact ih
theorem aBW {L:List ByteArray} (hL:kM L=true):gh (ga L).2.1=true:=by
 unfold ga
 cases EZ L
 .rfl
 cases ni L
 .exact aex hL _ _ _ rfl
 .rfl
theorem aBX {s:ByteArray} (h:s.size<=200000):fZ (kN s)=true:=by
 unfold fZ
 rw[aG]
 refine⟨aj (by have:=anT s;omega),bP.2 fun x hx=>?_⟩
 have:=anS hx
 exact aj (by omega)
theorem aBY {L:List ByteArray} (h:fZ L=true):kM L=true:=(aG _ _▸h:decide (L.length<=200001)=true/\L.all small=true).2
def TC (q:Bool×List ay×Nat):List ay×Int×Int:=
 bif q.1 then (bif dY q.2.1 != 0 then ([],0,dY q.2.1) else (q.2.1,0,0)) else ([],(q.2.2:Int),10)
def ju (s:ByteArray):List ay×Int×Int:=bif decide (200000<s.size) then ([],0,2) else TC (ga (kN s))
end F
namespace M
def TD:Env:=bq ty au bp [] [aev] [] []
theorem aBZ:aZ Tryz.prog TD:=by
 refine mU m6 mY ?_ ?_
 .simp
 .simp only[gQ]
  exact⟨aBU,by simp⟩
section
variable (L:List ByteArray)
theorem aB0:(eu TD [] f35 [.ptr 900 0 0] [(900,⟨true,0,0,[[.sl (L.map aC),vI 0]]⟩)]).val =
 ai (ac Be ([.ptr 900 0 0],[(900,ah.mk true 0 0 [[AV.sl (ab aC L),(vI 0)]])])) fun z=>bif F.fZ z then some
 (AV.aF [.own 0,(vB (F.ga z).fst)],[(900,ah.mk true 0 0 [[AV.sl (ab aC z),(vI (↑(F.ga z).snd.snd:Int))]]),(0,ah.mk false 129 6 (ab aq (bif
 (F.ga z).fst then (F.ga z).snd.fst else [])))],[]) else none:=(lD).symm.trans (by kernel_rfl)
def E4:List AV×Heap:=([.ptr 900 0 0],[(900,⟨true,0,0,[[.sl (L.map aC),vI 0]]⟩)])
def Bf (a:(List ByteArray)):List AV×Heap:=E4 a
theorem aB1 a a' (h:Bf a=Bf a'):a=a':=by
 simp only[Bf,E4]at h
 try simp[iL]at h
 grind
theorem aB2:ac Bf (([.ptr 900 0 0],[(900,ah.mk true 0 0 [[AV.sl (ab aC L),(vI (0:Int))]])]))=some (L):=ax aB1 (L) rfl
def TE:AV×Heap×List Nat:=(.aF [.own 0,vB (F.ga L).1],[(900,⟨true,0,0,[[.sl (L.map aC),vI (F.ga L).2.2]]⟩),(0,⟨false,129,6,(bif (F.ga L).1 then (F.ga L).2.1 else []).map aq⟩)],[])
def aey:Bool:=F.fZ L
end
def aez:fT:=jI 35 Bf (fun a=>aey a) fun a=>TE a
theorem aB3:fX Tryz.prog au aez:=by
 refine mX (mv:=[]) f35 (by kernel_rfl) (by kernel_rfl) aBZ mixed (nS (by kernel_rfl)) ?_
 rintro L hpre hok hokh
 show(eu TD [] _ (E4 _).1 (E4 _).2).val=some (TE _)
 unfold E4 TE
 rw[aB0]
 simp only[aey]at hpre
 simp only[aBT,ar,ak,hpre]
def TF:Env:=bq ty au bp [C6] [ad1,aez] [] []
theorem aB4:aZ Tryz.prog TF:=by
 refine mU m6 mY ?_ ?_
 .simp only[gQ]
  exact⟨HC,by simp⟩
 .simp only[gQ]
  exact⟨aBa,aB3,by simp⟩
section
variable (s:ByteArray)
theorem aB5:(aB TF false f34 [vS s, .fn 35 []]).val =
 bif decide ((200000:Int)<(↑(aJ s):Int)) then some (AV.aF [AV.sl [],(vI 0),(vI 2)],[]) else ai (ac AY ([(vS s)],[]))
 fun z=>bif F.small z then ai (ac Bf ([.ptr 900 0 0],[(900,ah.mk true 0 0 [[AV.sl (ab aC (F.kN z)),(vI 0)]])])) fun(z
 : List ByteArray)=>bif F.fZ z then bif !(F.ga z).fst then some (AV.aF [AV.sl [],(vI (↑(F.ga z).snd.snd:Int)),(vI 10)],[]) else ai (ac
 pG [AV.sl (ab aq (bif (F.ga z).fst then (F.ga z).snd.fst else []))]) fun z_1=>bif F.gh z_1 then bif F.dY z_1 != 0 then some (AV.aF
 [AV.sl [],(vI 0),(vI (F.dY z_1))],[]) else some (AV.aF [AV.sl (ab aq (bif (F.ga z).fst then (F.ga z).snd.fst else [])),(vI 0),(vI 0)],[]) else none else none else none:=(cm).symm.trans (by kernel_rfl)
def Ka:List AV:=[vS s, .fn 35 []]
def Bg (a:ByteArray):List AV:=Ka a
theorem aB6 a a' (h:Bg a=Bg a'):a=a':=by
 simp only[Bg,Ka]at h
 try simp at h
 grind
theorem aB7:ac Bg ([(vS s),AV.fn (35:FuncId) []])=some (s):=ax aB6 (s) rfl
def TG:AV×Heap:=(.aF [.sl ((F.ju s).1.map aq),vI (F.ju s).2.1,vI (F.ju s).2.2],[])
def aeA:Bool:=F.small s
def aeB:aW:=aY 34 false Bg aeA TG
theorem aB8:aX Tryz.prog au aeB:=by
 refine cx f34 aB4 ?_
 rintro s hpre hok
 show(aB TF false _ (Ka _)).val=some (TG _)
 unfold Ka TG
 rw[aB5]
 simp only[aeA]at hpre
 simp only[HB,aA9,aB2,ar,ak,hpre,F.ju]
 by_cases hb:200000<s.size
 .rw[aj (show(200000:Int)<s.size by omega),aj hb]
  rfl
 have hl:=F.aBX (s:=s) (by omega)
 rw[aH (show ¬(200000:Int)<s.size by omega),aH hb,hl]
 have hq:F.gh (F.ga (F.kN s)).2.1=true:=F.aBW (F.aBY hl)
 generalize F.ga (F.kN s)=q at hq
 obtain⟨q1,q2,q3⟩:=q
 simp only at hq
 simp only[F.TC,ak,ap]
 cases q1
 .rfl
 .simp only[hq,ak,ap,dC]
  cases F.dY q2 != 0<;>rfl
def TH:Env:=bq ty au bp [aeB] [] [] []
theorem aB9:aZ Tryz.prog TH:=bG (aI aB8 bF)
theorem aCa:(aB TH false f10 [vS s]).val =
 ai (ac Bg [(vS s),AV.fn (35:Nat) []]) fun z=>bif F.small z then some (AV.aF [AV.sl (ab aq (F.ju z).fst),(vI (F.ju
 z).snd.fst),(vI (F.ju z).snd.snd)],[]) else none:=(cm).symm.trans (by kernel_rfl)
def Kb:List AV:=[vS s]
def Bh (a:ByteArray):List AV:=Kb a
theorem aCb a a' (h:Bh a=Bh a'):a=a':=by
 simp only[Bh,Kb]at h
 try simp at h
 grind
theorem aCc:ac Bh ([(vS s)])=some (s):=ax aCb (s) rfl
def TJ:AV×Heap:=(.aF [.sl ((F.ju s).1.map aq),vI (F.ju s).2.1,vI (F.ju s).2.2],[])
def aeC:Bool:=F.small s
end
def aeD:aW:=aY 10 false Bh aeC TJ
theorem aCd:aX Tryz.prog au aeD:=by
 refine cx f10 aB9 ?_
 rintro s hpre hok
 show(aB TH false _ (Kb _)).val=some (TJ _)
 unfold Kb TJ
 rw[aCa]
 simp only[aeC]at hpre
 simp only[aB7,ar,ak,hpre]
end M
namespace F
def vd (s:ByteArray):ByteArray:=bif decide (200000<s.size) then ⟨⟨[]⟩⟩ else s
def E5 (s:ByteArray):Int:=bif decide (200000<s.size) then 2 else 0
def kg (c:ay):Bool:=decide (0<=c.fr)&&decide (c.fr<=359999999)&&decide (0<=c.tqq)&&decide (c.tqq<=359999999)&&decide (0<=c.row)&&decide (c.row<=15)&&decide (c.lines.length<=15)&&decide (c.lines≠[])&&iO c.lines
theorem aeE {α:Type} {f:Option α->α->Int} : ∀ {l:List α} {p:Option α},gN f p l=0 -> ∀c∈l,∃q,f q c=0
 | x::l,p,h,c,hc=>by
  rw[gN]at h
  cases hx:f p x != 0
  .rw[hx,ap]at h
   rcases cK.1 hc with rfl | hc
   .exact⟨p,by simpa using hx⟩
   .exact aeE h c hc
  .rw[hx,ak]at h
   rw[h]at hx;simp at hx
theorem aCe {q:Option ay} {c:ay} (h:lF q c=0):kg c=true:=by
 unfold lF at h
 cases h1:gY c.fr
 .cases h2:gY c.tqq
  .rw[h1,h2]at h
   simp only[FH,ap]at h
   cases h3:(le c.tqq c.fr||xz q c)
   .rw[h3,ap]at h
    cases h4:out c.row 0 15
    .rw[h4,ap]at h
     unfold tN at h
     cases h5:c.lines.isEmpty
     .rw[h5,ap]at h
      cases h6:decide (15<c.lines.length)
      .rw[h6,ap]at h
       cases h7:iO c.lines
       .rw[h7,ap]at h;cases h
       .simp only[gY,out,jQ,decide_eq_false_iff_not]at h1 h2 h4 h6
        have h8:c.lines≠[]:=by rintro e;rw[e]at h5;cases h5
        unfold kg
        rw[h7,aj h8,aj (show 0<=c.fr by omega),aj (show c.fr<=359999999 by omega),aj (show 0<=c.tqq by omega),aj (show c.tqq<=359999999 by omega),aj (show 0<=c.row by omega),aj (show c.row<=15 by omega),aj (show c.lines.length<=15 by omega)]
        rfl
      .rw[h6,ak]at h;cases h
     .rw[h5,ak]at h;cases h
    .rw[h4,ak]at h;cases h
   .rw[h3,ak]at h;cases h
  .rw[h1,h2]at h;cases h
 .rw[h1]at h;cases h
theorem aeF {l:List ay} (h:dY l=0):l.length<=500/\l.all kg=true:=by
 unfold dY at h
 cases h1:decide (500<l.length)
 .rw[h1,ap]at h
  refine⟨by simpa using h1,bP.2 fun c hc=>?_⟩
  obtain⟨q,hq⟩:=aeE h c hc
  exact aCe hq
 .rw[h1,ak]at h;cases h
theorem ve {c:ay} (h:kg c=true):0<=c.fr/\c.fr<=359999999/\0<=c.tqq/\c.tqq<=359999999/\0<=c.row/\c.row<=15/\c.lines.length<=15/\c.lines≠[] /\ ∀s∈c.lines,line s=true:=by
 unfold kg at h
 simp only[aG,aM]at h
 obtain⟨⟨⟨⟨⟨⟨⟨⟨h1,h2⟩,h3⟩,h4⟩,h5⟩,h6⟩,h7⟩,h8⟩,h9⟩:=h
 exact⟨h1,h2,h3,h4,h5,h6,h7,h8,bP.1 h9⟩
theorem TK {s:ByteArray} (h:line s=true):s.size<=200:=by
 unfold line at h
 rw[aG,aM]at h
 exact h.1
def jM (xs:List ByteArray):List UInt8:=xs.flatMap fun x=>bs x++[10]
theorem TL {c:ay} {p:ByteArray} (h:kg c=true) (hp:p.size=1):(ir c p).size=29:=by
 obtain⟨h1,h2,h3,h4,_⟩:=ve h
 have s1:(iq c.fr p).size=12:=by
  obtain⟨k,hk⟩:=nG h1
  rw[hk,HQ (by omega),hp]
 have s2:(iq c.tqq p).size=12:=by
  obtain⟨k,hk⟩:=nG h3
  rw[hk,HQ (by omega),hp]
 unfold ir
 rw[gE,gE,s1,s2]
 rfl
theorem aeG (c:UInt8) : ∀(a r:List UInt8),(∀b∈a,b≠c)->fc c (a++c::r)=a::fc c r
 | [],r,_=>by rw[eh,fc,beq_self_eq_true,ak]
 | b::a,r,h=>by
  have ih:=aeG c a r fun x hx=>h x (iH _ hx)
  rw[k6,fc,beq_eq_false_iff_ne.2 (h b (dN ..)),ap,ih]
theorem aeH : ∀(L:List ByteArray),(∀x∈L,∀b∈bs x,b≠10)->fc 10 (jM L)=L.map bs++[[]]
 | [],_=>rfl
 | x::L,h=>by
  have e:jM (x::L)=bs x++10::jM L:=by
   show(bs x++[10])++jM L=_
   rw[cq];rfl
  rw[e,aeG 10 _ _ (h x (dN ..)),aeH L fun y hy=>h y (iH _ hy)]
  rfl
theorem aCf {T:ByteArray} {L:List ByteArray} (h : ∀x∈L,∀b∈bs x,b≠10) (hT:bs T=jM L):kN T=L:=by
 have h1:(split T nl).map (·.data.toList)=L.map bs++[[]]:=by
  rw[<-aeH L h,<-hT]
  exact Om T 10
 have h2:split T nl=L++[⟨⟨[]⟩⟩]:=Zt (by rw[h1,l7];rfl)
 unfold kN
 rw[h2]
 simp only[ck,List.length_singleton,Nat.add_sub_cancel]
 have h3:(L++[(⟨⟨[]⟩⟩:ByteArray)]).getD L.length ⟨#[]⟩=⟨⟨[]⟩⟩:=by
  rw[vL,List.getElem?_append_right (bR _)]
  simp
 rw[h3,show emp (⟨⟨[]⟩⟩:ByteArray)=true from by simp[emp],ak,nH]
theorem aCg (a b:List ByteArray):jM (a++b)=jM a++jM b:=by
 unfold jM
 rw[List.flatMap_append]
theorem E6 (x:ByteArray) (b:List ByteArray):jM (x::b)=bs x++([10]++jM b):=by
 show(bs x++[10])++jM b=_
 rw[cq]
theorem aCh {b:UInt8} (h:jn b=true):b≠10:=by
 rintro rfl
 exact absurd h (by decide)
theorem aeI {t:Int} {p:ByteArray} {q:UInt8} (hp:bs p=[q]) (hq:q≠10) (h0:0<=t) (h1:t<=359999999) : ∀b∈bs (iq t p),b≠10:=by
 obtain⟨k,rfl⟩:=nG h0
 intro b hb
 rw[Ow (by omega),hp]at hb
 simp only[k6,eh,cK,B9,or_false]at hb
 have D : ∀n,n<10->dg n≠10:=fun n hn=>aCh (oP hn)
 rcases hb with rfl | rfl | rfl | rfl | rfl | rfl | rfl | rfl | rfl | rfl | rfl | rfl
 all_goals first | exact hq | exact D _ (by omega) | decide
theorem aCi {c:ay} {p:ByteArray} {q:UInt8} (hp:bs p=[q]) (hq:q≠10) (h:kg c=true) : ∀b∈bs (ir c p),b≠10:=by
 obtain⟨h1,h2,h3,h4,_⟩:=ve h
 intro b hb
 unfold ir at hb
 rw[lH,lH,dn,dn]at hb
 rcases hb with (hb | hb) | hb
 .exact aeI hp hq h1 h2 b hb
 .have hb:b∈([32,45,45,62,32]:List UInt8):=hb
  simp only[cK,B9,or_false]at hb
  rcases hb with rfl | rfl | rfl | rfl | rfl<;>decide
 .exact aeI hp hq h3 h4 b hb
theorem aeJ {s:ByteArray} (h:line s=true):(∀b∈bs s,b≠10)/\s.size≠0:=by
 unfold line C4 at h
 simp only[aG,aM]at h
 refine⟨fun b hb=>?_,h.2.1.1.1.1.1⟩
 have:=bP.1 h.2.2 b hb
 rintro rfl
 exact absurd this (by decide)
theorem take_at {L:List ByteArray} {a:Nat} {x:ByteArray} {t:List ByteArray} (h:L.drop a=x::t):eM L a=true/\ft L a=x/\L.drop (a+1)=t/\a<L.length:=by
 have hlt:a<L.length:=by
  rcases Nat.lt_or_ge a L.length with h' | h'
  .exact h'
  .rw[qr h']at h;cases h
 have h0:L[a]? = some x:=by
  have:(L.drop a)[0]? = some x:=by rw[h];rfl
  rw[sH]at this
  simpa using this
 have hB:eM L a=true:=aj hlt
 refine⟨hB,?_,?_,hlt⟩
 .unfold ft
  rw[hB,ak,vL,h0];rfl
 .have:(L.drop a).drop 1=t:=by rw[h];rfl
  rw[sE]at this
  exact this
def kP (s dS new:ByteArray):ByteArray:=⟨(UZ (bs s) (bs dS) (bs new)).toArray⟩
theorem index_hit (c:UInt8) (l:List UInt8):ja (c::l) [c]=((0:Nat):Int):=by
 rw[ja];simp[Lj]
theorem aCj (c:UInt8) (new:List UInt8) (k:Nat) (l:List UInt8):Ca [c] new (k+1) (c::l)=new++Ca [c] new k l:=by
 rw[agU [c] new k (c::l) 0 (index_hit c l)]
 rfl
theorem aCk {b c:UInt8} (h:b≠c) (new:List UInt8) (k:Nat) (l:List UInt8):Ca [c] new k (b::l)=b::Ca [c] new k l:=by
 cases k with
 | zero=>rfl
 | succ k=>
  have hp:([c]:List UInt8).isPrefixOf (b::l)=false:=by simp[Lj,Ne.symm h]
  have hix:ja (b::l) [c]=if ja l [c] == -1 then -1 else ja l [c]+1:=by rw[ja,hp];simp
  by_cases hm:ja l [c] = -1
  .rw[Ca,Ca,hix,hm]
   simp
  .have hge:=Lib.index_ge l [c]
   obtain⟨j,hj⟩ : ∃j:Nat,ja l [c]=j:=⟨(ja l [c]).toNat,by omega⟩
   have hix':ja (b::l) [c]=((j+1:Nat):Int):=by rw[hix,if_neg (fun e=>hm (beq_iff_eq.1 e)),hj];omega
   rw[agU [c] new k (b::l) (j+1) hix',agU [c] new k l j hj]
   rw[KT,show j+1+[c].length=(j+[c].length)+1 by omega,List.drop_succ_cons]
   rfl
theorem TM (c:UInt8) (new:List UInt8) : ∀l:List UInt8,Ca [c] new (Lib.count l [c]) l=l.flatMap fun b=>bif b==c then new else [b]
 | []=>by
  rw[Lib.count_one]
  rfl
 | b::l=>by
  by_cases h:b=c
  .subst h
   rw[Lib.count_cons_eq,U4,aCj,TM b new l,FM,beq_self_eq_true,ak]
  .rw[Lib.count_cons_ne b c l h,aCk h,TM c new l,FM,beq_eq_false_iff_ne.2 h,ap]
   rfl
theorem TN (s:ByteArray) (c:UInt8) (new:List UInt8) (hn:new≠[c]):bs (kP s ⟨⟨[c]⟩⟩ ⟨⟨new⟩⟩)=(bs s).flatMap fun b=>bif b==c then new else [b]:=by
 show(UZ (bs s) [c] new).toArray.toList=_
 unfold UZ Lib.replace Lib.replaceNum
 have h:([c]==new)=false:=beq_eq_false_iff_ne.2 fun e=>hn e.symm
 rw[h]
 simp only[Bool.false_eq_true,if_false]
 rw[if_pos (by omega)]
 simpa using TM c new (bs s)
def iD (s:ByteArray):ByteArray:=kP (kP s nd mo) oT nc
def kQ (b:UInt8):List UInt8:=bif b==38 then [38,97,109,112,59] else bif b==60 then [38,108,116,59] else [b]
theorem TO (s:ByteArray):bs (iD s)=(bs s).flatMap kQ:=by
 unfold iD nd mo oT nc
 rw[TN _ 60 _ (by decide),TN _ 38 _ (by decide),List.flatMap_assoc]
 congr 1
 funext b
 unfold kQ
 cases h1:b==38
 .simp only[ap,FM,List.flatMap_nil,List.append_nil]
 .simp only[ak]
  rfl
theorem aeK (b:UInt8):1<=(kQ b).length/\(kQ b).length<=5:=by
 unfold kQ
 cases b==38
 .cases b==60
  .simp
  .simp
 .simp
theorem aeL : ∀l:List UInt8,l.length<=(l.flatMap kQ).length/\(l.flatMap kQ).length<=5*l.length
 | []=>⟨bR _,bR _⟩
 | b::l=>by
  have h1:=aeK b
  have h2:=aeL l
  rw[FM,ck,gq]
  omega
theorem TP (s:ByteArray):s.size<=(iD s).size/\(iD s).size<=5*s.size:=by
 have:=aeL (bs s)
 rw[iA (iD s),TO,iA s]
 exact this
theorem aCl {s:ByteArray} (h : ∀b∈bs s,b≠10) : ∀b∈bs (iD s),b≠10:=by
 intro b hb
 rw[TO,List.mem_flatMap]at hb
 obtain⟨x,hx,hb⟩:=hb
 unfold kQ at hb
 cases h1:x==38
 .cases h2:x==60
  .rw[h1,h2]at hb
   simp only[ap,List.mem_singleton]at hb
   rw[hb];exact h x hx
  .rw[h1,h2]at hb
   simp only[ap,ak,cK,B9,or_false]at hb
   rcases hb with rfl | rfl | rfl | rfl<;>decide
 .rw[h1]at hb
  simp only[ak,cK,B9,or_false]at hb
  rcases hb with rfl | rfl | rfl | rfl | rfl<;>decide
theorem aeM {s p:ByteArray} {r:List UInt8} (h:bs s=bs p++r):eV s p=true:=by
 rw[Zv,h,iA,nH]
 simp
theorem Kc : ∀(l:List UInt8) (f:Nat) (T out:ByteArray),bs T=l.flatMap kQ->T.size<=f -> ∃o,eN f T out=some o/\bs o=bs out++l
 | [],f,T,out,hT,hf=>by
  have he:emp T=true:=by rw[lG,iA,hT];rfl
  refine⟨out,?_,by simp⟩
  cases f with
  | zero=>rfl
  | succ f=>rw[eN,he];rfl
 | b::l,f,T,out,hT,hf=>by
  rw[FM]at hT
  have hl:=aeK b
  have hz:T.size=(kQ b).length+(l.flatMap kQ).length:=by rw[iA,hT,ck]
  obtain⟨f,rfl⟩ : ∃g,f=g+1:=⟨f - 1,by omega⟩
  have he:emp T=false:=by rw[lG];exact aH (by omega)
  rw[eN,he,ap]
  by_cases h1:b=38
  .subst h1
   have hp:eV T mo=true:=aeM (p:=mo) hT
   obtain⟨o,o1,o2⟩:=Kc l f (T.extract 5 T.size) (out++nd) (by rw[uV,hT];rfl) (by rw[ke];omega)
   refine⟨o,by rw[hp,ak];exact o1,?_⟩
   rw[o2,oU,cq]
   rfl
  .by_cases h2:b=60
   .subst h2
    have hT2:bs T=[38,108,116,59]++l.flatMap kQ:=hT
    have hp5:eV T mo=false:=by
     unfold eV B3
     rw[hT2]
     rfl
    have hp:eV T nc=true:=aeM (p:=nc) hT2
    obtain⟨o,o1,o2⟩:=Kc l f (T.extract 4 T.size) (out++oT) (by rw[uV,hT2];rfl) (by rw[ke];omega)
    refine⟨o,by rw[hp5,ap,hp,ak];exact o1,?_⟩
    rw[o2,oU,cq]
    rfl
   .have hb:kQ b=[b]:=by
     unfold kQ
     rw[beq_eq_false_iff_ne.2 h1,beq_eq_false_iff_ne.2 h2]
     rfl
    rw[hb]at hT
    obtain⟨p5,p4⟩:=ad2 (s:=T) (b:=b) (r:=l.flatMap kQ) hT h1
    have hs:p7 T=false:=by
     unfold p7
     rw[hT]
     show(b==38||b==60)=false
     rw[beq_eq_false_iff_ne.2 h1,beq_eq_false_iff_ne.2 h2]
     rfl
    obtain⟨o,o1,o2⟩:=Kc l f (T.extract 1 T.size) (out++T.extract 0 1) (by rw[uV,hT];rfl) (by rw[ke];omega)
    refine⟨o,by rw[p5,ap,p4,ap,hs,ap];exact o1,?_⟩
    rw[o2,oU,J1,hT,cq]
    rfl
theorem aeN (s:ByteArray):uU (iD s)=some s:=by
 obtain⟨o,o1,o2⟩:=Kc (bs s) (iD s).size (iD s) ⟨⟨[]⟩⟩ (TO s) (bR _)
 unfold uU
 rw[o1]
 have:o=s:=rC (by rw[o2];rfl)
 rw[this]
theorem aCm {s:ByteArray} (h:line s=true):ng (iD s)=true/\fW (iD s)=s:=by
 have e:fW (iD s)=s:=by unfold fW;rw[aeN];rfl
 refine⟨?_,e⟩
 unfold ng
 rw[e,h]
 unfold oV
 rw[aeN]
 rfl
def p9 (row:Int) (b a:Bool):ByteArray:=(bif row != 0 then iv++itoa row else ⟨⟨[]⟩⟩)++(bif b then nf else ⟨⟨[]⟩⟩)++(bif a then rX else ⟨⟨[]⟩⟩)
def TQ (k:Nat):List UInt8:=bif lV k 10 then [U6 (48+k)] else [U6 (48+k / 10),U6 (48+k % 10)]
theorem aCn {k:Nat} (h:k<100):Lib.decDigits k=TQ k:=by
 unfold TQ
 by_cases h1:k<10
 .rw[Lib.decDigits_one h1,show lV k 10=true from by rw[Nat.blt_eq];exact h1];rfl
 .rw[Lib.decDigits_two h1 h,show lV k 10=false from by rw[<-Bool.not_eq_true,Nat.blt_eq];exact h1];rfl
def oX (k:Nat) (b a:Bool):List UInt8:=(bif k != 0 then [32,108,105,110,101,58]++TQ k else [])++(bif b then [32,98,101,102,111,114,101] else [])++(bif a then [32,97,102,116,101,114] else [])
theorem aeO {k:Nat} (h:k<100) (b a:Bool):bs (p9 (k:Int) b a)=oX k b a:=by
 unfold p9 oX
 rw[oU,oU]
 have e1:((k:Int) != 0)=(k != 0):=by
  by_cases hk:k=0
  .subst hk;rfl
  .rw[bne_iff_ne.2 (show(k:Int)≠0 by omega),bne_iff_ne.2 hk]
 rw[e1]
 congr 1
 .congr 1
  .cases k != 0
   .rfl
   .simp only[ak]
    rw[oU,Ov,aCn h]
    rfl
  .cases b<;>rfl
 .cases a<;>rfl
theorem aCo : ∀(k:Fin 16) (b a:Bool),A9 ⟨⟨oX k.val b a⟩⟩=true/\uZ ⟨⟨oX k.val b a⟩⟩=(k.val:Int)/\u7 ⟨⟨oX k.val b a⟩⟩=b/\u9 ⟨⟨oX k.val b a⟩⟩=a:=by decide +kernel
end F
end Go.Proofs.YtaobkfpnebbohaaGreatDoor
