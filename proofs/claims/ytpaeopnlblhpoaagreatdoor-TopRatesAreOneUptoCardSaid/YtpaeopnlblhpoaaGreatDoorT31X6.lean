/- What is proved here: the statement TopRatesAreOne where what it reads is of bulk at most 1048576: the law returns true, and each argument reads as it did; tied to the program's text where variables are listed. -/
import Derived.Lib.LaidU8
import Derived.MakeChecks
import Derived.Test.YtpaeopnlblhpoaaGreatDoorRows
import Derived.Test.YtpaeopnlblhpoaaGreatDoorChecked
import Derived.Test.YtpaeopnlblhpoaaGreatDoorCards
import Derived.Test.YtpaeopnlblhpoaaGreatDoorTie
import Derived.SevenTiedAt
import Derived.Lay
import Derived.Test.YtpaeopnlblhpoaaGreatDoorT31X5

namespace Go.Proofs.YtpaeopnlblhpoaaGreatDoor
open Go Go.RowKit
set_option linter.unusedVariables false
set_option linter.unusedSimpArgs false
set_option maxHeartbeats 1000000

def F.wSnd:ByteArray:=⟨#[115,111,117,110,100]⟩

def F.wUnd:ByteArray:=⟨#[117,110,100]⟩

def F.sndS (acc:List Snd) (r:Std):List Snd:=bif r.sound then acc++[⟨F.wSnd,r.name,F.wUnd,decide (acc.length=0),F.lstN r.name⟩] else acc

def F.snds (l:List Std):List Snd:=l.foldl F.sndS []

def F.grpS (g:ByteArray) (r:Std):ByteArray:=bif r.sound then F.wSnd else g

def F.grpN (l:List Std):ByteArray:=l.foldl F.grpS ⟨#[]⟩

noncomputable def F.strS (ss:List (List Seg)) (cs:List Scr) (g:ByteArray) (acc:List Strm) (p:Std×Nat):List Strm:=
 bif p.1.sound then acc else acc++[F.strO p.1 (ss.getD p.2 []) (cs.getD acc.length ⟨0,0⟩) g]

noncomputable def F.strs (l:List Std) (ss:List (List Seg)) (cs:List Scr) (g:ByteArray) (k:Nat):List Strm:=(l.zipIdx.take k).foldl (F.strS ss cs g) []

noncomputable def F.masO (l:List Std) (ss:List (List Seg)) (cs:List Scr):Mas:=⟨F.strs l ss cs (F.grpN l) l.length,F.snds l⟩

theorem F.snds_len : ∀(l:List Std) (acc:List Snd),(l.foldl F.sndS acc).length≤acc.length+l.length
 | [],acc=>by simp
 | r::l,acc=>by
  have:=F.snds_len l (F.sndS acc r)
  rw[List.foldl_cons,List.length_cons]
  have h:(F.sndS acc r).length≤acc.length+1:=by
   unfold F.sndS
   cases r.sound
   ·simp
   ·simp
  omega

theorem F.strs_len (l:List Std) (ss:List (List Seg)) (cs:List Scr) (g:ByteArray) : ∀k,k≤l.length→(F.strs l ss cs g k).length=F.pics (l.take k)
 | 0,_=>by simp[F.strs,F.pics]
 | k+1,hk=>by
  have ih:=F.strs_len l ss cs g k (by omega)
  have hy:l[k]? = some l[k]:=List.getElem?_eq_getElem (by omega)
  have hz:l.zipIdx[k]? = some (l[k],k):=by rw[List.getElem?_zipIdx,hy];simp
  unfold F.strs at ih ⊢
  rw[List.take_add_one,hz,List.foldl_append]
  unfold F.pics at ih ⊢
  rw[List.take_add_one,hy,List.countP_append]
  simp only[Option.toList_some,List.foldl_cons,List.foldl_nil]
  rw[←ih]
  unfold F.strS
  cases hs:(l[k]'(by omega)).sound<;>simp[hs]

theorem F.pics_lt {l:List Std} {k:Nat} {r:Std} (h:l[k]? = some r) (hs:r.sound=false):F.pics (l.take k)<F.pics l:=by
 have hlt:=M.lt_at h
 have e:l=l.take k++r::l.drop (k+1):=by
  have:=M.drop_at h
  rw[←this,List.take_append_drop]
 unfold F.pics
 conv=>rhs;rw[e]
 rw[List.countP_append,List.countP_cons,hs]
 simp only[Bool.not_false,if_true]
 omega

namespace M

noncomputable def stMof (l:List Std) (ss:List (List Seg)) (cs:List Scr):St:=⟨[(15,vI 0),(14,vI l.length),(13, .sl (l.map eStd)),(8,vS ⟨#[]⟩),(7, .ptr 7 0 0),(6, .ptr 6 0 0),(2, .sl (cs.map eScr)),(1, .sl (ss.map eL_eSeg)),(0, .sl (l.map eStd))],[(7,⟨true,0,0,[[.e0, .e0]]⟩),(6,⟨true,0,0,[[.e0, .e0]]⟩)]⟩

noncomputable def stMof1 (a:(List Std)×(List (List Seg))×(List Scr)):St:=stMof a.1 a.2.1 a.2.2

theorem stMof_inj (a a':(List Std)×(List (List Seg))×(List Scr)) (h:stMof1 a=stMof1 a'):a=a':=by
 simp only[stMof1,stMof]at h
 try simp[eL_eSegs_inj,eStds_inj,eScrs_inj]at h
 grind

theorem unstMof (l:List Std) (ss:List (List Seg)) (cs:List Scr):unenc stMof1 (St.mk [(15,(vI (0:Int))),(14,(vI (↑(List.length l):Int))),(13,AV.sl (List.map eStd l)),(8,(vS (ByteArray.mk (Array.mk [])))),(7, .ptr 7 0 0),(6, .ptr 6 0 0),
 (2,AV.sl (List.map eScr cs)),(1,AV.sl (List.map eL_eSeg ss)),(0,AV.sl (List.map eStd l))] [(7,Blk.mk true 0 0 [[AV.e0,AV.e0]]),(6,Blk.mk true 0 0 [[AV.e0,
 AV.e0]])])=some (l,ss,cs):=unenc_of stMof_inj (l,ss,cs) rfl

noncomputable def outMof (l:List Std) (ss:List (List Seg)) (cs:List Scr):T (Ex×St):= .ret (.exit 0,⟨[(8,vS (F.grpN l)),(7, .ptr 7 0 0),(6, .ptr 6 0 0),(2, .sl (cs.map eScr)),(1, .sl (ss.map eL_eSeg)),(0, .sl (l.map eStd))],[(891,⟨false,89,5,(F.snds l).map eSnd⟩),(7,⟨true,0,0,[[.e0, .own 891]]⟩),(6,⟨true,0,0,[[.e0, .e0]]⟩)]⟩)

noncomputable def prlMof (l:List Std) (ss:List (List Seg)) (cs:List Scr):Bool:=decide (l.length≤12)&&l.all fun r=>decide (r.name.size≤40)

noncomputable def lpMof:Nat×(St→T (Ex×St)):=(4,lpo [15,14,13,8,7,6,2,1,0] [7,6] stMof1 (fun a=>prlMof a.1 a.2.1 a.2.2) fun a=>outMof a.1 a.2.1 a.2.2)

def stMb (l:List Std) (ss:List (List Seg)) (cs:List Scr) (g:ByteArray) (so:List Snd) (k:Nat):St:=⟨[(15,vI k),(14,vI l.length),(13, .sl (l.map eStd)),(8,vS g),(7, .ptr 7 0 0),(6, .ptr 6 0 0),(2, .sl (cs.map eScr)),(1, .sl (ss.map eL_eSeg)),(0, .sl (l.map eStd))],[(891,⟨false,89,5,so.map eSnd⟩),(7,⟨true,0,0,[[.e0, .own 891]]⟩),(6,⟨true,0,0,[[.e0, .e0]]⟩)]⟩

noncomputable def stMo2 (l:List Std) (ss:List (List Seg)) (cs:List Scr) (g:ByteArray) (so:List Snd):St:=⟨[(40,vI 0),(39,vI l.length),(38, .sl (l.map eStd)),(8,vS g),(7, .ptr 7 0 0),(6, .ptr 6 0 0),(2, .sl (cs.map eScr)),(1, .sl (ss.map eL_eSeg))],[(891,⟨false,89,5,so.map eSnd⟩),(7,⟨true,0,0,[[.e0, .own 891]]⟩),(6,⟨true,0,0,[[.e0, .e0]]⟩)]⟩

noncomputable def stMo21 (a:(List Std)×(List (List Seg))×(List Scr)×ByteArray×(List Snd)):St:=stMo2 a.1 a.2.1 a.2.2.1 a.2.2.2.1 a.2.2.2.2

theorem stMo2_inj (a a':(List Std)×(List (List Seg))×(List Scr)×ByteArray×(List Snd)) (h:stMo21 a=stMo21 a'):a=a':=by
 simp only[stMo21,stMo2]at h
 try simp[eL_eSegs_inj,eStds_inj,eScrs_inj,eSnds_inj]at h
 grind

theorem unstMo2 (l:List Std) (ss:List (List Seg)) (cs:List Scr) (g:ByteArray) (so:List Snd):unenc stMo21 (St.mk [(40,(vI (0:Int))),(39,(vI (↑(List.length l):Int))),(38,AV.sl (List.map eStd l)),(8,(vS g)),(7, .ptr 7 0 0),(6, .ptr 6 0 0),(2,AV.sl (List.map eScr
 cs)),(1,AV.sl (List.map eL_eSeg ss))] [(891,Blk.mk false 89 5 (List.map eSnd so)),(7,Blk.mk true 0 0 [[AV.e0, .own 891]]),(6,Blk.mk true 0 0 [[AV.e0,AV.e0]])])=some (l,ss,cs,g,so):=unenc_of stMo2_inj (l,ss,cs,g,so) rfl

noncomputable def outMo2 (l:List Std) (ss:List (List Seg)) (cs:List Scr) (g:ByteArray) (so:List Snd):T (Ex×St):= .ret (.exit 2,⟨[(7, .ptr 7 0 0),(6, .ptr 6 0 0)],[(891,⟨false,89,5,so.map eSnd⟩),(890,⟨false,43,7,(F.strs l ss cs g l.length).map eStrm⟩),(7,⟨true,0,0,[[.own 890, .own 891]]⟩),(6,⟨true,0,0,[[.e0, .e0]]⟩)]⟩)

noncomputable def prlMo2 (l:List Std) (ss:List (List Seg)) (cs:List Scr) (g:ByteArray) (so:List Snd):Bool:=decide (l.length≤12)&&(decide (ss.length=l.length)&&(decide (cs.length=F.pics l)&&((l.all fun r=>decide (r.name.size≤40) && !F.noScale r.scale)&&ss.all F.sgsB)))

noncomputable def lpMo2:Nat×(St→T (Ex×St)):=(11,lpo [40,39,38,8,7,6,2,1] [891,7,6] stMo21 (fun a=>prlMo2 a.1 a.2.1 a.2.2.1 a.2.2.2.1 a.2.2.2.2) fun a=>outMo2 a.1 a.2.1 a.2.2.1 a.2.2.2.1 a.2.2.2.2)

def stMc (l:List Std) (ss:List (List Seg)) (cs:List Scr) (g:ByteArray) (so:List Snd) (st:List Strm) (k:Nat):St:=⟨[(40,vI k),(39,vI l.length),(38, .sl (l.map eStd)),(8,vS g),(7, .ptr 7 0 0),(6, .ptr 6 0 0),(2, .sl (cs.map eScr)),(1, .sl (ss.map eL_eSeg))],[(891,⟨false,89,5,so.map eSnd⟩),(890,⟨false,43,7,st.map eStrm⟩),(7,⟨true,0,0,[[.own 890, .own 891]]⟩),(6,⟨true,0,0,[[.e0, .e0]]⟩)]⟩

noncomputable def enMof:Env:=envH ty noG lks [oSto] [] [] [lpMof,lpMo2]

theorem enMof_ok:EnvOK Tryz.prog enMof:=by
 refine envH_ok lks_ok ty_ok ?_ ?_
 ·simp only[List.forall_mem_cons]
  exact⟨okSto,by simp⟩
 ·simp

theorem evMb (l:List Std) (ss:List (List Seg)) (cs:List Scr) (g:ByteArray) (so:List Snd) (k:Nat):((exec enMof (loopN Tryz.f22 0) (stMb l ss cs g so k)).bind (lessX ([15,14,13,8,7,6,2,1,0],[891,7,6]) ([8,7,6,2,1,0],[891,7,6]) ([],[]))).val =
 (fun(q:Std)=>(fun(q_1:Nat×AV)=>(fun(q_2:ByteArray)=>(fun(q_3:AV)=>(fun(q_4:List (Nat×Blk))=>(fun(q_5:List (Nat×AV))=>(fun(q_6:List
 (Nat×Blk))=>(fun(q_7:List (Nat×AV))=>bif decide ((↑k:Int)<(↑(List.length l):Int)) then Option.bind (unenc (List.map eStd) (List.map eStd l)) fun z=>bif decide (k<List.length z) then bif (List.getD z k q).sound then bif Nat.ble (ByteArray.size (List.getD z k q).name+ByteArray.size q_2) 9223372036854775807 then bif Nat.ble ((List.length (List.map eSnd so)+1)*72) 140737488355328&&true then some (Ex.normal,St.mk (q_1::(14,(vI
 (↑(List.length l):Int)))::(13,AV.sl (List.map eStd l))::(8,q_3)::q_5) ((891,Blk.mk false 89 5 (List.map eSnd so++[[q_3,(vS (List.getD z k q).name),(vS
 (ByteArray.mk (Array.mk [(117:UInt8),(110:UInt8),(100:UInt8)]))),(vB ((↑(List.length (List.map eSnd so)):Int)==0)),(vS ((List.getD z k q).name ++
 q_2))]]))::q_4)) else none else none else some (Ex.normal,St.mk (q_1::(14,(vI (↑(List.length l):Int)))::(13,AV.sl (List.map eStd l))::q_7) q_6) else none else
 some (Ex.exit (0:Nat),St.mk q_7 q_6)) ((8,(vS g))::q_5)) ((891,Blk.mk false 89 5 (List.map eSnd so))::q_4)) [(7, .ptr 7 0 0),(6, .ptr 6 0 0),(2,AV.sl (List.map
 eScr cs)),(1,AV.sl (List.map eL_eSeg ss)),(0,AV.sl (List.map eStd l))]) [(7,Blk.mk true 0 0 [[AV.e0, .own 891]]),(6,Blk.mk true 0 0 [[AV.e0,AV.e0]])]) ((vS
 (ByteArray.mk (Array.mk [(115:UInt8),(111:UInt8),(117:UInt8),(110:UInt8),(100:UInt8)]))))) (ByteArray.mk (Array.mk [(46:UInt8),(108:UInt8),(105 :
 UInt8),(115:UInt8),(116:UInt8)]))) (15,(vI (IntKind.i64.wrap ((↑k:Int)+1))))) (Std.mk (ByteArray.mk (Array.mk [])) (0:Int) false []):=(execR_bind _ _ _).symm.trans (by kernel_rfl)

theorem evMc (l:List Std) (ss:List (List Seg)) (cs:List Scr) (g:ByteArray) (so:List Snd) (st:List Strm) (k:Nat):((exec enMof (loopN Tryz.f22 1) (stMc l ss cs g so st k)).bind (lessX ([40,39,38,8,7,6,2,1],[891,890,7,6]) ([7,6],[891,890,7,6]) ([],[]))).val =
 (fun(q:Std)=>(fun(q_1:List (Nat×Blk))=>(fun(q_2:List (Nat×Blk))=>(fun(q_3:List (Nat×AV))=>bif decide ((↑k:Int)<(↑(List.length l):Int)) then
 Option.bind (unenc (List.map eStd) (List.map eStd l)) fun z=>bif decide (k<List.length z) then bif !(List.getD z k q).sound then Option.bind (unenc
 (List.map eL_eSeg) (List.map eL_eSeg ss)) fun z_1=>bif decide (k<List.length z_1) then Option.bind (unenc (List.map eScr) (List.map eScr cs)) fun
 (z_2:List Scr)=>(fun(q_4:Scr)=>bif decide (List.length (List.map eStrm st)<List.length z_2) then Option.bind (unenc encSto [AV.agg [(vS (List.getD z k q).name),
 (vI (List.getD z k q).scale),(vB (List.getD z k q).sound),AV.sl (List.map eSmp (List.getD z k q).samples)],AV.sl (List.map eSeg (List.getD z_1 k [])),AV.agg [(vI
 q_4.width),(vI q_4.height)],(vS g)]) fun z=>bif F.sgsB z.2.1&&(!F.noScale z.1.scale&&decide (ByteArray.size z.1.name ≤
 (40:Nat))) then bif Nat.ble ((List.length (List.map eStrm st)+1)*80) 140737488355328&&true then some (Ex.normal,St.mk q_3 ((891,Blk.mk
 false 89 5 (List.map eSnd so))::(890,Blk.mk false 43 7 (List.map eStrm st++[[(vS z.1.name),(vS (F.lstN z.1.name)),(vI (F.rate (F.stB z.2.1) (F.stG
 z.2.1) z.1.scale)),(vI (F.stP z.1.scale z.2.1)),(vI z.2.2.1.width),(vI z.2.2.1.height),(vS z.2.2.2)]]))::q_1)) else none else none else
 none) (List.getD z_2 (List.length (List.map eStrm st)) (Scr.mk (0:Int) (0:Int))) else none else some (Ex.normal,St.mk q_3 q_2) else none else some (Ex.exit (2:Nat),
 St.mk [(7, .ptr 7 0 0),(6, .ptr 6 0 0)] q_2)) [(40,(vI (IntKind.i64.wrap ((↑k:Int)+1)))),(39,(vI (↑(List.length l):Int))),(38,AV.sl (List.map
 eStd l)),(8,(vS g)),(7, .ptr 7 0 0),(6, .ptr 6 0 0),(2,AV.sl (List.map eScr cs)),(1,AV.sl (List.map eL_eSeg ss))]) ((891,Blk.mk false 89 5 (List.map eSnd so)) ::
 (890,Blk.mk false 43 7 (List.map eStrm st))::q_1)) [(7,Blk.mk true 0 0 [[.own 890, .own 891]]),(6,Blk.mk true 0 0 [[AV.e0,AV.e0]])]) (Std.mk (ByteArray.mk (Array.mk
 [])) (0:Int) false []):=(execR_bind _ _ _).symm.trans (by kernel_rfl)

theorem nat_int0 (n:Nat):((n:Int)==0)=decide (n=0):=int_nat0 n

theorem lpMb_ok (l:List Std) (ss:List (List Seg)) (cs:List Scr) (h1:l.length≤12) (h2:(l.all fun r=>decide (r.name.size≤40))=true) (k:Nat) (h3:k≤l.length) :
  ∀ex s',(outMof l ss cs).val=some (ex,s')→LoopOK enMof (loopN Tryz.f22 0) (stMb l ss cs (F.grpN (l.take k)) (F.snds (l.take k)) k) ex s':=by
 refine loop_gen (st:=fun k:Nat=>stMb l ss cs (F.grpN (l.take k)) (F.snds (l.take k)) k) (out:=fun _=>outMof l ss cs) (I:=fun k=>k≤l.length) (n:=([15,14,13,8,7,6,2,1,0],[891,7,6])) (e:=([8,7,6,2,1,0],[891,7,6])) (r:=([],[])) (fun k=>l.length - k) ?_ k h3
 clear h3 k
 intro k h3
 by_cases hlt:k<l.length
 ·right
  have hy:l[k]? = some l[k]:=List.getElem?_eq_getElem hlt
  have hN:=next_at hlt (by omega:l.length≤9223372036854775807)
  have hsz:l[k].name.size≤40:=by have:=List.all_eq_true.1 h2 _ (List.getElem_mem hlt);simpa using this
  generalize l[k]=y at hy hsz
  have f1:F.sndS (F.snds (l.take k)) y=F.snds (l.take (k+1)):=take_fold hy F.sndS []
  have f2:F.grpS (F.grpN (l.take k)) y=F.grpN (l.take (k+1)):=take_fold hy F.grpS _
  have hsl:=F.snds_len (l.take k) []
  have hl2:(F.snds (l.take k)).length≤12:=by
   rw[List.length_take]at hsl
   have:(F.snds (l.take k)).length=(List.foldl F.sndS [] (l.take k)).length:=rfl
   simp only[List.length_nil,Nat.zero_add]at hsl
   omega
  have b1:Nat.ble (y.name.size+(⟨#[46,108,105,115,116]⟩:ByteArray).size) 9223372036854775807=true:=ble_t (by rw[show(⟨#[46,108,105,115,116]⟩:ByteArray).size=5 from rfl];omega)
  have b2:Nat.ble (((F.snds (l.take k)).length+1)*72) 140737488355328=true:=ble_t (by omega)
  refine⟨k+1,?_,rfl,hlt,by omega,rfl⟩
  rw[evMb]
  simp only[Option.bind_some,List.length_map,unStds,cond_true,Bool.and_true,cast_lt hlt,decide_eq_true hlt,hN,getD_at hy,b1,b2,nat_int0]
  cases hs:y.sound
  ·unfold F.sndS at f1
   unfold F.grpS at f2
   rw[hs]at f1 f2
   simp only[cond_false]at f1 f2 ⊢
   rw[←f1,←f2]
   rfl
  ·unfold F.sndS at f1
   unfold F.grpS at f2
   rw[hs]at f1 f2
   simp only[cond_true]at f1 f2 ⊢
   unfold stMb
   rw[←f1,←f2,List.map_append]
   rfl
 ·left
  have hk:k=l.length:=by omega
  subst hk
  refine⟨_,?_,rfl,by simp,rfl⟩
  rw[evMb]
  simp only[Option.bind_some,List.length_map,unStds,cond_false,Bool.and_true,cast_ge,List.take_length]
  try rfl

theorem lpMof_ok (l:List Std) (ss:List (List Seg)) (cs:List Scr) (hp:prlMof l ss cs=true) : ∀ex s',(outMof l ss cs).val=some (ex,s')→LoopOK enMof (loopN Tryz.f22 0) (stMof l ss cs) ex s':=by
 simp only[prlMof,Bool.and_eq_true,decide_eq_true_eq]at hp
 obtain⟨h1,h2⟩:=hp
 intro ex s' h
 refine .own 7 1 891 89 5 rfl ?_
 exact lpMb_ok l ss cs h1 h2 0 (Nat.zero_le _) ex s' h

theorem lpMc_ok (l:List Std) (ss:List (List Seg)) (cs:List Scr) (g:ByteArray) (so:List Snd) (h1:l.length≤12) (h2:ss.length=l.length) (h3:cs.length=F.pics l) (h4:(l.all fun r=>decide (r.name.size≤40) && !F.noScale r.scale)=true) (h5:ss.all F.sgsB=true) (k:Nat) (h6:k≤l.length) :
  ∀ex s',(outMo2 l ss cs g so).val=some (ex,s')→LoopOK enMof (loopN Tryz.f22 1) (stMc l ss cs g so (F.strs l ss cs g k) k) ex s':=by
 refine loop_gen (st:=fun k:Nat=>stMc l ss cs g so (F.strs l ss cs g k) k) (out:=fun _=>outMo2 l ss cs g so) (I:=fun k=>k≤l.length) (n:=([40,39,38,8,7,6,2,1],[891,890,7,6])) (e:=([7,6],[891,890,7,6])) (r:=([],[])) (fun k=>l.length - k) ?_ k h6
 clear h6 k
 intro k h6
 by_cases hlt:k<l.length
 ·right
  have hy:l[k]? = some l[k]:=List.getElem?_eq_getElem hlt
  have hN:=next_at hlt (by omega:l.length≤9223372036854775807)
  have hyp:=List.all_eq_true.1 h4 _ (List.getElem_mem hlt)
  have hx:ss[k]? = some ss[k]:=List.getElem?_eq_getElem (by omega)
  have hxs:=List.all_eq_true.1 h5 _ (List.getElem_mem (show k<ss.length by omega))
  have hz:l.zipIdx[k]? = some (l[k],k):=by rw[List.getElem?_zipIdx,hy];simp
  have f1:F.strS ss cs g (F.strs l ss cs g k) (l[k],k)=F.strs l ss cs g (k+1):=take_fold hz (F.strS ss cs g) []
  have hsl:=F.strs_len l ss cs g k (by omega)
  have hpl:=fun hs=>F.pics_lt hy hs
  have hpk:F.pics (l.take k)≤12:=by
   have:F.pics (l.take k)≤(l.take k).length:=List.countP_le_length
   rw[List.length_take]at this
   omega
  generalize l[k]=y at *
  generalize ss[k]=x at *
  simp only[Bool.and_eq_true,decide_eq_true_eq]at hyp
  have dx:decide (k<ss.length)=true:=decide_eq_true (by omega)
  have b2:Nat.ble (((F.strs l ss cs g k).length+1)*80) 140737488355328=true:=ble_t (by omega)
  refine⟨k+1,?_,rfl,hlt,by omega,rfl⟩
  rw[evMc]
  unfold F.strS at f1
  simp only at f1
  cases hs:y.sound
  ·rw[hs]at f1
   have dc:decide ((F.strs l ss cs g k).length<cs.length)=true:=decide_eq_true (by rw[hsl,h3];exact hpl hs)
   rw[getD_at hx]at f1
   simp only[cond_false]at f1
   simp only[unStow,etaStd,etaScr,Option.bind_some,List.length_map,uneL_eSegs,unStds,unScrs,cond_true,Bool.true_and,cast_lt hlt,decide_eq_true hlt,hN,getD_at hy,hs,dx,getD_at hx,dc,hxs,hyp.2,decide_eq_true hyp.1,Bool.and_self,b2,Bool.not_false]
   have u:unenc encSto [AV.agg [(vS y.name),(vI y.scale),(vB false),AV.sl (List.map eSmp y.samples)],AV.sl (List.map eSeg x),AV.agg [(vI (cs.getD (F.strs l ss cs g k).length ⟨0,0⟩).width),(vI (cs.getD (F.strs l ss cs g k).length ⟨0,0⟩).height)],(vS g)]=some (y,x,cs.getD (F.strs l ss cs g k).length ⟨0,0⟩,g):=by
    have:=unSto y x (cs.getD (F.strs l ss cs g k).length ⟨0,0⟩) g
    rw[hs]at this
    exact this
   try rw[u]
   try simp only[Option.bind_some,hxs,hyp.2,decide_eq_true hyp.1,Bool.and_self,cond_true,b2]
   unfold stMc
   rw[←f1,List.map_append]
   rfl
  ·rw[hs]at f1
   simp only[cond_true]at f1
   simp only[unStow,etaStd,etaScr,Option.bind_some,List.length_map,uneL_eSegs,unStds,unScrs,cond_true,cond_false,Bool.and_true,cast_lt hlt,decide_eq_true hlt,hN,getD_at hy,hs,Bool.not_true]
   unfold stMc
   rw[←f1]
 ·left
  have hk:k=l.length:=by omega
  subst hk
  refine⟨_,?_,rfl,by simp,rfl⟩
  rw[evMc]
  simp only[unStow,etaStd,etaScr,Option.bind_some,List.length_map,uneL_eSegs,unStds,unScrs,cond_false,Bool.and_true,cast_ge]
  try rfl

theorem lpMo2_ok (l:List Std) (ss:List (List Seg)) (cs:List Scr) (g:ByteArray) (so:List Snd) (hp:prlMo2 l ss cs g so=true) : ∀ex s',(outMo2 l ss cs g so).val=some (ex,s')→LoopOK enMof (loopN Tryz.f22 1) (stMo2 l ss cs g so) ex s':=by
 simp only[prlMo2,Bool.and_eq_true,decide_eq_true_eq]at hp
 obtain⟨h1,h2,h3,h4,h5⟩:=hp
 intro ex s' h
 refine .own 7 0 890 43 7 rfl ?_
 have:=lpMc_ok l ss cs g so h1 h2 h3 h4 h5 0 (Nat.zero_le _) ex s' h
 exact this

theorem evMof (l:List Std) (ss:List (List Seg)) (cs:List Scr):(runF enMof false Tryz.f22 [.sl (l.map eStd), .sl (ss.map eL_eSeg), .sl (cs.map eScr)]).val =
 Option.bind (unenc stMof1 (St.mk [(15,(vI 0)),(14,(vI (↑(List.length (List.map eStd l)):Int))),(13,AV.sl (List.map eStd l)),(8,(vS (ByteArray.mk (Array.mk
 [])))),(7, .ptr 7 0 0),(6, .ptr 6 0 0),(2,AV.sl (List.map eScr cs)),(1,AV.sl (List.map eL_eSeg ss)),(0,AV.sl (List.map eStd l))] [(7,Blk.mk true 0 0 [[AV.e0,
 AV.e0]]),(6,Blk.mk true 0 0 [[AV.e0,AV.e0]])])) fun z=>bif (decide (List.length z.1≤12)&&List.all z.1 fun(r
 : Std)=>decide (ByteArray.size r.name≤40))&&true then Option.bind (unenc stMo21 (St.mk [(40,(vI 0)),(39,(vI (↑(List.length (List.map eStd z.1))
 : Int))),(38,AV.sl (List.map eStd z.1)),(8,(vS (F.grpN z.1))),(7, .ptr 7 0 0),(6, .ptr 6 0 0),(2,AV.sl (List.map eScr z.2.2)),(1,AV.sl (List.map eL_eSeg
 z.2.1))] [(891,Blk.mk false 89 5 (List.map eSnd (F.snds z.1))),(7,Blk.mk true 0 0 [[AV.e0, .own 891]]),(6,Blk.mk true 0 0 [[AV.e0,AV.e0]])])) fun z=>bif decide (List.length z.1≤12)&&(decide (List.length z.2.1=List.length z.1)&&(decide
 (List.length z.2.2.1=F.pics z.1)&&((List.all z.1 fun(r:Std)=>decide (ByteArray.size r.name≤40) && !F.noScale r.scale)&&List.all z.2.1
 F.sgsB)))&&true then some (AV.agg [AV.sl (List.map eStrm (F.strs z.1 z.2.1 z.2.2.1 z.2.2.2.1 (List.length z.1))),AV.sl (List.map eSnd
 z.2.2.2.2)],[]) else none else none:=(runFR_val).symm.trans (by kernel_rfl)

def encMof1 (l:List Std) (ss:List (List Seg)) (cs:List Scr):List AV:=[.sl (l.map eStd), .sl (ss.map eL_eSeg), .sl (cs.map eScr)]

def encMof (a:(List Std)×(List (List Seg))×(List Scr)):List AV:=encMof1 a.1 a.2.1 a.2.2

theorem encMof_inj (a a':(List Std)×(List (List Seg))×(List Scr)) (h:encMof a=encMof a'):a=a':=by
 simp only[encMof,encMof1]at h
 try simp[eL_eSegs_inj,eStds_inj,eScrs_inj]at h
 grind

theorem unMof (l:List Std) (ss:List (List Seg)) (cs:List Scr):unenc encMof ([AV.sl (List.map eStd l),AV.sl (List.map eL_eSeg ss),AV.sl (List.map eScr cs)])=some (l,ss,cs):=unenc_of encMof_inj (l,ss,cs) rfl

noncomputable def resMof1 (l:List Std) (ss:List (List Seg)) (cs:List Scr):AV×Heap:=(.agg (eMas (F.masO l ss cs)),[])

def preMof1 (l:List Std) (ss:List (List Seg)) (cs:List Scr):Bool:=decide (l.length≤12)&&(decide (ss.length=l.length)&&(decide (cs.length=F.pics l)&&((l.all fun r=>decide (r.name.size≤40) && !F.noScale r.scale)&&ss.all F.sgsB)))

noncomputable def oMof:Orc:=orc 22 false encMof (fun a=>preMof1 a.1 a.2.1 a.2.2) fun a=>resMof1 a.1 a.2.1 a.2.2

theorem okMof:OrcOK Tryz.prog noG oMof:=by
 refine mk_ok Tryz.f22 (keep:=false) (by kernel_rfl) (by kernel_rfl) enMof_ok mixed (two_loops (x0:=loopN Tryz.f22 0) (x1:=loopN Tryz.f22 1) (by kernel_rfl) (lpo_ok ?_) (lpo_ok ?_)) (by first | exact fun _ _=>⟨rfl,rfl⟩ | (intro h;cases h)) ?_
 ·rintro⟨l,ss,cs⟩ hp
  exact lpMof_ok l ss cs hp
 ·rintro⟨l,ss,cs,g,so⟩ hp
  exact lpMo2_ok l ss cs g so hp
 rintro⟨l,ss,cs⟩ hpre hok
 show(runF enMof false _ (encMof1 _ _ _)).val=some (resMof1 _ _ _)
 unfold encMof1 resMof1
 rw[evMof]
 simp only[preMof1,Bool.and_eq_true,decide_eq_true_eq]at hpre
 obtain⟨h1,h2,h3,h4,h5⟩:=hpre
 have h6:(l.all fun r=>decide (r.name.size≤40))=true:=List.all_eq_true.2 fun r hr=>by
  have:=List.all_eq_true.1 h4 r hr
  simp only[Bool.and_eq_true]at this
  exact this.1
 simp only[unstMof,unstMo2,Option.bind_some,List.length_map,cond_true,Bool.and_true,List.length_map,decide_eq_true h1,h6,decide_eq_true h2,decide_eq_true h3,h4,h5,Bool.and_self]
 rfl

end M

def F.finO (l:List Std):Int:=F.maxL (F.endsL (l.getD 0 ⟨⟨#[]⟩,0,false,[]⟩).samples)

def F.bndO (l:List Std) (w:Wsh):List Int×Int:=((F.cho ((F.commL l).map (·.time)) (F.finO l) w).1,(F.cho ((F.commL l).map (·.time)) (F.finO l) w).2.2)

theorem F.segs_ok {r:Std} {sc:Int} {l:List Int} {first:Int} (h:(F.segs r sc l first).2=0) :
  (1≤l.length∧l.length≤1000) ∧ ∃fs cs,fs.length=l.length∧(F.segs r sc l first).1=F.sgL r first fs cs:=by
 unfold F.segs at h ⊢
 cases h1:F.noScale sc with
 | true=>rw[h1]at h;simp at h
 | false=>
  rw[h1]at h
  simp only[cond_false]at h ⊢
  by_cases h2:F.risE l=0
  ·rw[M.bne0 h2]at h ⊢
   simp only[cond_false]at h ⊢
   cases h3:F.out first 0 999999999999000 with
   | true=>rw[h3]at h;simp at h
   | false=>
    rw[h3]at h
    simp only[cond_false]at h ⊢
    by_cases h4:F.fisF r sc l=0
    ·have e:F.firs r sc l=(l.map (F.atN r sc),l.map (F.cutN r sc),0):=by unfold F.firs;rw[M.bne0 h4];rfl
     rw[e]at h ⊢
     simp only[bne_self_eq_false,cond_false]at h ⊢
     cases h5:((l.map (F.atN r sc)).getD 0 0 != 0)with
     | true=>rw[h5]at h;simp at h
     | false=>
      rw[h5]at h
      simp only[cond_false]at h ⊢
      cases h6:decide ((F.seg r first (l.map (F.atN r sc)) (l.map (F.cutN r sc)) ((l.map (F.atN r sc)).length - 1)).length<0)with
      | true=>rw[h6]at h;simp at h
      | false=>
       exact⟨F.risE_ok h2,_,_,List.length_map ..,rfl⟩
    ·have e:F.firs r sc l=([],[],F.fisF r sc l):=by unfold F.firs;rw[M.bne1 h4];rfl
     rw[e]at h
     simp only[M.bne1 h4,cond_true]at h
     exact absurd h h4
  ·rw[M.bne1 h2]at h;exact absurd h h2

theorem F.sgL_num {r:Std} {first:Int} {fs cs:List Int}:(F.sgL r first fs cs).all (fun s=>F.i64B s.number)=true:=by
 refine List.all_eq_true.2 fun s hs=>?_
 unfold F.sgL at hs
 obtain⟨k,_,rfl⟩:=List.mem_map.1 hs
 exact F.wrap_i64B _

theorem F.sgL_len (r:Std) (first:Int) (fs cs:List Int):(F.sgL r first fs cs).length=fs.length:=by
 unfold F.sgL
 rw[List.length_map,List.length_range]

theorem F.alls_ok {l:List Std} {bs:List Int} {first:Int} (h:(F.alls l bs first).2=0) (h0:F.chkR4 l=0) :
  (F.alls l bs first).1.length=l.length∧(1≤bs.length∧bs.length≤1000)∧(∀r∈l,(F.segs r (F.sc0 l) bs first).2=0)∧(F.alls l bs first).1=l.map (F.segR l bs first) ∧
   ∀s∈(F.alls l bs first).1,s.length=bs.length∧(s.all fun x=>F.i64B x.number)=true:=by
 unfold F.alls at h ⊢
 rw[M.bne0 h0]at h ⊢
 simp only[cond_false]at h ⊢
 by_cases hf:M.ffI (F.segE l bs first) l=0
 ·rw[M.bne0 hf]
  simp only[cond_false]
  have hz : ∀r∈l,(F.segs r (F.sc0 l) bs first).2=0:=fun r hr=>F.ffI_all hf r hr
  obtain⟨⟨n1,n2⟩,n3⟩:=F.chkR4_ok h0
  have hm:l[0]∈l:=List.getElem_mem (by omega)
  refine⟨List.length_map ..,(F.segs_ok (hz _ hm)).1,hz,by first | rfl | trivial,fun s hs=>?_⟩
  obtain⟨r,hr,rfl⟩:=List.mem_map.1 hs
  obtain⟨_,fs,cs,e1,e2⟩:=F.segs_ok (hz r hr)
  unfold F.segR
  rw[e2]
  exact⟨by rw[F.sgL_len,e1],F.sgL_num⟩
 ·rw[M.bne1 hf]at h;exact absurd h hf

theorem F.isName_size {s:ByteArray} (h:F.isName s=true):s.size≤40:=by
 unfold F.isName at h
 simp only[Bool.and_eq_true,decide_eq_true_eq]at h
 exact h.1.1.2

theorem F.chkR4_name {l:List Std} (h:F.chkR4 l=0) : ∀r∈l,r.name.size≤40:=by
 intro r hr
 have h3:F.stdsF l=0:=by
  unfold F.chkR4 F.lt at h
  by_cases h1:l.length=0
  ·rw[decide_eq_true h1]at h;simp at h
  ·rw[decide_eq_false h1]at h
   simp only[cond_false]at h
   by_cases h2:(12:Int)<l.length
   ·rw[decide_eq_true h2]at h;simp at h
   ·rw[decide_eq_false h2]at h
    simp only[cond_false]at h
    by_cases h3:F.stdsF l=0
    ·exact h3
    ·rw[M.bne1 h3]at h;exact absurd h h3
 obtain⟨k,hk,rfl⟩:=List.mem_iff_getElem.1 hr
 have hm:(l[k],k)∈l.zipIdx:=List.mem_zipIdx_iff_getElem?.2 (List.getElem?_eq_getElem hk)
 have:=F.ffI_all h3 _ hm
 simp only at this
 unfold F.strdF at this
 cases hn:F.isName l[k].name with
 | true=>exact F.isName_size hn
 | false=>rw[hn]at this;simp at this

namespace M

noncomputable def enBno:Env:=envH ty noG lks [oCom,oEnC,oMx,oCho] [] [] []

theorem enBno_ok:EnvOK Tryz.prog enBno:=by
 refine envH_ok lks_ok ty_ok ?_ ?_
 ·simp only[List.forall_mem_cons]
  exact⟨okCom,okEnC,okMx,okCho,by simp⟩
 ·simp

theorem evBno (l:List Std) (w:Wsh):(runF enBno false Tryz.f17 [.sl (l.map eStd), .agg (eWsh w)]).val =
 Option.bind (unenc encCom [AV.sl (List.map eStd l)]) fun z=>bif (F.comm z).snd != 0 then some (AV.tup [AV.sl [],(vI (F.comm z).snd)],[]) else
 Option.bind (unenc (List.map eStd) (List.map eStd l)) fun z_1=>bif decide ((0:Nat)<List.length z_1) then Option.bind (unenc encEnC [AV.sl (List.map eSmp
 (List.getD z_1 (0:Nat) (Std.mk (ByteArray.mk (Array.mk [])) (0:Int) false [])).samples)]) fun z_2=>bif (bif F.chkS z_2 != 0 then ([],F.chkS
 z_2) else (F.endsL z_2,(0:Int))).snd != 0 then some (AV.tup [AV.sl [],(vI (bif F.chkS z_2 != 0 then ([],F.chkS z_2) else (F.endsL z_2,(0 :
 Int))).snd)],[]) else Option.bind (unenc encMx [AV.sl (List.map eI (bif F.chkS z_2 != 0 then ([],F.chkS z_2) else (F.endsL z_2,(0:Int))).fst)]) fun(z_3 :
 List Int)=>bif decide (List.length z_3≤5000)&&decide ((1:Nat)≤List.length z_3) then Option.bind (unenc encCho [AV.sl (List.map eI (F.comm z).fst),(vI
 (F.maxL z_3)),AV.agg [(vI w.scale),(vI w.target),(vI w.most)]]) fun z=>some (AV.tup [AV.sl (List.map eI (F.cho z.1 z.2.1
 z.2.2).fst),(vI (F.cho z.1 z.2.1 z.2.2).snd.snd)],[]) else none else none:=(runFR_val).symm.trans (by kernel_rfl)

def encBno1 (l:List Std) (w:Wsh):List AV:=[.sl (l.map eStd), .agg (eWsh w)]

def encBno (a:(List Std)×Wsh):List AV:=encBno1 a.1 a.2

theorem encBno_inj (a a':(List Std)×Wsh) (h:encBno a=encBno a'):a=a':=by
 simp only[encBno,encBno1]at h
 try simp[eStds_inj,eWsh_iff]at h
 grind

theorem unBnow (l:List Std) (w_scale:Int) (w_target:Int) (w_most:Int):unenc encBno ([AV.sl (List.map eStd l),AV.agg [(vI w_scale),(vI w_target),(vI w_most)]])=some (l,(Wsh.mk w_scale w_target w_most)):=unenc_of encBno_inj (l,(Wsh.mk w_scale w_target w_most)) rfl

noncomputable def resBno1 (l:List Std) (w:Wsh):AV×Heap:=(.tup [.sl ((F.bndO l w).1.map eI),vI (F.bndO l w).2],[])

def preBno1 (l:List Std) (w:Wsh):Bool:=decide (F.chkR4 l=0)

noncomputable def oBno:Orc:=orc 17 false encBno (fun a=>preBno1 a.1 a.2) fun a=>resBno1 a.1 a.2

theorem okBno:OrcOK Tryz.prog noG oBno:=by
 refine mk_ok Tryz.f17 (keep:=false) (by kernel_rfl) (by kernel_rfl) enBno_ok mixed (no_loops (by kernel_rfl)) (by first | exact fun _ _=>⟨rfl,rfl⟩ | (intro h;cases h)) ?_
 rintro⟨l,w⟩ hpre hok
 show(runF enBno false _ (encBno1 _ _)).val=some (resBno1 _ _)
 unfold encBno1 resBno1
 rw[evBno]
 have h1:F.chkR4 l=0:=of_decide_eq_true hpre
 obtain⟨a1,a2,a3,a4⟩:=std_0 h1
 have e1:F.comm l=((F.commL l).map (·.time),0):=by unfold F.comm;rw[bne0 h1];rfl
 have e2:endsC (l.getD 0 ⟨⟨#[]⟩,0,false,[]⟩).samples=(F.endsL (l.getD 0 ⟨⟨#[]⟩,0,false,[]⟩).samples,0):=by unfold endsC;rw[bne0 a3];rfl
 unfold endsC at e2
 have hel:=F.endsL_len (l.getD 0 ⟨⟨#[]⟩,0,false,[]⟩).samples
 have hsl:=F.chkS_len a3
 simp only[unCom,unEnC,unMx,unChow,etaWsh,Option.bind_some,unStds,cond_true,cond_false,decide_eq_true a1,e1,e2,bne_self_eq_false,hel,decide_eq_true hsl,decide_eq_true a4,Bool.and_self]
 unfold F.bndO F.finO
 try rfl

end M

structure Pub where
 bounds:List Int
 segs:List (List Seg)
 lists:List Lst
 mas:Mas

def F.zeroA (ss:List (List Seg)):Bool:=ss.any fun s=>s.any fun x=>x.length==0

def F.lsE (ss:List (List Seg)) (first:Int) (p:Std×Nat):Int:=(F.lsO p.1 (ss.getD p.2 []) first).2

def F.lsL (ss:List (List Seg)) (first:Int) (p:Std×Nat):Lst:=(F.lsO p.1 (ss.getD p.2 []) first).1

def F.noPub:Pub:=⟨[],[],[],⟨[],[]⟩⟩

noncomputable def F.pubB (l:List Std) (cs:List Scr) (first:Int) (bs:List Int) (ss:List (List Seg)):Pub×Int:=
 bif F.zeroA ss then (F.noPub,13) else bif M.ffI (F.lsE ss first) l.zipIdx != 0 then (F.noPub,M.ffI (F.lsE ss first) l.zipIdx) else
 bif F.chkM (F.masO l ss cs) != 0 then (F.noPub,F.chkM (F.masO l ss cs)) else (⟨bs,ss,l.zipIdx.map (F.lsL ss first),F.masO l ss cs⟩,0)

noncomputable def F.pub (l:List Std) (cs:List Scr) (w:Wsh) (first:Int):Pub×Int:=
 bif F.chkR4 l != 0 then (F.noPub,F.chkR4 l) else bif F.scrF l cs != 0 then (F.noPub,F.scrF l cs) else bif w.scale != F.sc0 l then (F.noPub,6) else
 bif (F.bndO l w).2 != 0 then (F.noPub,(F.bndO l w).2) else bif (F.alls l (F.bndO l w).1 first).2 != 0 then (F.noPub,(F.alls l (F.bndO l w).1 first).2) else
 F.pubB l cs first (F.bndO l w).1 (F.alls l (F.bndO l w).1 first).1

theorem F.lsO_ok {r:Std} {s:List Seg} {first:Int} (h:(F.lsO r s first).2=0):F.rowF s=0∧F.noScale r.scale=false∧F.lsO r s first=(F.lstO r s (F.milL s r.scale) first,0)∧F.check (F.lstO r s (F.milL s r.scale) first)=0:=by
 unfold F.lsO at h ⊢
 by_cases h1:(F.mils s r.scale).2=0
 ·rw[M.bne0 h1]at h ⊢
  simp only[cond_false]at h ⊢
  have h2:=h1
  unfold F.mils at h1
  cases hs:F.noScale r.scale with
  | true=>rw[hs]at h1;simp at h1
  | false=>
   rw[hs]at h1
   simp only[cond_false]at h1
   by_cases hr:F.rowF s=0
   ·have e:F.mils s r.scale=(F.milL s r.scale,0):=by unfold F.mils;rw[hs,M.bne0 hr];rfl
    rw[e]at h ⊢
    simp only at h ⊢
    exact⟨hr,by first | exact hs | trivial,by rw[h],h⟩
   ·rw[M.bne1 hr]at h1;exact absurd h1 hr
 ·rw[M.bne1 h1]at h;exact absurd h h1

theorem F.good_segs {l:List Std} {ss:List (List Seg)} {first:Int} {n:Nat} (h1:ss.length=l.length) (h2:1≤n∧n≤1000) (h3 : ∀s∈ss,s.length=n) (h4:F.zeroA ss=false) (h5:M.ffI (F.lsE ss first) l.zipIdx=0):ss.all F.sgsB=true:=by
 refine List.all_eq_true.2 fun s hs=>?_
 obtain⟨k,hk,rfl⟩:=List.mem_iff_getElem.1 hs
 have hl:l[k]? = some (l[k]'(by omega)):=List.getElem?_eq_getElem (by omega)
 have hz:l.zipIdx[k]? = some (l[k]'(by omega),k):=by rw[List.getElem?_zipIdx,hl];simp
 have h6:=F.ffI_all h5 _ (List.mem_of_getElem? hz)
 unfold F.lsE at h6
 simp only at h6
 rw[M.getD_at (List.getElem?_eq_getElem hk)]at h6
 obtain⟨r1,r2⟩:=F.rowF_ok (F.lsO_ok h6).1
 have h7:=h3 _ hs
 have h8:(ss[k].any fun x=>x.length==0)=false:=by
  unfold F.zeroA at h4
  exact List.any_eq_false.1 h4 _ hs |> fun h=>by simpa using h
 unfold F.sgsB
 rw[decide_eq_true (show 1≤ss[k].length by omega),decide_eq_true r1]
 simp only[Bool.true_and]
 refine List.all_eq_true.2 fun x hx=>?_
 have h9:=(r2 x hx).2.1
 have h10:=List.any_eq_false.1 h8 x hx
 have h11:x.length≠0:=by simpa using h10
 rw[decide_eq_true (show 1≤x.length by omega),decide_eq_true h9.2]
 rfl

namespace M

def ePub (p:Pub):Row:=[.sl (p.bounds.map eI), .sl (p.segs.map eL_eSeg), .sl (p.lists.map eLst), .sl (p.mas.streams.map eStrm), .sl (p.mas.sounds.map eSnd)]

theorem evZl (s:Seg):(runF en0 false Tryz.f20 [.agg (eSeg s)]).val =
 some ((vB (s.length==0)),[]):=(runFR_val).symm.trans (by kernel_rfl)

def encZl1 (s:Seg):List AV:=[.agg (eSeg s)]

def encZl (a:Seg):List AV:=encZl1 a

theorem encZl_inj (a a':Seg) (h:encZl a=encZl a'):a=a':=by
 simp only[encZl,encZl1]at h
 try simp[eSeg_iff]at h
 grind

theorem unZlw (s_number:Int) (s_fr:Int) (s_to:Int) (s_begin:Int) (s_length:Int) (s_bytes:Int) (s_lead:Int):unenc encZl ([AV.agg [(vI s_number),(vI s_fr),(vI s_to),(vI s_begin),(vI s_length),(vI s_bytes),(vI s_lead)]])=some ((Seg.mk s_number s_fr s_to s_begin s_length s_bytes s_lead)):=unenc_of encZl_inj ((Seg.mk s_number s_fr s_to s_begin s_length s_bytes s_lead)) rfl

noncomputable def resZl1 (s:Seg):AV×Heap:=(vB (s.length==0),[])

def preZl1 (s:Seg):Bool:=true

noncomputable def oZl:Orc:=orc 20 true encZl (fun a=>preZl1 a) fun a=>resZl1 a

theorem okZl:OrcOK Tryz.prog noG oZl:=by
 refine mk_ok Tryz.f20 (keep:=false) (by kernel_rfl) (by kernel_rfl) en0_ok mixed (no_loops (by kernel_rfl)) (by first | exact fun _ _=>⟨rfl,rfl⟩ | (intro h;cases h)) ?_
 rintro s hpre hok
 show(runF en0 false _ (encZl1 _)).val=some (resZl1 _)
 unfold encZl1 resZl1
 rw[evZl]

noncomputable def stIz (l:List Seg)  (k:Nat):St:=⟨[(8,vI k),(7,vI l.length),(1, .fn 20 []),(0, .sl (l.map eSeg))],[]⟩

noncomputable def stIz1 (a:(List Seg)×Nat):St:=stIz a.1 a.2

theorem stIz_inj (a a':(List Seg)×Nat) (h:stIz1 a=stIz1 a'):a=a':=by
 simp only[stIz1,stIz]at h
 try simp[eSegs_inj]at h
 grind

theorem unstIz0 (l:List Seg)  : unenc stIz1 (St.mk [(8,(vI (0:Int))),(7,(vI (↑(List.length l):Int))),(1,AV.fn (20:FuncId) []),(0,AV.sl (List.map eSeg l))] [])=some (l,0):=unenc_of stIz_inj (l,0) rfl

noncomputable def outIz (l:List Seg)  (k:Nat):T (Ex×St):= .ifB (F.found (F.findI (fun s=>s.length==0) k (l.drop k))) (.ret (.ret,⟨[(4,vI ((F.got (F.findI (fun s=>s.length==0) k (l.drop k)) 0:Nat):Int))],[]⟩)) (.ret (.exit 0,⟨[],[]⟩))

noncomputable def prlIz (l:List Seg)  (k:Nat):Bool:=decide (l.length≤9223372036854775807)&&decide (k≤l.length)

noncomputable def lpIz:Nat×(St→T (Ex×St)):=(2,lpo [8,7,1,0] [] stIz1 (fun a=>prlIz a.1 a.2) fun a=>outIz a.1 a.2)

noncomputable def enIz:Env:=envH ty noG lks [oZl] [] [] [lpIz]

theorem enIz_ok:EnvOK Tryz.prog enIz:=by
 refine envH_ok lks_ok ty_ok ?_ ?_
 ·simp only[List.forall_mem_cons]
  exact⟨okZl,by simp⟩
 ·simp

theorem evIzL (l:List Seg)  (k:Nat):((exec enIz (loopN Tryz.f55 0) (stIz l k)).bind (lessX ([8,7,1,0],[]) ([],[]) ([4],[]))).val =
 bif decide ((↑k:Int)<(↑(List.length l):Int)) then Option.bind (unenc (List.map eSeg) (List.map eSeg l)) fun z=>bif decide (k<List.length z) then
 Option.bind (unenc encZl [AV.agg [(vI (List.getD z k (Seg.mk (0:Int) (0:Int) (0:Int) (0:Int) (0:Int) (0:Int) (0:Int))).number),(vI (List.getD z k (Seg.mk (0
 : Int) (0:Int) (0:Int) (0:Int) (0:Int) (0:Int) (0:Int))).fr),(vI (List.getD z k (Seg.mk (0:Int) (0:Int) (0:Int) (0:Int) (0:Int) (0:Int) (0 :
 Int))).to),(vI (List.getD z k (Seg.mk (0:Int) (0:Int) (0:Int) (0:Int) (0:Int) (0:Int) (0:Int))).begin),(vI (List.getD z k (Seg.mk (0:Int) (0:Int) (0 :
 Int) (0:Int) (0:Int) (0:Int) (0:Int))).length),(vI (List.getD z k (Seg.mk (0:Int) (0:Int) (0:Int) (0:Int) (0:Int) (0:Int) (0:Int))).bytes),(vI
 (List.getD z k (Seg.mk (0:Int) (0:Int) (0:Int) (0:Int) (0:Int) (0:Int) (0:Int))).lead)]]) fun z=>bif z.length==0 then some (Ex.ret,St.mk
 [(4,(vI (↑k:Int)))] []) else some (Ex.normal,St.mk [(8,(vI (IntKind.i64.wrap ((↑k:Int)+1)))),(7,(vI (↑(List.length l):Int))),(1,AV.fn (20 :
 FuncId) []),(0,AV.sl (List.map eSeg l))] []) else none else some (Ex.exit (0:Nat),St.mk [] []):=(execR_bind _ _ _).symm.trans (by kernel_rfl)

theorem lpIz_ok (l:List Seg)  (k:Nat) (hp:prlIz l k=true) : ∀ex s',(outIz l k).val=some (ex,s')→LoopOK enIz (loopN Tryz.f55 0) (stIz l k) ex s':=by
 simp only[prlIz,Bool.and_eq_true,decide_eq_true_eq]at hp
 refine loop_gen (st:=stIz l ) (out:=outIz l ) (I:=fun k=>k≤l.length) (n:=([8,7,1,0],[])) (e:=([],[])) (r:=([4],[])) (fun k=>l.length - k) ?_ k hp.2
 intro k hk
 by_cases hlt:k<l.length
 ·have hy:l[k]? = some l[k]:=List.getElem?_eq_getElem hlt
  generalize l[k]=y at hy
  have hd:=drop_at hy
  cases hc:(fun s=>s.length==0) y
  ·right
   refine⟨k+1,?_,rfl,hlt,by omega,?_⟩
   ·rw[evIzL]
    simp only[unZlw,etaSeg,Option.bind_some,unSegs,cond_true,cond_false,cast_lt hlt,decide_eq_true hlt,next_at hlt hp.1,getD_at hy,hc,stIz]
    try rfl
   ·simp only[outIz,hd,F.findI,hc,cond_false]
  ·left
   refine⟨(.ret,⟨[(4,vI k)],[]⟩),?_,?_,by simp,rfl⟩
   ·rw[evIzL]
    simp only[unZlw,etaSeg,Option.bind_some,unSegs,cond_true,cast_lt hlt,decide_eq_true hlt,next_at hlt hp.1,getD_at hy,hc]
   ·simp only[outIz,hd,F.findI,hc,cond_true,F.found,F.got]
    rfl
 ·have:k=l.length:=by omega
  subst this
  left
  refine⟨(.exit 0,⟨[],[]⟩),?_,?_,by simp,rfl⟩
  ·rw[evIzL];simp
  ·simp[outIz,F.findI,F.found,T.val]

theorem evIz (l:List Seg):(runF enIz false Tryz.f55 [.sl (l.map eSeg), .fn 20 []]).val =
 Option.bind (unenc stIz1 (St.mk [(8,(vI 0)),(7,(vI (↑(List.length (List.map eSeg l)):Int))),(1,AV.fn (20:FuncId) []),(0,AV.sl (List.map eSeg l))] []))
 fun z=>bif decide (List.length z.1≤9223372036854775807)&&decide (z.2≤List.length z.1)&&true then bif F.found (F.findI (fun(s :
 Seg)=>s.length==0) z.2 (List.drop z.2 z.1)) then some ((vI (↑(F.got (F.findI (fun(s:Seg)=>s.length==0) z.2 (List.drop z.2 z.1)) (0 :
 Nat)):Int)),[]) else some ((vI (-1:Int)),[]) else none:=(runFR_val).symm.trans (by kernel_rfl)

def encIz1 (l:List Seg):List AV:=[.sl (l.map eSeg), .fn 20 []]

def encIz (a:(List Seg)):List AV:=encIz1 a

theorem encIz_inj (a a':(List Seg)) (h:encIz a=encIz a'):a=a':=by
 simp only[encIz,encIz1]at h
 try simp[eSegs_inj]at h
 grind

theorem unIz (l:List Seg):unenc encIz ([AV.sl (List.map eSeg l),AV.fn (20:FuncId) []])=some (l):=unenc_of encIz_inj (l) rfl

noncomputable def resIz1 (l:List Seg):AV×Heap:=(vI (F.idxI (F.findI (fun s=>s.length==0) 0 l)),[])

def preIz1 (l:List Seg):Bool:=true

noncomputable def oIz:Orc:=orc 55 true encIz (fun a=>preIz1 a) fun a=>resIz1 a

theorem okIz:OrcOK Tryz.prog noG oIz:=by
 refine mk_ok Tryz.f55 (keep:=false) (by kernel_rfl) (by kernel_rfl) enIz_ok mixed (one_loop (x0:=loopN Tryz.f55 0) (by kernel_rfl) (lpo_ok ?_)) (by first | exact fun _ _=>⟨rfl,rfl⟩ | (intro h;cases h)) ?_
 ·rintro⟨l,k⟩ hp
  exact lpIz_ok l k hp
 rintro l hpre hok
 show(runF enIz false _ (encIz1 _)).val=some (resIz1 _)
 unfold encIz1 resIz1
 rw[evIz]
 have hx:l.length≤9223372036854775807:=by simpa using(okA_sl (hok _ (List.mem_cons_self ..))).1
 simp only[unstIz0,Option.bind_some,List.length_map,cond_true,Bool.and_true,hx,List.drop_zero,Nat.zero_le,decide_true,F.idxI]
 cases F.found (F.findI (fun s=>s.length==0) 0 l)<;>rfl

noncomputable def enIzC:Env:=envH ty noG lks [oIz] [] [] []

theorem enIzC_ok:EnvOK Tryz.prog enIzC:=by
 refine envH_ok lks_ok ty_ok ?_ ?_
 ·simp only[List.forall_mem_cons]
  exact⟨okIz,by simp⟩
 ·simp

theorem evIzC (l:List Seg):(runF enIzC false Tryz.f19 [.sl (l.map eSeg), .fn 20 []]).val =
 Option.bind (unenc encIz [AV.sl (List.map eSeg l),AV.fn (20:FuncId) []]) fun z=>some ((vB (decide ((0:Int)≤F.idxI (F.findI (fun(s:Seg)=>s.length
 == 0) (0:Nat) z)))),[]):=(runFR_val).symm.trans (by kernel_rfl)

def encIzC1 (l:List Seg):List AV:=[.sl (l.map eSeg), .fn 20 []]

def encIzC (a:(List Seg)):List AV:=encIzC1 a

theorem encIzC_inj (a a':(List Seg)) (h:encIzC a=encIzC a'):a=a':=by
 simp only[encIzC,encIzC1]at h
 try simp[eSegs_inj]at h
 grind

theorem unIzC (l:List Seg):unenc encIzC ([AV.sl (List.map eSeg l),AV.fn (20:FuncId) []])=some (l):=unenc_of encIzC_inj (l) rfl

noncomputable def resIzC1 (l:List Seg):AV×Heap:=(vB (l.any (fun s=>s.length==0)),[])

def preIzC1 (l:List Seg):Bool:=true

noncomputable def oIzC:Orc:=orc 19 true encIzC (fun a=>preIzC1 a) fun a=>resIzC1 a

theorem okIzC:OrcOK Tryz.prog noG oIzC:=by
 refine mk_ok Tryz.f19 (keep:=false) (by kernel_rfl) (by kernel_rfl) enIzC_ok mixed (no_loops (by kernel_rfl)) (by first | exact fun _ _=>⟨rfl,rfl⟩ | (intro h;cases h)) ?_
 rintro l hpre hok
 show(runF enIzC false _ (encIzC1 _)).val=some (resIzC1 _)
 unfold encIzC1 resIzC1
 rw[evIzC]
 simp only[unIz,Option.bind_some,F.idx_any]

end M

def F.nzS (s:List Seg):Bool:= !(s.any fun x=>x.length==0)

theorem F.nzS_all (ss:List (List Seg)):ss.all F.nzS = !F.zeroA ss:=by
 unfold F.zeroA F.nzS
 rw[List.not_any_eq_all_not]

namespace M

noncomputable def stPb0 (l:List Std) (cs:List Scr) (first:Int) (bs:List Int) (ss:List (List Seg)) (k:Nat):St:=⟨[(70,vI k),(69,vI ss.length),(68, .sl (ss.map eL_eSeg)),(14, .ptr 14 0 0),(8, .ptr 8 0 0),(3,vI first),(1, .sl (cs.map eScr)),(0, .sl (l.map eStd))],[(14,⟨true,0,0,[[.sl (bs.map eI), .sl (ss.map eL_eSeg), .e0, .e0, .e0]]⟩),(8,⟨true,0,0,[[.e0, .e0, .e0, .e0, .e0]]⟩)]⟩

noncomputable def stPb01 (a:(List Std)×(List Scr)×Int×(List Int)×(List (List Seg))×Nat):St:=stPb0 a.1 a.2.1 a.2.2.1 a.2.2.2.1 a.2.2.2.2.1 a.2.2.2.2.2

theorem stPb0_inj (a a':(List Std)×(List Scr)×Int×(List Int)×(List (List Seg))×Nat) (h:stPb01 a=stPb01 a'):a=a':=by
 simp only[stPb01,stPb0]at h
 try simp[ints_inj,eL_eSegs_inj,eStds_inj,eScrs_inj]at h
 grind

theorem unstPb00 (l:List Std) (cs:List Scr) (first:Int) (bs:List Int) (ss:List (List Seg))  : unenc stPb01 (St.mk [(70,(vI (0:Int))),(69,(vI (↑(List.length ss):Int))),(68,AV.sl (List.map eL_eSeg ss)),(14, .ptr 14 0 0),(8, .ptr 8 0 0),(3,(vI first)),(1,AV.sl
 (List.map eScr cs)),(0,AV.sl (List.map eStd l))] [(14,Blk.mk true 0 0 [[AV.sl (List.map eI bs),AV.sl (List.map eL_eSeg ss),AV.e0,AV.e0,AV.e0]]),(8,Blk.mk true 0 0
 [[AV.e0,AV.e0,AV.e0,AV.e0,AV.e0]])])=some (l,cs,first,bs,ss,0):=unenc_of stPb0_inj (l,cs,first,bs,ss,0) rfl

noncomputable def outPb0 (l : List Std) (cs : List Scr) (first : Int) (bs : List Int) (ss : List (List Seg)) (k : Nat) : T (Ex × St) := .ifB ((ss.drop k).all F.nzS) (.ret (.exit 0, ⟨[(14, .ptr 14 0 0), (8, .ptr 8 0 0), (3, vI first), (1, .sl (cs.map eScr)), (0, .sl (l.map eStd))], [(14, ⟨true, 0, 0, [[.sl (bs.map eI), .sl (ss.map eL_eSeg), .e0, .e0, .e0]]⟩), (8, ⟨true, 0, 0, [[.e0, .e0, .e0, .e0, .e0]]⟩)]⟩))
      (.ret (.ret, ⟨[(9, vI 13), (8, .ptr 8 0 0)], [(8, ⟨true, 0, 0, [[.e0, .e0, .e0, .e0, .e0]]⟩)]⟩))

noncomputable def prlPb0 (l:List Std) (cs:List Scr) (first:Int) (bs:List Int) (ss:List (List Seg)) (k:Nat):Bool:=decide (ss.length≤12)&&decide (k≤ss.length)

noncomputable def lpPb0:Nat×(St→T (Ex×St)):=(17,lpo [70,69,68,14,8,3,1,0] [14,8] stPb01 (fun a=>prlPb0 a.1 a.2.1 a.2.2.1 a.2.2.2.1 a.2.2.2.2.1 a.2.2.2.2.2) fun a=>outPb0 a.1 a.2.1 a.2.2.1 a.2.2.2.1 a.2.2.2.2.1 a.2.2.2.2.2)

def stPm (l:List Std) (cs:List Scr) (first:Int) (bs:List Int) (ss:List (List Seg)) (ls:List Lst) (k:Nat):St:=⟨[(80,vI k),(79,vI l.length),(78, .sl (l.map eStd)),(14, .ptr 14 0 0),(8, .ptr 8 0 0),(3,vI first),(1, .sl (cs.map eScr)),(0, .sl (l.map eStd))],[(890,⟨false,59,5,ls.map eLst⟩),(14,⟨true,0,0,[[.sl (bs.map eI), .sl (ss.map eL_eSeg), .own 890, .e0, .e0]]⟩),(8,⟨true,0,0,[[.e0, .e0, .e0, .e0, .e0]]⟩)]⟩

noncomputable def stPb1 (l:List Std) (cs:List Scr) (first:Int) (bs:List Int) (ss:List (List Seg)):St:=⟨[(80,vI 0),(79,vI l.length),(78, .sl (l.map eStd)),(14, .ptr 14 0 0),(8, .ptr 8 0 0),(3,vI first),(1, .sl (cs.map eScr)),(0, .sl (l.map eStd))],[(14,⟨true,0,0,[[.sl (bs.map eI), .sl (ss.map eL_eSeg), .e0, .e0, .e0]]⟩),(8,⟨true,0,0,[[.e0, .e0, .e0, .e0, .e0]]⟩)]⟩

noncomputable def stPb11 (a:(List Std)×(List Scr)×Int×(List Int)×(List (List Seg))):St:=stPb1 a.1 a.2.1 a.2.2.1 a.2.2.2.1 a.2.2.2.2

theorem stPb1_inj (a a':(List Std)×(List Scr)×Int×(List Int)×(List (List Seg))) (h:stPb11 a=stPb11 a'):a=a':=by
 simp only[stPb11,stPb1]at h
 try simp[ints_inj,eL_eSegs_inj,eStds_inj,eScrs_inj]at h
 grind

theorem unstPb1 (l:List Std) (cs:List Scr) (first:Int) (bs:List Int) (ss:List (List Seg)):unenc stPb11 (St.mk [(80,(vI (0:Int))),(79,(vI (↑(List.length l):Int))),(78,AV.sl (List.map eStd l)),(14, .ptr 14 0 0),(8, .ptr 8 0 0),(3,(vI first)),(1,AV.sl (List.map
 eScr cs)),(0,AV.sl (List.map eStd l))] [(14,Blk.mk true 0 0 [[AV.sl (List.map eI bs),AV.sl (List.map eL_eSeg ss),AV.e0,AV.e0,AV.e0]]),(8,Blk.mk true 0 0 [[AV.e0,
 AV.e0,AV.e0,AV.e0,AV.e0]])])=some (l,cs,first,bs,ss):=unenc_of stPb1_inj (l,cs,first,bs,ss) rfl

noncomputable def outPb1 (l : List Std) (cs : List Scr) (first : Int) (bs : List Int) (ss : List (List Seg)) : T (Ex × St) := .ifB (decide (M.ffI (F.lsE ss first) l.zipIdx = 0)) (.ret (.exit 2, ⟨[(14, .ptr 14 0 0), (8, .ptr 8 0 0), (1, .sl (cs.map eScr)), (0, .sl (l.map eStd))], [(890, ⟨false, 59, 5, (l.zipIdx.map (F.lsL ss first)).map eLst⟩), (14, ⟨true, 0, 0, [[.sl (bs.map eI), .sl (ss.map eL_eSeg), .own 890, .e0, .e0]]⟩), (8, ⟨true, 0, 0, [[.e0, .e0, .e0, .e0, .e0]]⟩)]⟩))
      (.ret (.ret, ⟨[(9, vI (M.ffI (F.lsE ss first) l.zipIdx)), (8, .ptr 8 0 0)], [(8, ⟨true, 0, 0, [[.e0, .e0, .e0, .e0, .e0]]⟩)]⟩))

noncomputable def prlPb1 (l:List Std) (cs:List Scr) (first:Int) (bs:List Int) (ss:List (List Seg)):Bool:=decide (l.length≤12)&&(decide (ss.length=l.length)&&((l.all fun r=>decide (r.name.size≤40))&&ss.all fun s=>s.all fun x=>F.i64B x.number))

noncomputable def lpPb1:Nat×(St→T (Ex×St)):=(23,lpo [80,79,78,14,8,3,1,0] [14,8] stPb11 (fun a=>prlPb1 a.1 a.2.1 a.2.2.1 a.2.2.2.1 a.2.2.2.2) fun a=>outPb1 a.1 a.2.1 a.2.2.1 a.2.2.2.1 a.2.2.2.2)

noncomputable def enPub:Env:=envH ty noG lks [oCkr,oScf,oBno,oAll,oIzC,oLso,oMof,oChM] [] [] [lpPb0,lpPb1]

theorem enPub_ok:EnvOK Tryz.prog enPub:=by
 refine envH_ok lks_ok ty_ok ?_ ?_
 ·simp only[List.forall_mem_cons]
  exact⟨okCkr,okScf,okBno,okAll,okIzC,okLso,okMof,okChM,by simp⟩
 ·simp

theorem evPb0L (l:List Std) (cs:List Scr) (first:Int) (bs:List Int) (ss:List (List Seg)) (k:Nat):((exec enPub (loopN Tryz.f6 0) (stPb0 l cs first bs ss k)).bind (lessX ([70,69,68,14,8,3,1,0],[14,8]) ([14,8,3,1,0],[14,8]) ([9,8],[8]))).val =
 bif decide ((↑k:Int)<(↑(List.length ss):Int)) then Option.bind (unenc (List.map eL_eSeg) (List.map eL_eSeg ss)) fun z=>bif decide (k <
 List.length z) then Option.bind (unenc encIzC [AV.sl (List.map eSeg (List.getD z k [])),AV.fn (20:Nat) []]) fun z=>bif List.any z fun(s:Seg)=>
 s.length==0 then some (Ex.ret,St.mk [(9,(vI 13)),(8, .ptr 8 0 0)] [(8,Blk.mk true 0 0 [[AV.e0,AV.e0,AV.e0,AV.e0,AV.e0]])]) else some (Ex.normal,
 St.mk [(70,(vI (IntKind.i64.wrap ((↑k:Int)+1)))),(69,(vI (↑(List.length ss):Int))),(68,AV.sl (List.map eL_eSeg ss)),(14, .ptr 14 0 0),(8, .ptr
 8 0 0),(3,(vI first)),(1,AV.sl (List.map eScr cs)),(0,AV.sl (List.map eStd l))] [(14,Blk.mk true 0 0 [[AV.sl (List.map eI bs),AV.sl (List.map eL_eSeg ss),AV.e0,
 AV.e0,AV.e0]]),(8,Blk.mk true 0 0 [[AV.e0,AV.e0,AV.e0,AV.e0,AV.e0]])]) else none else some (Ex.exit (0:Nat),St.mk [(14, .ptr 14 0 0),(8, .ptr 8 0 0),(3,(vI
 first)),(1,AV.sl (List.map eScr cs)),(0,AV.sl (List.map eStd l))] [(14,Blk.mk true 0 0 [[AV.sl (List.map eI bs),AV.sl (List.map eL_eSeg ss),AV.e0,AV.e0,AV.e0]]),
 (8,Blk.mk true 0 0 [[AV.e0,AV.e0,AV.e0,AV.e0,AV.e0]])]):=(execR_bind _ _ _).symm.trans (by kernel_rfl)

theorem lpPb0_ok (l:List Std) (cs:List Scr) (first:Int) (bs:List Int) (ss:List (List Seg)) (k:Nat) (hp:prlPb0 l cs first bs ss k=true) : ∀ex s',(outPb0 l cs first bs ss k).val=some (ex,s')→LoopOK enPub (loopN Tryz.f6 0) (stPb0 l cs first bs ss k) ex s':=by
 simp only[prlPb0,Bool.and_eq_true,decide_eq_true_eq]at hp
 obtain⟨h1,h2⟩:=hp
 refine loop_all (xs:=ss) (st:=stPb0 l cs first bs ss) (p:=F.nzS) (n:=([70,69,68,14,8,3,1,0],[14,8])) (e:=([14,8,3,1,0],[14,8])) (r:=([9,8],[8])) ?_ ⟨by simp,rfl⟩ ⟨by simp,rfl⟩ (fun _=>rfl) ?_ k h2
 ·rw[evPb0L]
  simp only[cast_ge,cond_false]
 ·intro k y hy
  have hlt:=lt_at hy
  rw[evPb0L]
  simp only[unIzC,Option.bind_some,uneL_eSegs,cond_true,cast_lt hlt,decide_eq_true hlt,next_at hlt (by omega:ss.length≤9223372036854775807),getD_at hy,stPb0]
  unfold F.nzS
  cases(y.any fun x=>x.length==0)<;>rfl

theorem evPm (l:List Std) (cs:List Scr) (first:Int) (bs:List Int) (ss:List (List Seg)) (ls:List Lst) (k:Nat):((exec enPub (loopN Tryz.f6 1) (stPm l cs first bs ss ls k)).bind (lessX ([80,79,78,14,8,3,1,0],[890,14,8]) ([14,8,1,0],[890,14,8]) ([9,8],[8]))).val =
 (fun(q:Nat×AV)=>(fun(q_1:Std)=>(fun(q_2:List (Nat×Blk))=>bif decide ((↑k:Int)<(↑(List.length l):Int)) then Option.bind (unenc (List.map eStd)
 (List.map eStd l)) fun z=>bif decide (k<List.length z) then Option.bind (unenc (List.map eL_eSeg) (List.map eL_eSeg ss)) fun z_1=>
 bif decide (k<List.length z_1) then Option.bind (unenc encLso [AV.agg [(vS (List.getD z k q_1).name),(vI (List.getD z k q_1).scale),(vB (List.getD z k q_1).sound),
 AV.sl (List.map eSmp (List.getD z k q_1).samples)],AV.sl (List.map eSeg (List.getD z_1 k [])),(vI first)]) fun z=>(fun(q_3:Lst)=>bif
 decide (ByteArray.size z.1.name≤40)&&List.all z.2.1 fun(s:Seg)=>F.i64B s.number then bif (F.lsO z.1 z.2.1 z.2.2).snd != 0 then
 some (Ex.ret,St.mk [(9,(vI (F.lsO z.1 z.2.1 z.2.2).snd)),q] [(8,Blk.mk true 0 0 [[AV.e0,AV.e0,AV.e0,AV.e0,AV.e0]])]) else bif Nat.ble ((List.length
 (List.map eLst ls)+1)*56) 140737488355328&&true then some (Ex.normal,St.mk [(80,(vI (IntKind.i64.wrap ((↑k:Int)+1)))),
 (79,(vI (↑(List.length l):Int))),(78,AV.sl (List.map eStd l)),(14, .ptr 14 0 0),q,(3,(vI first)),(1,AV.sl (List.map eScr cs)),(0,AV.sl (List.map eStd l))]
 ((890,Blk.mk false 59 5 (List.map eLst ls++[[(vI q_3.target),(vI q_3.first),(vI q_3.breaks),AV.sl (List.map eEnt q_3.entries),(vB q_3.ended)]]))::q_2)) else none
 else none) (F.lsO z.1 z.2.1 z.2.2).fst else none else none else some (Ex.exit (2:Nat),St.mk [(14, .ptr 14 0 0),q,(1,AV.sl (List.map eScr cs)),(0,AV.sl
 (List.map eStd l))] ((890,Blk.mk false 59 5 (List.map eLst ls))::q_2))) [(14,Blk.mk true 0 0 [[AV.sl (List.map eI bs),AV.sl (List.map eL_eSeg ss), .own 890,AV.e0,
 AV.e0]]),(8,Blk.mk true 0 0 [[AV.e0,AV.e0,AV.e0,AV.e0,AV.e0]])]) (Std.mk (ByteArray.mk (Array.mk [])) (0:Int) false [])) (8, .ptr 8 0 0):=(execR_bind _ _ _).symm.trans (by kernel_rfl)

theorem lpPm_ok (l:List Std) (cs:List Scr) (first:Int) (bs:List Int) (ss:List (List Seg)) (h1:l.length≤12) (h2:ss.length=l.length) (h3:(l.all fun r=>decide (r.name.size≤40))=true) (h4:(ss.all fun s=>s.all fun x=>F.i64B x.number)=true) :
  ∀ex s',(outPb1 l cs first bs ss).val=some (ex,s')→LoopOK enPub (loopN Tryz.f6 1) (stPm l cs first bs ss [] 0) ex s':=by
 have main:=loop_code (E:=enPub) (x:=loopN Tryz.f6 1) (n:=([80,79,78,14,8,3,1,0],[890,14,8])) (e:=([14,8,1,0],[890,14,8])) (r:=([9,8],[8])) (xs:=l.zipIdx) (st:=fun k=>stPm l cs first bs ss ((l.zipIdx.take k).map (F.lsL ss first)) k) (g:=F.lsE ss first)
  (o:=fun c=>(.ret,⟨[(9,vI c),(8, .ptr 8 0 0)],[(8,⟨true,0,0,[[.e0, .e0, .e0, .e0, .e0]]⟩)]⟩)) (fin:=(.exit 2,⟨[(14, .ptr 14 0 0),(8, .ptr 8 0 0),(1, .sl (cs.map eScr)),(0, .sl (l.map eStd))],[(890,⟨false,59,5,(l.zipIdx.map (F.lsL ss first)).map eLst⟩),(14,⟨true,0,0,[[.sl (bs.map eI), .sl (ss.map eL_eSeg), .own 890, .e0, .e0]]⟩),(8,⟨true,0,0,[[.e0, .e0, .e0, .e0, .e0]]⟩)]⟩))
  ?fin ⟨by simp,rfl⟩ (fun _=>⟨by simp,rfl⟩) (fun _=>rfl) ?go 0 (Nat.zero_le _)
 case fin=>
  simp only[List.length_zipIdx]
  rw[evPm]
  have e:l.zipIdx.take l.length=l.zipIdx:=List.take_of_length_le (by simp)
  simp only[cast_ge,cond_false,e]
 case go=>
  intro k y hy
  obtain⟨ha,hk⟩:=F.zipIdx_at hy
  obtain⟨r,kk⟩:=y
  simp only at ha hk
  subst hk
  have hlt:=lt_at ha
  have hx:ss[kk]? = some (ss[kk]'(by omega)):=List.getElem?_eq_getElem (by omega)
  have hxs:((ss[kk]'(by omega)).all fun x=>F.i64B x.number)=true:=List.all_eq_true.1 h4 _ (List.getElem_mem (show kk<ss.length by omega))
  have hsz:decide (r.name.size≤40)=true:=List.all_eq_true.1 h3 r (List.mem_of_getElem? ha)
  generalize (ss[kk]'(by omega))=x at hx hxs
  have e1:F.lsE ss first (r,kk)=(F.lsO r x first).2:=by unfold F.lsE;simp only;rw[getD_at hx]
  have e2:F.lsL ss first (r,kk)=(F.lsO r x first).1:=by unfold F.lsL;simp only;rw[getD_at hx]
  have dx:decide (kk<ss.length)=true:=decide_eq_true (by omega)
  have hb:Nat.ble (((l.zipIdx.take kk).length+1)*56) 140737488355328=true:=ble_t (by rw[List.length_take];omega)
  have hnx:(l.zipIdx.take kk).map (F.lsL ss first)++[F.lsL ss first (r,kk)]=(l.zipIdx.take (kk+1)).map (F.lsL ss first):=by
   rw[List.take_add_one,hy,List.map_append]
   rfl
  rw[evPm]
  simp only[unLsow,etaStd,Option.bind_some,List.length_map,uneL_eSegs,unStds,cond_true,Bool.and_true,cast_lt hlt,decide_eq_true hlt,next_at hlt (by omega:l.length≤9223372036854775807),getD_at ha,getD_at hx,dx,hsz,hxs,hb,Bool.and_self]
  rw[e1]
  by_cases h:(F.lsO r x first).2=0
  ·rw[bne0 h,if_pos h]
   simp only[cond_false]
   rw[←hnx,e2]
   unfold stPm
   rw[List.map_append]
   rfl
  ·rw[bne1 h,if_neg h]
   rfl
 intro ex s' h
 exact main ex s' h

theorem lpPb1_ok (l:List Std) (cs:List Scr) (first:Int) (bs:List Int) (ss:List (List Seg)) (hp:prlPb1 l cs first bs ss=true) : ∀ex s',(outPb1 l cs first bs ss).val=some (ex,s')→LoopOK enPub (loopN Tryz.f6 1) (stPb1 l cs first bs ss) ex s':=by
 simp only[prlPb1,Bool.and_eq_true,decide_eq_true_eq]at hp
 obtain⟨h1,h2,h3,h4⟩:=hp
 intro ex s' h
 refine .own 14 2 890 59 5 rfl ?_
 exact lpPm_ok l cs first bs ss h1 h2 h3 h4 ex s' h

theorem evPub (l:List Std) (cs:List Scr) (w:Wsh) (first:Int):(runF enPub false Tryz.f6 [.sl (l.map eStd), .sl (cs.map eScr), .agg (eWsh w),vI first]).val =
 (fun(q:AV)=>Option.bind (unenc encCkr [AV.sl (List.map eStd l)]) fun z=>bif F.chkR4 z != 0 then some (AV.tup [q,(vI (F.chkR4 z))],[]) else
 Option.bind (unenc encScf [AV.sl (List.map eStd l),AV.sl (List.map eScr cs)]) fun z=>bif decide (List.length z.1≤12) then bif F.scrF
 z.1 z.2 != 0 then some (AV.tup [q,(vI (F.scrF z.1 z.2))],[]) else Option.bind (unenc (List.map eStd) (List.map eStd l)) fun z=>bif decide
 ((0:Nat)<List.length z) then bif w.scale != (List.getD z (0:Nat) (Std.mk (ByteArray.mk (Array.mk [])) (0:Int) false [])).scale then some (AV.tup [q,(vI 6)],[]) else Option.bind (unenc encBno [AV.sl (List.map eStd l),AV.agg [(vI w.scale),(vI w.target),(vI w.most)]]) fun z=>(fun(q_1:Int)=>
 (fun(q_2:AV)=>bif decide (F.chkR4 z.1=(0:Int)) then bif q_1 != 0 then some (AV.tup [q,(vI q_1)],[]) else Option.bind (unenc encAll [AV.sl (List.map
 eStd l),q_2,(vI first)]) fun z=>(fun(q_3:List (List AV))=>bif (F.alls z.1 z.2.1 z.2.2).snd != 0 then some (AV.tup
 [q,(vI (F.alls z.1 z.2.1 z.2.2).snd)],[]) else Option.bind (unenc stPb01 (St.mk [(70,(vI 0)),(69,(vI (↑(List.length q_3):Int))),(68,AV.sl q_3),
 (14, .ptr 14 0 0),(8, .ptr 8 0 0),(3,(vI first)),(1,AV.sl (List.map eScr cs)),(0,AV.sl (List.map eStd l))] [(14,Blk.mk true 0 0 [[q_2,AV.sl q_3,AV.e0,AV.e0,
 AV.e0]]),(8,Blk.mk true 0 0 [[AV.e0,AV.e0,AV.e0,AV.e0,AV.e0]])])) fun z=>(fun(q_4:Nat)=>bif
 decide (q_4≤12)&&decide (z.2.2.2.2.2≤q_4)&&true then bif List.all (List.drop z.2.2.2.2.2 z.2.2.2.2.1) F.nzS then Option.bind
 (unenc stPb11 (St.mk [(80,(vI 0)),(79,(vI (↑(List.length (List.map eStd z.1)):Int))),(78,AV.sl (List.map eStd z.1)),(14, .ptr 14 0 0),(8, .ptr 8 0 0),
 (3,(vI z.2.2.1)),(1,AV.sl (List.map eScr z.2.1)),(0,AV.sl (List.map eStd z.1))] [(14,Blk.mk true 0 0 [[AV.sl (List.map eI z.2.2.2.1),AV.sl
 (List.map eL_eSeg z.2.2.2.2.1),AV.e0,AV.e0,AV.e0]]),(8,Blk.mk true 0 0 [[AV.e0,AV.e0,AV.e0,AV.e0,AV.e0]])])) fun z=>(fun(q_5:Int)=>bif decide (List.length z.1≤12)&&(decide (List.length z.2.2.2.2=List.length z.1)&&((List.all
 z.1 fun(r:Std)=>decide (ByteArray.size r.name≤40))&&List.all z.2.2.2.2 fun(s:List Seg)=>List.all s fun(x:Seg)=>F.i64B x.number)) &&
 true then bif decide (q_5=(0:Int)) then Option.bind (unenc encMof [AV.sl (List.map eStd z.1),AV.sl (List.map eL_eSeg z.2.2.2.2),AV.sl (List.map eScr
 z.2.1)]) fun z_1=>(fun(q_6:List AV)=>bif decide (List.length z_1.1≤12)&&(decide (List.length z_1.2.1
 = List.length z_1.1)&&(decide (List.length z_1.2.2=F.pics z_1.1)&&((List.all z_1.1 fun(r:Std)=>decide (ByteArray.size r.name≤40) &&
 !F.noScale r.scale)&&List.all z_1.2.1 F.sgsB))) then Option.bind (unenc encChM [AV.agg q_6]) fun z_2=>bif F.chkM z_2 != 0 then some (AV.tup [q,(vI
 (F.chkM z_2))],[]) else some (AV.tup [AV.agg (AV.sl (List.map eI z.2.2.2.1)::AV.sl (List.map eL_eSeg z.2.2.2.2)::AV.sl (List.map eLst (List.map (F.lsL
 z.2.2.2.2 z.2.2.1) (List.zipIdx z.1)))::q_6),(vI 0)],[]) else none) [AV.sl (List.map eStrm (F.strs z_1.1 z_1.2.1 z_1.2.2 (F.grpN
 z_1.1) (List.length z_1.1))),AV.sl (List.map eSnd (F.snds z_1.1))] else some (AV.tup [q,(vI q_5)],[]) else none) (ffI (F.lsE z.2.2.2.2 z.2.2.1)
 (List.zipIdx z.1)) else some (AV.tup [q,(vI 13)],[]) else none) (List.length z.2.2.2.2.1)) (List.map eL_eSeg (F.alls z.1 z.2.1 z.2.2).fst)
 else none) (AV.sl (List.map eI (F.cho (List.map (fun(x:Plc)=>x.time) (F.commL z.1)) (F.finO z.1) z.2).fst))) (F.cho (List.map (fun(x:Plc)=>x.time) (F.commL
 z.1)) (F.finO z.1) z.2).snd.snd else none else none) (AV.agg [AV.sl [],AV.sl [],AV.sl [],AV.sl [],AV.sl []]):=(runFR_val).symm.trans (by kernel_rfl)

def encPub1 (l:List Std) (cs:List Scr) (w:Wsh) (first:Int):List AV:=[.sl (l.map eStd), .sl (cs.map eScr), .agg (eWsh w),vI first]

def encPub (a:(List Std)×(List Scr)×Wsh×Int):List AV:=encPub1 a.1 a.2.1 a.2.2.1 a.2.2.2

theorem encPub_inj (a a':(List Std)×(List Scr)×Wsh×Int) (h:encPub a=encPub a'):a=a':=by
 simp only[encPub,encPub1]at h
 try simp[eStds_inj,eScrs_inj,eWsh_iff]at h
 grind

theorem unPubw (l:List Std) (cs:List Scr) (w_scale:Int) (w_target:Int) (w_most:Int) (first:Int):unenc encPub ([AV.sl (List.map eStd l),AV.sl (List.map eScr cs),AV.agg [(vI w_scale),(vI w_target),(vI w_most)],(vI first)])=some (l,cs,(Wsh.mk w_scale w_target w_most),first):=unenc_of encPub_inj (l,cs,(Wsh.mk w_scale w_target w_most),first) rfl

noncomputable def resPub1 (l:List Std) (cs:List Scr) (w:Wsh) (first:Int):AV×Heap:=(.tup [.agg (ePub (F.pub l cs w first).1),vI (F.pub l cs w first).2],[])

def prePub1 (l:List Std) (cs:List Scr) (w:Wsh) (first:Int):Bool:=true

noncomputable def oPub:Orc:=orc 6 false encPub (fun a=>prePub1 a.1 a.2.1 a.2.2.1 a.2.2.2) fun a=>resPub1 a.1 a.2.1 a.2.2.1 a.2.2.2

theorem okPub:OrcOK Tryz.prog noG oPub:=by
 refine mk_ok Tryz.f6 (keep:=false) (by kernel_rfl) (by kernel_rfl) enPub_ok mixed (two_loops (x0:=loopN Tryz.f6 0) (x1:=loopN Tryz.f6 1) (by kernel_rfl) (lpo_ok ?_) (lpo_ok ?_)) (by first | exact fun _ _=>⟨rfl,rfl⟩ | (intro h;cases h)) ?_
 ·rintro⟨l,cs,first,bs,ss,k⟩ hp
  exact lpPb0_ok l cs first bs ss k hp
 ·rintro⟨l,cs,first,bs,ss⟩ hp
  exact lpPb1_ok l cs first bs ss hp
 rintro⟨l,cs,w,first⟩ hpre hok
 show(runF enPub false _ (encPub1 _ _ _ _)).val=some (resPub1 _ _ _ _)
 unfold encPub1 resPub1
 rw[evPub]
 unfold F.pub
 have hs0:(l.getD 0 ⟨⟨#[]⟩,0,false,[]⟩).scale=F.sc0 l:=rfl
 simp only[unCkr,unScf,unAll,unMof,unBnow,unChMw,unstPb1,unstPb00,etaWsh,Option.bind_some,List.length_map,unStds,Bool.and_true,List.length_map,hs0]
 by_cases h0:F.chkR4 l=0
 case neg=>rw[bne1 h0];rfl
 rw[bne0 h0]
 obtain⟨⟨n1,n2⟩,n3⟩:=F.chkR4_ok h0
 have hname:=F.chkR4_name h0
 simp only[cond_false,decide_eq_true n2,cond_true]
 by_cases h1:F.scrF l cs=0
 case neg=>rw[bne1 h1];rfl
 rw[bne0 h1]
 have hcs:cs.length=F.pics l:=by
  unfold F.scrF at h1
  by_cases hc:cs.length=F.pics l
  ·exact hc
  ·rw[decide_eq_false hc]at h1;simp at h1
 simp only[cond_false,decide_eq_true (show 0<l.length by omega),cond_true]
 cases(w.scale != F.sc0 l)
 case true=>rfl
 have hbn:((F.cho ((F.commL l).map (·.time)) (F.finO l) w).1,(F.cho ((F.commL l).map (·.time)) (F.finO l) w).2.2)=F.bndO l w:=rfl
 have hb1:(F.cho ((F.commL l).map (·.time)) (F.finO l) w).1=(F.bndO l w).1:=rfl
 have hb2:(F.cho ((F.commL l).map (·.time)) (F.finO l) w).2.2=(F.bndO l w).2:=rfl
 simp only[cond_false,decide_eq_true h0,cond_true,hb1,hb2]
 generalize F.bndO l w=bo at *
 obtain⟨bs,be⟩:=bo
 simp only
 by_cases h2:be=0
 case neg=>rw[bne1 h2];rfl
 rw[bne0 h2]
 simp only[cond_false]
 by_cases h3:(F.alls l bs first).2=0
 case neg=>rw[bne1 h3];rfl
 rw[bne0 h3]
 obtain⟨a1,a2,a3,a4,a5⟩:=F.alls_ok h3 h0
 generalize (F.alls l bs first).1=ss at *
 have hnum:(ss.all fun s=>s.all fun x=>F.i64B x.number)=true:=List.all_eq_true.2 fun s hs=>(a5 s hs).2
 have hnm:(l.all fun r=>decide (r.name.size≤40))=true:=List.all_eq_true.2 fun r hr=>decide_eq_true (hname r hr)
 have hnm2:(l.all fun r=>decide (r.name.size≤40) && !F.noScale r.scale)=true:=List.all_eq_true.2 fun r hr=>by rw[decide_eq_true (hname r hr),(n3 r hr).1];rfl
 unfold F.pubB
 simp only[cond_false,decide_eq_true (show ss.length≤12 by omega),Nat.zero_le,decide_true,Bool.and_self,cond_true,List.drop_zero,F.nzS_all]
 cases h4:F.zeroA ss
 case true=>rfl
 simp only[Bool.not_false,cond_true,cond_false,decide_eq_true a1,hnm,hnum,Bool.and_self]
 by_cases h5:M.ffI (F.lsE ss first) l.zipIdx=0
 case neg=>rw[decide_eq_false h5,bne1 h5];rfl
 rw[decide_eq_true h5,bne0 h5]
 have hgood:=F.good_segs a1 a2 (fun s hs=>(a5 s hs).1) h4 h5
 simp only[cond_true,cond_false,decide_eq_true hcs,hnm2,hgood,Bool.and_self]
 have hm:F.masO l ss cs=⟨F.strs l ss cs (F.grpN l) l.length,F.snds l⟩:=rfl
 have u:unenc encChM [AV.agg [AV.sl (List.map eStrm (F.strs l ss cs (F.grpN l) l.length)),AV.sl (List.map eSnd (F.snds l))]]=some (F.masO l ss cs):=unChM (F.masO l ss cs)
 try rw[u]
 simp only[←hm]
 by_cases h6:F.chkM (F.masO l ss cs)=0
 ·rw[bne0 h6];rfl
 ·rw[bne1 h6];rfl

end M

def F.sgmO (p:Int×Int):Int:=bif F.out p.1 0 1000000000||F.out p.2 1 1000000000 then 1 else 0

def F.sgmF (a b:List Int) (sc:Int):Int:=
 bif decide (a.length=0) then 9 else bif F.lt 500 a.length then 2 else bif !decide (b.length=a.length) then 3 else
 bif M.ffI F.sgmO (a.zip b) != 0 then M.ffI F.sgmO (a.zip b) else bif F.noScale sc then 1 else 0

def F.gcdI (a b:Int):Int:=(Nat.gcd a.natAbs b.natAbs:Nat)

namespace M

noncomputable def stSmf (a b:List Int) (sc:Int) (k:Nat):St:=⟨[(24,vI k),(23,vI a.length),(2,vI sc),(1, .sl (b.map eI)),(0, .sl (a.map eI))],[]⟩

noncomputable def stSmf1 (a:(List Int)×(List Int)×Int×Nat):St:=stSmf a.1 a.2.1 a.2.2.1 a.2.2.2

theorem stSmf_inj (a a':(List Int)×(List Int)×Int×Nat) (h:stSmf1 a=stSmf1 a'):a=a':=by
 simp only[stSmf1,stSmf]at h
 try simp[ints_inj]at h
 grind

theorem unstSmf0 (a:List Int) (b:List Int) (sc:Int)  : unenc stSmf1 (St.mk [(24,(vI (0:Int))),(23,(vI (↑(List.length a):Int))),(2,(vI sc)),(1,AV.sl (List.map eI b)),(0,AV.sl (List.map eI a))] [])=some (a,b,sc,0):=unenc_of stSmf_inj (a,b,sc,0) rfl

noncomputable def outSmf (a b:List Int) (sc:Int) (k:Nat):T (Ex×St):= .ifB (decide (M.ffI F.sgmO ((a.zip b).drop k)=0)) (.ret (.exit 1,⟨[(2,vI sc)],[]⟩)) (.ret (.ret,⟨[(6,vI (M.ffI F.sgmO ((a.zip b).drop k)))],[]⟩))

noncomputable def prlSmf (a b:List Int) (sc:Int) (k:Nat):Bool:=decide (a.length≤500)&&(decide (b.length=a.length)&&decide (k≤a.length))

noncomputable def lpSmf:Nat×(St→T (Ex×St)):=(8,lpo [24,23,2,1,0] [] stSmf1 (fun a=>prlSmf a.1 a.2.1 a.2.2.1 a.2.2.2) fun a=>outSmf a.1 a.2.1 a.2.2.1 a.2.2.2)

noncomputable def enSmf:Env:=envH ty noG lks [oOut,oNoS] [] [] [lpSmf]

theorem enSmf_ok:EnvOK Tryz.prog enSmf:=by
 refine envH_ok lks_ok ty_ok ?_ ?_
 ·simp only[List.forall_mem_cons]
  exact⟨okOut,okNoS,by simp⟩
 ·simp

theorem evSmfL (a b:List Int) (sc:Int) (k:Nat):((exec enSmf (loopN Tryz.f24 0) (stSmf a b sc k)).bind (lessX ([24,23,2,1,0],[]) ([2],[]) ([6],[]))).val =
 bif decide ((↑k:Int)<(↑(List.length a):Int)) then Option.bind (unenc (List.map eI) (List.map eI a)) fun z=>bif decide (k<List.length z) then
 Option.bind (unenc encOut [(vI (List.getD z k 0)),(vI 0),(vI 1000000000)]) fun z=>bif !F.out z.1 z.2.1 z.2.2 then
 Option.bind (unenc (List.map eI) (List.map eI b)) fun z=>bif decide (k<List.length z) then Option.bind (unenc encOut [(vI (List.getD z k 0)),(vI
 (1:Int)),(vI 1000000000)]) fun z=>bif F.out z.1 z.2.1 z.2.2 then some (Ex.ret,St.mk [(6,(vI 1))] []) else some
 (Ex.normal,St.mk [(24,(vI (IntKind.i64.wrap ((↑k:Int)+1)))),(23,(vI (↑(List.length a):Int))),(2,(vI sc)),(1,AV.sl (List.map eI b)),(0,AV.sl
 (List.map eI a))] []) else none else some (Ex.ret,St.mk [(6,(vI 1))] []) else none else some (Ex.exit (1:Nat),St.mk [(2,(vI sc))] []):=(execR_bind _ _ _).symm.trans (by kernel_rfl)

theorem lpSmf_ok (a b:List Int) (sc:Int) (k:Nat) (hp:prlSmf a b sc k=true) : ∀ex s',(outSmf a b sc k).val=some (ex,s')→LoopOK enSmf (loopN Tryz.f24 0) (stSmf a b sc k) ex s':=by
 simp only[prlSmf,Bool.and_eq_true,decide_eq_true_eq]at hp
 obtain⟨h1,h2,h3⟩:=hp
 have hzl:(a.zip b).length=a.length:=by rw[List.length_zip];omega
 refine loop_code (xs:=a.zip b) (st:=stSmf a b sc) (g:=F.sgmO) (o:=fun c=>(.ret,⟨[(6,vI c)],[]⟩)) (n:=([24,23,2,1,0],[])) (e:=([2],[])) (r:=([6],[])) ?_ ⟨by simp,rfl⟩ (fun _=>⟨by simp,rfl⟩) (fun _=>rfl) ?_ k (by rw[hzl];exact h3)
 ·rw[hzl]
  rw[evSmfL];simp
 ·intro k y hy
  rw[List.getElem?_zip_eq_some]at hy
  obtain⟨ha,hb⟩:=hy
  have hlt:=lt_at ha
  have hlt2:=lt_at hb
  unfold F.sgmO
  rw[evSmfL]
  simp only[unOut,Option.bind_some,unInts,cond_true,cast_lt hlt,decide_eq_true hlt,decide_eq_true hlt2,next_at hlt (by omega:a.length≤9223372036854775807),getD_at ha,getD_at hb,stSmf]
  generalize F.out y.1 0 1000000000=a1
  generalize F.out y.2 1 1000000000=a2
  cases a1<;>cases a2<;>rfl

theorem evSmf (a:List Int) (b:List Int) (sc:Int):(runF enSmf false Tryz.f24 [.sl (a.map eI), .sl (b.map eI),vI sc]).val =
 bif (↑(List.length (List.map eI a)):Int)==0 then some ((vI 9),[]) else bif decide ((500:Int)<(↑(List.length (List.map eI a)):Int)) then some
 ((vI 2),[]) else bif (↑(List.length (List.map eI b)):Int) != (↑(List.length (List.map eI a)):Int) then some ((vI 3),[]) else Option.bind (unenc
 stSmf1 (St.mk [(24,(vI 0)),(23,(vI (↑(List.length (List.map eI a)):Int))),(2,(vI sc)),(1,AV.sl (List.map eI b)),(0,AV.sl (List.map eI a))] [])) fun(z :
 List Int×List Int×Int×Nat)=>bif decide (List.length z.1≤500)&&(decide (List.length z.2.1=List.length z.1)&&decide (z.2.2.2 ≤
 List.length z.1))&&true then bif decide (ffI F.sgmO (List.drop z.2.2.2 (List.zip z.1 z.2.1))=(0:Int)) then Option.bind (unenc encNoS [(vI
 z.2.2.1)]) fun z=>bif F.noScale z then some ((vI 1),[]) else some ((vI 0),[]) else some ((vI (ffI F.sgmO (List.drop z.2.2.2
 (List.zip z.1 z.2.1)))),[]) else none:=(runFR_val).symm.trans (by kernel_rfl)

def encSmf1 (a:List Int) (b:List Int) (sc:Int):List AV:=[.sl (a.map eI), .sl (b.map eI),vI sc]

def encSmf (a:(List Int)×(List Int)×Int):List AV:=encSmf1 a.1 a.2.1 a.2.2

theorem encSmf_inj (a a':(List Int)×(List Int)×Int) (h:encSmf a=encSmf a'):a=a':=by
 simp only[encSmf,encSmf1]at h
 try simp[ints_inj]at h
 grind

theorem unSmf (a:List Int) (b:List Int) (sc:Int):unenc encSmf ([AV.sl (List.map eI a),AV.sl (List.map eI b),(vI sc)])=some (a,b,sc):=unenc_of encSmf_inj (a,b,sc) rfl

noncomputable def resSmf1 (a:List Int) (b:List Int) (sc:Int):AV×Heap:=(vI (F.sgmF a b sc),[])

def preSmf1 (a:List Int) (b:List Int) (sc:Int):Bool:=true

noncomputable def oSmf:Orc:=orc 24 true encSmf (fun a=>preSmf1 a.1 a.2.1 a.2.2) fun a=>resSmf1 a.1 a.2.1 a.2.2

theorem okSmf:OrcOK Tryz.prog noG oSmf:=by
 refine mk_ok Tryz.f24 (keep:=false) (by kernel_rfl) (by kernel_rfl) enSmf_ok mixed (one_loop (x0:=loopN Tryz.f24 0) (by kernel_rfl) (lpo_ok ?_)) (by first | exact fun _ _=>⟨rfl,rfl⟩ | (intro h;cases h)) ?_
 ·rintro⟨a,b,sc,k⟩ hp
  exact lpSmf_ok a b sc k hp
 rintro⟨a,b,sc⟩ hpre hok
 show(runF enSmf false _ (encSmf1 _ _ _)).val=some (resSmf1 _ _ _)
 unfold encSmf1 resSmf1
 rw[evSmf]
 simp only[unNoS,unstSmf0,Option.bind_some,List.length_map,Bool.and_true,List.length_map]
 unfold F.sgmF F.lt
 rw[int_nat0]
 have hne:((b.length:Int) != (a.length:Int)) = !decide (b.length=a.length):=by
  by_cases h:b.length=a.length
  ·rw[decide_eq_true h,h];simp
  ·rw[decide_eq_false h];simp;omega
 rw[hne]
 cases decide (a.length=0)
 case true=>rfl
 by_cases h2:(500:Int)<a.length
 ·rw[decide_eq_true h2];rfl
 rw[decide_eq_false h2]
 by_cases h3:b.length=a.length
 case neg=>rw[decide_eq_false h3];rfl
 rw[decide_eq_true h3]
 simp only[cond_false,Bool.not_true,decide_eq_true (show a.length≤500 by omega),Nat.zero_le,decide_true,Bool.and_self,cond_true,List.drop_zero]
 by_cases h4:M.ffI F.sgmO (a.zip b)=0
 ·rw[h4]
  simp only[decide_true,cond_true,bne_self_eq_false,cond_false]
  cases F.noScale sc<;>rfl
 ·rw[decide_eq_false h4,bne1 h4];rfl

noncomputable def stDvs (b a:Int):St:=⟨[(1,vI b),(0,vI a)],[]⟩

noncomputable def stDvs1 (a:Int×Int):St:=stDvs a.1 a.2

theorem stDvs_inj (a a':Int×Int) (h:stDvs1 a=stDvs1 a'):a=a':=by
 simp only[stDvs1,stDvs]at h
 try simp[]at h
 grind

theorem unstDvs (b a:Int):unenc stDvs1 (St.mk [(1,(vI b)),(0,(vI a))] [])=some (b,a):=unenc_of stDvs_inj (b,a) rfl

noncomputable def outDvs (b a:Int):T (Ex×St):= .ret (.exit 0,⟨[(0,vI (F.gcdI b a))],[]⟩)

noncomputable def prlDvs (b a:Int):Bool:=decide (0≤b)&&(decide (0≤a)&&(F.i64B a&&F.i64B b))

noncomputable def lpDvs:Nat×(St→T (Ex×St)):=(1,lpo [1,0] [] stDvs1 (fun a=>prlDvs a.1 a.2) fun a=>outDvs a.1 a.2)

noncomputable def enDvs:Env:=envH ty noG lks [] [] [] [lpDvs]

theorem enDvs_ok:EnvOK Tryz.prog enDvs:=by
 refine envH_ok lks_ok ty_ok ?_ ?_
 ·simp
 ·simp

theorem evDvsL (b a:Int):((exec enDvs (loopN Tryz.f62 0) (stDvs b a)).bind (lessX ([1,0],[]) ([0],[]) ([],[]))).val =
 bif b != 0 then bif b==0 then none else some (Ex.normal,St.mk [(1,(vI (Int.tmod a b))),(0,(vI b))] []) else some (Ex.exit (0:Nat),St.mk [(0,(vI
 a))] []):=(execR_bind _ _ _).symm.trans (by kernel_rfl)

theorem lpDvs_ok (b a:Int) (hp:prlDvs b a=true) : ∀ex s',(outDvs b a).val=some (ex,s')→LoopOK enDvs (loopN Tryz.f62 0) (stDvs b a) ex s':=by
 simp only[prlDvs,Bool.and_eq_true,decide_eq_true_eq]at hp
 obtain⟨h1,h2,h3,h4⟩:=hp
 refine loop_gen (st:=fun x:Int×Int=>stDvs x.1 x.2) (out:=fun x=>outDvs x.1 x.2) (I:=fun x=>0≤x.1∧0≤x.2∧F.i64B x.2=true∧F.i64B x.1=true) (n:=([1,0],[])) (e:=([0],[])) (r:=([],[])) (fun x=>x.1.toNat) ?_ (b,a) ⟨h1,h2,h3,h4⟩
 clear h1 h2 h3 h4 a b
 rintro⟨b,a⟩ ⟨h1,h2,h3,h4⟩
 simp only at h1 h2 h3 h4
 by_cases h0:b=0
 ·subst h0
  left
  have e:F.gcdI 0 a=a:=by unfold F.gcdI;rw[show(0:Int).natAbs=0 from rfl,Nat.gcd_zero_left];omega
  refine⟨_,?_,rfl,by simp,rfl⟩
  rw[evDvsL]
  simp only[bne_self_eq_false,cond_false,e]
  try rfl
 ·right
  have hb:(b != 0)=true:=by simpa using h0
  have hb2:(b==0)=false:=by simpa using h0
  have ht:Int.tmod a b=a % b:=Int.tmod_eq_emod_of_nonneg h2
  have hm0:0≤a % b:=Int.emod_nonneg _ h0
  have hm1:a % b<b:=Int.emod_lt_of_pos _ (by omega)
  have hg:F.gcdI (a % b) b=F.gcdI b a:=by
   unfold F.gcdI
   obtain⟨m,rfl⟩:=Int.eq_ofNat_of_zero_le h1
   obtain⟨n,rfl⟩:=Int.eq_ofNat_of_zero_le h2
   rw[←Int.natCast_emod,Int.natAbs_natCast,Int.natAbs_natCast,Int.natAbs_natCast,←Nat.gcd_rec]
  have h5:F.i64B (a % b)=true:=by
   unfold F.i64B at h4 ⊢
   simp only[Bool.and_eq_true,decide_eq_true_eq]at h4 ⊢
   omega
  refine⟨(a % b,b),?_,rfl,⟨hm0,h1,h4,h5⟩,by simp only;omega,?_⟩
  ·rw[evDvsL]
   simp only[hb,hb2,cond_true,cond_false,ht]
   try rfl
  ·simp only[outDvs,hg]

theorem evDvs (a:Int) (b:Int):(runF enDvs false Tryz.f62 [vI a,vI b]).val =
 Option.bind (unenc stDvs1 (St.mk [(1,(vI b)),(0,(vI a))] [])) fun z=>bif decide ((0:Int)≤z.1)&&(decide ((0:Int)≤z.2)&&(F.i64B z.2 &&
 F.i64B z.1))&&true then some ((vI (F.gcdI z.1 z.2)),[]) else none:=(runFR_val).symm.trans (by kernel_rfl)

def encDvs1 (a:Int) (b:Int):List AV:=[vI a,vI b]

def encDvs (a:Int×Int):List AV:=encDvs1 a.1 a.2

theorem encDvs_inj (a a':Int×Int) (h:encDvs a=encDvs a'):a=a':=by
 simp only[encDvs,encDvs1]at h
 try simp[]at h
 grind

theorem unDvs (a:Int) (b:Int):unenc encDvs ([(vI a),(vI b)])=some (a,b):=unenc_of encDvs_inj (a,b) rfl

noncomputable def resDvs1 (a:Int) (b:Int):AV×Heap:=(vI (F.gcdI b a),[])

def preDvs1 (a:Int) (b:Int):Bool:=decide (0≤a)&&decide (0≤b)

noncomputable def oDvs:Orc:=orc 62 true encDvs (fun a=>preDvs1 a.1 a.2) fun a=>resDvs1 a.1 a.2

theorem okDvs:OrcOK Tryz.prog noG oDvs:=by
 refine mk_ok Tryz.f62 (keep:=false) (by kernel_rfl) (by kernel_rfl) enDvs_ok mixed (one_loop (x0:=loopN Tryz.f62 0) (by kernel_rfl) (lpo_ok ?_)) (by first | exact fun _ _=>⟨rfl,rfl⟩ | (intro h;cases h)) ?_
 ·rintro⟨b,a⟩ hp
  exact lpDvs_ok b a hp
 rintro⟨a,b⟩ hpre hok
 show(runF enDvs false _ (encDvs1 _ _)).val=some (resDvs1 _ _)
 unfold encDvs1 resDvs1
 rw[evDvs]
 simp only[preDvs1,Bool.and_eq_true,decide_eq_true_eq]at hpre
 obtain⟨h1,h2⟩:=hpre
 have g1:=okA_int (hok _ (List.mem_cons_self ..))
 have g2:=okA_int (hok _ (List.mem_cons_of_mem _ (List.mem_cons_self ..)))
 have k1:F.i64B a=true:=by simp only[F.i64B,Bool.and_eq_true,decide_eq_true_eq];exact g1
 have k2:F.i64B b=true:=by simp only[F.i64B,Bool.and_eq_true,decide_eq_true_eq];exact g2
 simp only[unstDvs,Option.bind_some,cond_true,Bool.and_true,unstDvs,decide_eq_true h1,decide_eq_true h2,k1,k2,Bool.and_self]
 try rfl

end M

def F.ldG (s g:Int):Int:=max 1 (F.gcdI g (8*s))

def F.ldH (s g sc:Int):Int:=F.gcdI (g / F.ldG s g) sc

def F.ldN (s g sc:Int):Int:=8*s / F.ldG s g*(sc / F.ldH s g sc)

def F.ldD (s g sc:Int):Int:=g / F.ldG s g / F.ldH s g sc

def F.ldR (s g sc:Int):Int×Int×Int:=bif decide (F.ldN s g sc<9223372036854775808) then (F.ldN s g sc,F.ldD s g sc,0) else (0,0,1)

theorem F.gcdI_dvd (a b:Int):F.gcdI a b ∣ a∧F.gcdI a b ∣ b:=by
 unfold F.gcdI
 exact⟨Int.ofNat_dvd_left.2 (Nat.gcd_dvd_left _ _),Int.ofNat_dvd_left.2 (Nat.gcd_dvd_right _ _)⟩

theorem F.gcdI_pos {a b:Int} (h:1≤b):1≤F.gcdI a b:=by
 unfold F.gcdI
 have:0<Nat.gcd a.natAbs b.natAbs:=Nat.gcd_pos_of_pos_right _ (by omega)
 omega

theorem F.gcdI_pos2 {a b:Int} (h:1≤a):1≤F.gcdI a b:=by
 unfold F.gcdI
 have:0<Nat.gcd a.natAbs b.natAbs:=Nat.gcd_pos_of_pos_left _ (by omega)
 omega

theorem F.ld_ok {s g sc:Int} (hs:0≤s) (hg:1≤g) (hc:1≤sc):1≤F.ldG s g∧1≤F.ldH s g sc∧1≤g / F.ldG s g∧1≤F.ldD s g sc∧F.ldN s g sc*g=8*s*sc*F.ldD s g sc∧F.ldG s g=F.gcdI g (8*s):=by
 have h1:1≤F.gcdI g (8*s):=F.gcdI_pos2 hg
 have e1:F.ldG s g=F.gcdI g (8*s):=by unfold F.ldG;omega
 obtain⟨⟨x,hx⟩,⟨y,hy⟩⟩:=F.gcdI_dvd g (8*s)
 rw[←e1]at h1 hx hy
 have d1:g / F.ldG s g=x:=by
  conv=>lhs;lhs;rw[hx]
  rw[Int.mul_ediv_cancel_left _ (by omega)]
 have d2:8*s / F.ldG s g=y:=by
  rw[hy,Int.mul_ediv_cancel_left _ (by omega)]
 have hx1:1≤x:=by
  by_cases h:1≤x
  ·exact h
  ·have:F.ldG s g*x≤F.ldG s g*0:=Int.mul_le_mul_of_nonneg_left (by omega) (by omega)
   omega
 have h2:1≤F.ldH s g sc:=F.gcdI_pos hc
 obtain⟨⟨p,hp⟩,⟨q,hq⟩⟩:=F.gcdI_dvd (g / F.ldG s g) sc
 have e2:F.gcdI (g / F.ldG s g) sc=F.ldH s g sc:=rfl
 rw[e2]at hp hq
 rw[d1]at hp
 have d3:F.ldD s g sc=p:=by
  unfold F.ldD
  rw[d1,hp,Int.mul_ediv_cancel_left _ (by omega)]
 have d4:sc / F.ldH s g sc=q:=by
  conv=>lhs;lhs;rw[hq]
  rw[Int.mul_ediv_cancel_left _ (by omega)]
 have hp1:1≤p:=by
  by_cases h:1≤p
  ·exact h
  ·have:F.ldH s g sc*p≤F.ldH s g sc*0:=Int.mul_le_mul_of_nonneg_left (by omega) (by omega)
   omega
 refine⟨h1,h2,by rw[d1];exact hx1,by rw[d3];exact hp1,?_,e1⟩
 have e3:F.ldN s g sc=y*q:=by unfold F.ldN;rw[d2,d4]
 rw[e3,d3,hy]
 generalize F.ldG s g=G at *
 generalize F.ldH s g sc=H at *
 rw[hx,hp,hq]
 simp only[Int.mul_comm,Int.mul_left_comm]

def F.sumW (l:List Int):Int:=l.foldl (fun n x=>IntKind.i64.wrap (n+x)) 0

def F.meanO (a b:List Int) (sc:Int):Int×Int×Int:=bif F.sgmF a b sc != 0 then (0,0,F.sgmF a b sc) else F.ldR (F.sumW a) (F.sumW b) sc

theorem F.sumW_take {l:List Int} {lo:Int} (h0:0≤lo) (h1:l.length≤500) (h2 : ∀x∈l,lo≤x∧x≤1000000000) : ∀k,k≤l.length→k*lo≤F.sumW (l.take k)∧F.sumW (l.take k)≤k*1000000000
 | 0,_=>by simp[F.sumW]
 | k+1,hk=>by
  have ih:=F.sumW_take h0 h1 h2 k (by omega)
  have hy:l[k]? = some l[k]:=List.getElem?_eq_getElem (by omega)
  obtain⟨a,b⟩:=h2 _ (List.getElem_mem (show k<l.length by omega))
  unfold F.sumW at ih ⊢
  rw[List.take_add_one,hy,List.foldl_append]
  simp only[Option.toList_some,List.foldl_cons,List.foldl_nil]
  generalize l[k]=s at a b
  generalize List.foldl (fun(n:Int) (x:Int)=>IntKind.i64.wrap (n+x)) 0 (l.take k)=t at ih
  have hkl:0≤(k:Int)*lo:=Int.mul_nonneg (by omega) h0
  rw[M.wrap_id (by omega) (by omega)]
  refine⟨?_,by omega⟩
  rw[show((k+1:Nat):Int)*lo=(k:Int)*lo+lo by rw[Int.natCast_add,Int.add_mul];simp]
  omega

theorem F.sgmF_ok {a b:List Int} {sc:Int} (h:F.sgmF a b sc=0):(1≤a.length∧a.length≤500)∧b.length=a.length∧F.noScale sc=false∧(0≤F.sumW a∧F.sumW a≤500000000000)∧(1≤F.sumW b∧F.sumW b≤500000000000) ∧ ∀p∈a.zip b,(0≤p.1∧p.1≤1000000000)∧(1≤p.2∧p.2≤1000000000):=by
 unfold F.sgmF F.lt at h
 by_cases h1:a.length=0
 ·rw[decide_eq_true h1]at h;simp at h
 rw[decide_eq_false h1]at h
 by_cases h2:(500:Int)<a.length
 ·rw[decide_eq_true h2]at h;simp at h
 rw[decide_eq_false h2]at h
 by_cases h3:b.length=a.length
 case neg=>rw[decide_eq_false h3]at h;simp at h
 rw[decide_eq_true h3]at h
 simp only[cond_false,Bool.not_true]at h
 by_cases h4:M.ffI F.sgmO (a.zip b)=0
 case neg=>rw[M.bne1 h4]at h;exact absurd h h4
 rw[M.bne0 h4]at h
 simp only[cond_false]at h
 have hsc:F.noScale sc=false:=by
  cases hs:F.noScale sc with
  | true=>rw[hs]at h;simp at h
  | false=>rfl
 have hz : ∀p∈a.zip b,(0≤p.1∧p.1≤1000000000)∧(1≤p.2∧p.2≤1000000000):=fun p hp=>by
  have:=F.ffI_all h4 p hp
  unfold F.sgmO F.out at this
  cases hc:(decide (p.1<0)||decide (1000000000<p.1)||(decide (p.2<1)||decide (1000000000<p.2)))with
  | true=>rw[hc]at this;simp at this
  | false=>
   simp only[Bool.or_eq_false_iff,decide_eq_false_iff_not]at hc
   omega
 have ha : ∀x∈a,(0:Int)≤x∧x≤1000000000:=fun x hx=>by
  obtain⟨k,hk,rfl⟩:=List.mem_iff_getElem.1 hx
  have hm:(a[k],b[k]'(by omega))∈a.zip b:=List.mem_of_getElem? (List.getElem?_zip_eq_some.2 ⟨List.getElem?_eq_getElem hk,List.getElem?_eq_getElem (by omega)⟩)
  exact(hz _ hm).1
 have hb : ∀x∈b,(1:Int)≤x∧x≤1000000000:=fun x hx=>by
  obtain⟨k,hk,rfl⟩:=List.mem_iff_getElem.1 hx
  have hm:(a[k]'(by omega),b[k])∈a.zip b:=List.mem_of_getElem? (List.getElem?_zip_eq_some.2 ⟨List.getElem?_eq_getElem (by omega),List.getElem?_eq_getElem hk⟩)
  exact(hz _ hm).2
 have s1:=F.sumW_take (lo:=0) (by omega) (by omega) ha a.length (Nat.le_refl _)
 have s2:=F.sumW_take (lo:=1) (by omega) (by omega) hb b.length (Nat.le_refl _)
 rw[List.take_length]at s1 s2
 exact⟨by omega,h3,hsc,by omega,by omega,hz⟩

namespace M

noncomputable def enPrd:Env:=envH ty noG lks [oMul] [] [] []

theorem enPrd_ok:EnvOK Tryz.prog enPrd:=by
 refine envH_ok lks_ok ty_ok ?_ ?_
 ·simp only[List.forall_mem_cons]
  exact⟨okMul,by simp⟩
 ·simp

theorem evPrd (a:Int) (b:Int):(runF enPrd false Tryz.f63 [vI a,vI b]).val =
 Option.bind (unenc encMul [AV.v (Value.int IntKind.u64 (IntKind.wrap IntKind.u64 a)),AV.v (Value.int IntKind.u64 (IntKind.wrap IntKind.u64 b))]) fun z=>
 bif decide (z.1<18446744073709551616)&&decide (z.2<18446744073709551616) then some (AV.tup [(vI (IntKind.i64.wrap (↑(F.mlo z.1 z.2) :
 Int))),(vB (bif (↑(F.mhi z.1 z.2):Int)==0 then decide ((↑(F.mlo z.1 z.2):Int)<9223372036854775808) else false))],[]) else none:=(runFR_val).symm.trans (by kernel_rfl)

def encPrd1 (a:Int) (b:Int):List AV:=[vI a,vI b]

def encPrd (a:Int×Int):List AV:=encPrd1 a.1 a.2

theorem encPrd_inj (a a':Int×Int) (h:encPrd a=encPrd a'):a=a':=by
 simp only[encPrd,encPrd1]at h
 try simp[]at h
 grind

theorem unPrd (a:Int) (b:Int):unenc encPrd ([(vI a),(vI b)])=some (a,b):=unenc_of encPrd_inj (a,b) rfl

noncomputable def resPrd1 (a:Int) (b:Int):AV×Heap:=(.tup [vI (IntKind.i64.wrap ((F.mlo a.natAbs b.natAbs:Nat):Int)),vB (decide (a*b<9223372036854775808))],[])

def prePrd1 (a:Int) (b:Int):Bool:=decide (0≤a)&&(decide (0≤b)&&(F.i64B a&&F.i64B b))

noncomputable def oPrd:Orc:=orc 63 true encPrd (fun a=>prePrd1 a.1 a.2) fun a=>resPrd1 a.1 a.2

theorem okPrd:OrcOK Tryz.prog noG oPrd:=by
 refine mk_ok Tryz.f63 (keep:=false) (by kernel_rfl) (by kernel_rfl) enPrd_ok mixed (no_loops (by kernel_rfl)) (by first | exact fun _ _=>⟨rfl,rfl⟩ | (intro h;cases h)) ?_
 rintro⟨a,b⟩ hpre hok
 show(runF enPrd false _ (encPrd1 _ _)).val=some (resPrd1 _ _)
 unfold encPrd1 resPrd1
 rw[evPrd]
 simp only[prePrd1,Bool.and_eq_true,decide_eq_true_eq]at hpre
 obtain⟨h1,h2,h3,h4⟩:=hpre
 simp only[F.i64B,Bool.and_eq_true,decide_eq_true_eq]at h3 h4
 obtain⟨m,rfl⟩:=Int.eq_ofNat_of_zero_le h1
 obtain⟨n,rfl⟩:=Int.eq_ofNat_of_zero_le h2
 have w1:=u64_wrap (n:=m) (by omega)
 have w2:=u64_wrap (n:=n) (by omega)
 rw[Int.natAbs_natCast,Int.natAbs_natCast]
 have d1:decide (m<18446744073709551616)=true:=decide_eq_true (by omega)
 have d2:decide (n<18446744073709551616)=true:=decide_eq_true (by omega)
 simp only[unMul,Option.bind_some,cond_true,w1,w2,d1,d2,Bool.and_self]
 have e:decide ((m:Int)*(n:Int)<9223372036854775808)=(bif ((F.mhi m n:Nat):Int)==0 then decide (((F.mlo m n:Nat):Int)<9223372036854775808) else false):=by
  rw[←Int.natCast_mul]
  unfold F.mhi F.mlo
  generalize m*n=p
  by_cases h:p<9223372036854775808
  ·rw[decide_eq_true (by omega),show((p / 18446744073709551616:Nat):Int)=0 by omega,decide_eq_true (show((p % 18446744073709551616:Nat):Int)<9223372036854775808 by omega)]
   rfl
  ·rw[decide_eq_false (by omega)]
   by_cases h2:p<18446744073709551616
   ·rw[show((p / 18446744073709551616:Nat):Int)=0 by omega,decide_eq_false (show ¬((p % 18446744073709551616:Nat):Int)<9223372036854775808 by omega)]
    rfl
   ·have:(((p / 18446744073709551616:Nat):Int)==0)=false:=by rw[beq_eq_false_iff_ne];omega
    rw[this];rfl
 rw[e]
 try (cases(((F.mhi m n:Nat):Int)==0)<;>rfl)

end M

def F.sumP (x:Int×Int) (l:List (Int×Int)):Int×Int:=l.foldl (fun x y=>(IntKind.i64.wrap (x.1+y.1),IntKind.i64.wrap (x.2+y.2))) x

theorem F.sumP_zip : ∀(a b:List Int) (u v:Int),b.length=a.length→F.sumP (u,v) (a.zip b)=(a.foldl (fun n x=>IntKind.i64.wrap (n+x)) u,b.foldl (fun n x=>IntKind.i64.wrap (n+x)) v)
 | [],[],u,v,_=>rfl
 | x::a,y::b,u,v,h=>by
  have ih:=F.sumP_zip a b (IntKind.i64.wrap (u+x)) (IntKind.i64.wrap (v+y)) (by simpa using h)
  unfold F.sumP at ih ⊢
  simp only[List.zip_cons_cons,List.foldl_cons]
  exact ih

theorem F.sumP_1 {a b:List Int} (h:b.length=a.length):(F.sumP (0,0) (a.zip b)).1=F.sumW a:=by rw[F.sumP_zip a b 0 0 h];rfl

theorem F.sumP_2 {a b:List Int} (h:b.length=a.length):(F.sumP (0,0) (a.zip b)).2=F.sumW b:=by rw[F.sumP_zip a b 0 0 h];rfl

namespace M

noncomputable def enLdr:Env:=envH ty noG lks [oDvs,oPrd] [] [] []

theorem enLdr_ok:EnvOK Tryz.prog enLdr:=by
 refine envH_ok lks_ok ty_ok ?_ ?_
 ·simp only[List.forall_mem_cons]
  exact⟨okDvs,okPrd,by simp⟩
 ·simp

theorem evLdr (s:Int) (g:Int) (sc:Int):(runF enLdr false Tryz.f25 [vI s,vI g,vI sc]).val =
 Option.bind (unenc encDvs [(vI (IntKind.i64.wrap (s*8))),(vI g)]) fun z=>bif decide ((0:Int)≤z.1)&&decide ((0:Int)≤z.2)
 then bif max (1:Int) (F.gcdI z.2 z.1)==0 then none else bif max (1:Int) (F.gcdI z.2 z.1)==0 then none else Option.bind (unenc encDvs [(vI
 sc),(vI (IntKind.i64.wrap (Int.tdiv g (max (1:Int) (F.gcdI z.2 z.1)))))]) fun z_1=>bif decide ((0:Int)≤z_1.1)&&decide ((0:Int) ≤
 z_1.2) then bif F.gcdI z_1.2 z_1.1==0 then none else bif F.gcdI z_1.2 z_1.1==0 then none else Option.bind (unenc encPrd [(vI (IntKind.wrap
 IntKind.i64 (Int.tdiv (IntKind.i64.wrap (s*8)) (max (1:Int) (F.gcdI z.2 z.1))))),(vI (IntKind.i64.wrap (Int.tdiv sc (F.gcdI z_1.2
 z_1.1))))]) fun z_2=>bif decide ((0:Int)≤z_2.1)&&(decide ((0:Int)≤z_2.2)&&(F.i64B z_2.1&&F.i64B z_2.2)) then bif !decide (z_2.1 *
 z_2.2<9223372036854775808) then some (AV.tup [AV.agg [(vI 0),(vI 0)],(vI 1)],[]) else some (AV.tup [AV.agg [(vI (IntKind.wrap
 IntKind.i64 (↑(F.mlo (Int.natAbs z_2.1) (Int.natAbs z_2.2)):Int))),(vI (IntKind.i64.wrap (Int.tdiv (IntKind.i64.wrap (Int.tdiv g (max (1:Int)
 (F.gcdI z.2 z.1)))) (F.gcdI z_1.2 z_1.1))))],(vI 0)],[]) else none else none else none:=(runFR_val).symm.trans (by kernel_rfl)

def encLdr1 (s:Int) (g:Int) (sc:Int):List AV:=[vI s,vI g,vI sc]

def encLdr (a:Int×Int×Int):List AV:=encLdr1 a.1 a.2.1 a.2.2

theorem encLdr_inj (a a':Int×Int×Int) (h:encLdr a=encLdr a'):a=a':=by
 simp only[encLdr,encLdr1]at h
 try simp[]at h
 grind

theorem unLdr (s:Int) (g:Int) (sc:Int):unenc encLdr ([(vI s),(vI g),(vI sc)])=some (s,g,sc):=unenc_of encLdr_inj (s,g,sc) rfl

noncomputable def resLdr1 (s:Int) (g:Int) (sc:Int):AV×Heap:=(.tup [.agg [vI (F.ldR s g sc).1,vI (F.ldR s g sc).2.1],vI (F.ldR s g sc).2.2],[])

def preLdr1 (s:Int) (g:Int) (sc:Int):Bool:=decide (0≤s)&&(decide (s≤1000000000000)&&(decide (1≤g)&&(decide (g≤1000000000000) && !F.noScale sc)))

noncomputable def oLdr:Orc:=orc 25 true encLdr (fun a=>preLdr1 a.1 a.2.1 a.2.2) fun a=>resLdr1 a.1 a.2.1 a.2.2

theorem okLdr:OrcOK Tryz.prog noG oLdr:=by
 refine mk_ok Tryz.f25 (keep:=false) (by kernel_rfl) (by kernel_rfl) enLdr_ok mixed (no_loops (by kernel_rfl)) (by first | exact fun _ _=>⟨rfl,rfl⟩ | (intro h;cases h)) ?_
 rintro⟨s,g,sc⟩ hpre hok
 show(runF enLdr false _ (encLdr1 _ _ _)).val=some (resLdr1 _ _ _)
 unfold encLdr1 resLdr1
 rw[evLdr]
 simp only[preLdr1,Bool.and_eq_true,decide_eq_true_eq,Bool.not_eq_true']at hpre
 obtain⟨h1,h2,h3,h4,h5⟩:=hpre
 have hs:1≤sc∧sc≤9000000000000000000:=by
  simp only[F.noScale,F.out,Bool.or_eq_false_iff,decide_eq_false_iff_not]at h5
  omega
 obtain⟨hG1,hH1,hgG,hD1, -, -⟩:=F.ld_ok h1 h3 hs.1
 have w8:IntKind.i64.wrap (s*8)=8*s:=by rw[wrap_id (by omega) (by omega)];omega
 have eG:max 1 (F.gcdI g (8*s))=F.ldG s g:=rfl
 have q1:IntKind.i64.wrap (g.tdiv (F.ldG s g))=g / F.ldG s g:=by
  rw[Int.tdiv_eq_ediv_of_nonneg (by omega)]
  have:=Int.ediv_le_self (F.ldG s g) (show 0≤g by omega)
  exact wrap_id (by omega) (by omega)
 have y0:0≤8*s / F.ldG s g:=Int.ediv_nonneg (by omega) (by omega)
 have y1:=Int.ediv_le_self (F.ldG s g) (show 0≤8*s by omega)
 have q2:IntKind.i64.wrap ((8*s).tdiv (F.ldG s g))=8*s / F.ldG s g:=by
  rw[Int.tdiv_eq_ediv_of_nonneg (by omega)]
  exact wrap_id (by omega) (by omega)
 have eH:F.gcdI (g / F.ldG s g) sc=F.ldH s g sc:=rfl
 have z0:0≤sc / F.ldH s g sc:=Int.ediv_nonneg (by omega) (by omega)
 have z1:=Int.ediv_le_self (F.ldH s g sc) (show 0≤sc by omega)
 have q3:IntKind.i64.wrap (sc.tdiv (F.ldH s g sc))=sc / F.ldH s g sc:=by
  rw[Int.tdiv_eq_ediv_of_nonneg (by omega)]
  exact wrap_id (by omega) (by omega)
 have x1:=Int.ediv_le_self (F.ldG s g) (show 0≤g by omega)
 have x2:=Int.ediv_le_self (F.ldH s g sc) (show 0≤g / F.ldG s g by omega)
 have q4:IntKind.i64.wrap ((g / F.ldG s g).tdiv (F.ldH s g sc))=F.ldD s g sc:=by
  rw[Int.tdiv_eq_ediv_of_nonneg (by omega)]
  unfold F.ldD at hD1 ⊢
  exact wrap_id (by omega) (by omega)
 have n1:(F.ldG s g==0)=false:=beq_eq_false_iff_ne.2 (by omega)
 have n2:(F.ldH s g sc==0)=false:=beq_eq_false_iff_ne.2 (by omega)
 have k1:F.i64B (8*s / F.ldG s g)=true:=by simp only[F.i64B,Bool.and_eq_true,decide_eq_true_eq];omega
 have k2:F.i64B (sc / F.ldH s g sc)=true:=by simp only[F.i64B,Bool.and_eq_true,decide_eq_true_eq];omega
 simp only[unDvs,unPrd,Option.bind_some,cond_true,cond_false,Bool.true_and,w8,eG,q1,q2,eH,q3,q4,n1,n2,k1,k2,decide_eq_true (show 0≤8*s by omega),decide_eq_true (show 0≤g by omega),decide_eq_true (show 0≤sc by omega),decide_eq_true (show 0≤g / F.ldG s g by omega),decide_eq_true y0,decide_eq_true z0,Bool.and_self]
 unfold F.ldR F.ldN
 by_cases h:8*s / F.ldG s g*(sc / F.ldH s g sc)<9223372036854775808
 case neg=>rw[decide_eq_false h];rfl
 rw[decide_eq_true h]
 have hm:IntKind.i64.wrap ((F.mlo (8*s / F.ldG s g).natAbs (sc / F.ldH s g sc).natAbs:Nat):Int)=8*s / F.ldG s g*(sc / F.ldH s g sc):=by
  have hp:=Int.mul_nonneg y0 z0
  obtain⟨m,hm⟩:=Int.eq_ofNat_of_zero_le y0
  obtain⟨n,hn⟩:=Int.eq_ofNat_of_zero_le z0
  rw[hm,hn]at h hp ⊢
  rw[Int.natAbs_natCast,Int.natAbs_natCast]
  rw[←Int.natCast_mul]at h hp ⊢
  unfold F.mlo
  obtain⟨p,hp⟩ : ∃p,m*n=p:=⟨_,rfl⟩
  rw[hp]at h ⊢
  rw[Nat.mod_eq_of_lt (by omega)]
  exact wrap_id (by omega) (by omega)
 rw[hm]
 try rfl

noncomputable def stMea (a b:List Int) (sc:Int) (u:Int) (v:Int) (k:Nat):St:=⟨[(22,vI k),(21,vI a.length),(10,vI v),(9,vI u),(6, .ptr 6 0 0),(2,vI sc),(1, .sl (b.map eI)),(0, .sl (a.map eI))],[(6,⟨true,0,0,[[vI 0,vI 0]]⟩)]⟩

noncomputable def stMea1 (a:(List Int)×(List Int)×Int×Int×Int×Nat):St:=stMea a.1 a.2.1 a.2.2.1 a.2.2.2.1 a.2.2.2.2.1 a.2.2.2.2.2

theorem stMea_inj (a a':(List Int)×(List Int)×Int×Int×Int×Nat) (h:stMea1 a=stMea1 a'):a=a':=by
 simp only[stMea1,stMea]at h
 try simp[ints_inj]at h
 grind

theorem unstMea0 (a:List Int) (b:List Int) (sc:Int)  : unenc stMea1 (St.mk [(22,(vI (0:Int))),(21,(vI (↑(List.length a):Int))),(10,(vI (0:Int))),(9,(vI (0:Int))),(6, .ptr 6 0 0),(2,(vI sc)),(1,AV.sl (List.map eI b)),(0,
 AV.sl (List.map eI a))] [(6,Blk.mk true 0 0 [[(vI (0:Int)),(vI (0:Int))]])])=some (a,b,sc,0,0,0):=unenc_of stMea_inj (a,b,sc,0,0,0) rfl

noncomputable def outMea (a b:List Int) (sc:Int) (u:Int) (v:Int) (k:Nat):T (Ex×St):= .ret (.exit 0,⟨[(10,vI (F.sumP (u,v) ((a.zip b).drop k)).2),(9,vI (F.sumP (u,v) ((a.zip b).drop k)).1),(6, .ptr 6 0 0),(2,vI sc)],[(6,⟨true,0,0,[[vI 0,vI 0]]⟩)]⟩)

noncomputable def prlMea (a b:List Int) (sc:Int) (u:Int) (v:Int) (k:Nat):Bool:=decide (a.length≤500)&&(decide (b.length=a.length)&&decide (k≤a.length))

noncomputable def lpMea:Nat×(St→T (Ex×St)):=(6,lpo [22,21,10,9,6,2,1,0] [6] stMea1 (fun a=>prlMea a.1 a.2.1 a.2.2.1 a.2.2.2.1 a.2.2.2.2.1 a.2.2.2.2.2) fun a=>outMea a.1 a.2.1 a.2.2.1 a.2.2.2.1 a.2.2.2.2.1 a.2.2.2.2.2)

noncomputable def enMea:Env:=envH ty noG lks [oSmf,oLdr] [] [] [lpMea]

theorem enMea_ok:EnvOK Tryz.prog enMea:=by
 refine envH_ok lks_ok ty_ok ?_ ?_
 ·simp only[List.forall_mem_cons]
  exact⟨okSmf,okLdr,by simp⟩
 ·simp

theorem evMeaL (a b:List Int) (sc:Int) (u:Int) (v:Int) (k:Nat):((exec enMea (loopN Tryz.f8 0) (stMea a b sc u v k)).bind (lessX ([22,21,10,9,6,2,1,0],[6]) ([10,9,6,2],[6]) ([],[]))).val =
 bif decide ((↑k:Int)<(↑(List.length a):Int)) then Option.bind (unenc (List.map eI) (List.map eI a)) fun z=>bif decide (k<List.length z) then
 Option.bind (unenc (List.map eI) (List.map eI b)) fun z_1=>bif decide (k<List.length z_1) then some (Ex.normal,St.mk [(22,(vI (IntKind.wrap IntKind.i64
 ((↑k:Int)+1)))),(21,(vI (↑(List.length a):Int))),(10,(vI (IntKind.i64.wrap (v+List.getD z_1 k 0)))),(9,(vI (IntKind.wrap IntKind.i64
 (u+List.getD z k 0)))),(6, .ptr 6 0 0),(2,(vI sc)),(1,AV.sl (List.map eI b)),(0,AV.sl (List.map eI a))] [(6,Blk.mk true 0 0 [[(vI 0),(vI 0)]])]) else none else none else some (Ex.exit (0:Nat),St.mk [(10,(vI v)),(9,(vI u)),(6, .ptr 6 0 0),(2,(vI sc))] [(6,Blk.mk true 0 0 [[(vI 0),(vI 0)]])]):=(execR_bind _ _ _).symm.trans (by kernel_rfl)

theorem lpMea_ok (a b:List Int) (sc:Int) (u:Int) (v:Int) (k:Nat) (hp:prlMea a b sc u v k=true) : ∀ex s',(outMea a b sc u v k).val=some (ex,s')→LoopOK enMea (loopN Tryz.f8 0) (stMea a b sc u v k) ex s':=by
 simp only[prlMea,Bool.and_eq_true,decide_eq_true_eq]at hp
 obtain⟨h1,h2,h3⟩:=hp
 have hzl:(a.zip b).length=a.length:=by rw[List.length_zip];omega
 refine loop_fold (xs:=a.zip b) (st:=fun x k=>stMea a b sc x.1 x.2 k) (f:=fun x y=>(IntKind.i64.wrap (x.1+y.1),IntKind.i64.wrap (x.2+y.2))) (fin:=fun x=>(.exit 0,⟨[(10,vI x.2),(9,vI x.1),(6, .ptr 6 0 0),(2,vI sc)],[(6,⟨true,0,0,[[vI 0,vI 0]]⟩)]⟩)) (I:=fun _ _=>True) (n:=([22,21,10,9,6,2,1,0],[6])) (e:=([10,9,6,2],[6])) (r:=([],[])) ?_ (fun _=>⟨by simp,rfl⟩) (fun _ _=>rfl) ?_ (u,v) k (by rw[hzl];exact h3) trivial
 ·intro x _
  rw[hzl]
  rw[evMeaL];simp
 ·rintro⟨u,v⟩ k y hy -
  rw[List.getElem?_zip_eq_some]at hy
  obtain⟨ha,hb⟩:=hy
  have hlt:=lt_at ha
  have hlt2:=lt_at hb
  refine⟨?_,trivial⟩
  rw[evMeaL]
  simp only[Option.bind_some,unInts,cond_true,cast_lt hlt,decide_eq_true hlt,decide_eq_true hlt2,next_at hlt (by omega:a.length≤9223372036854775807),getD_at ha,getD_at hb,stMea]
  try rfl

theorem evMea (a:List Int) (b:List Int) (sc:Int):(runF enMea false Tryz.f8 [.sl (a.map eI), .sl (b.map eI),vI sc]).val =
 Option.bind (unenc encSmf [AV.sl (List.map eI a),AV.sl (List.map eI b),(vI sc)]) fun z=>bif F.sgmF z.1 z.2.1 z.2.2 != 0
 then some (AV.tup [AV.agg [(vI 0),(vI 0)],(vI (F.sgmF z.1 z.2.1 z.2.2))],[]) else Option.bind (unenc stMea1 (St.mk [(22,(vI 0)),(21,
 (vI (↑(List.length (List.map eI a)):Int))),(10,(vI 0)),(9,(vI 0)),(6, .ptr 6 0 0),(2,(vI sc)),(1,AV.sl (List.map eI b)),(0,AV.sl (List.map eI
 a))] [(6,Blk.mk true 0 0 [[(vI 0),(vI 0)]])])) fun z=>bif decide (List.length z.1≤500) &&
 (decide (List.length z.2.1=List.length z.1)&&decide (z.2.2.2.2.2≤List.length z.1))&&true then Option.bind (unenc encLdr [(vI (F.sumP
 (z.2.2.2.1,z.2.2.2.2.1) (List.drop z.2.2.2.2.2 (List.zip z.1 z.2.1))).fst),(vI (F.sumP (z.2.2.2.1,z.2.2.2.2.1)
 (List.drop z.2.2.2.2.2 (List.zip z.1 z.2.1))).snd),(vI z.2.2.1)]) fun z=>bif decide ((0:Int)≤z.1)&&(decide (z.1 ≤
 (1000000000000:Int))&&(decide ((1:Int)≤z.2.1)&&(decide (z.2.1≤1000000000000) && !F.noScale z.2.2))) then some (AV.tup [AV.agg [(vI (F.ldR
 z.1 z.2.1 z.2.2).fst),(vI (F.ldR z.1 z.2.1 z.2.2).snd.fst)],(vI (F.ldR z.1 z.2.1 z.2.2).snd.snd)],[]) else none else none:=(runFR_val).symm.trans (by kernel_rfl)

def encMea1 (a:List Int) (b:List Int) (sc:Int):List AV:=[.sl (a.map eI), .sl (b.map eI),vI sc]

def encMea (a:(List Int)×(List Int)×Int):List AV:=encMea1 a.1 a.2.1 a.2.2

theorem encMea_inj (a a':(List Int)×(List Int)×Int) (h:encMea a=encMea a'):a=a':=by
 simp only[encMea,encMea1]at h
 try simp[ints_inj]at h
 grind

theorem unMea (a:List Int) (b:List Int) (sc:Int):unenc encMea ([AV.sl (List.map eI a),AV.sl (List.map eI b),(vI sc)])=some (a,b,sc):=unenc_of encMea_inj (a,b,sc) rfl

noncomputable def resMea1 (a:List Int) (b:List Int) (sc:Int):AV×Heap:=(.tup [.agg [vI (F.meanO a b sc).1,vI (F.meanO a b sc).2.1],vI (F.meanO a b sc).2.2],[])

def preMea1 (a:List Int) (b:List Int) (sc:Int):Bool:=true

noncomputable def oMea:Orc:=orc 8 true encMea (fun a=>preMea1 a.1 a.2.1 a.2.2) fun a=>resMea1 a.1 a.2.1 a.2.2

theorem okMea:OrcOK Tryz.prog noG oMea:=by
 refine mk_ok Tryz.f8 (keep:=false) (by kernel_rfl) (by kernel_rfl) enMea_ok mixed (one_loop (x0:=loopN Tryz.f8 0) (by kernel_rfl) (lpo_ok ?_)) (by first | exact fun _ _=>⟨rfl,rfl⟩ | (intro h;cases h)) ?_
 ·rintro⟨a,b,sc,u,v,k⟩ hp
  exact lpMea_ok a b sc u v k hp
 rintro⟨a,b,sc⟩ hpre hok
 show(runF enMea false _ (encMea1 _ _ _)).val=some (resMea1 _ _ _)
 unfold encMea1 resMea1
 rw[evMea]
 simp only[unSmf,unLdr,unstMea0,Option.bind_some,List.length_map,Bool.and_true,List.length_map]
 unfold F.meanO
 cases h:F.sgmF a b sc != 0
 case true=>rfl
 obtain⟨⟨g1,g2⟩,g3,g4,⟨g5,g6⟩,⟨g7,g8⟩, -⟩:=F.sgmF_ok (a:=a) (b:=b) (sc:=sc) (by simpa using h)
 rw[←F.sumP_1 g3]at g5 g6
 rw[←F.sumP_2 g3]at g7 g8
 simp only[cond_false,decide_eq_true g2,decide_eq_true g3,Nat.zero_le,decide_true,Bool.and_self,cond_true,List.drop_zero,decide_eq_true g5,decide_eq_true (show(F.sumP (0,0) (a.zip b)).1≤1000000000000 by omega),decide_eq_true g7,decide_eq_true (show(F.sumP (0,0) (a.zip b)).2≤1000000000000 by omega),g4,Bool.not_false]
 rw[←F.sumP_1 g3,←F.sumP_2 g3]
 try rfl

end M

def F.isOne:List Span→Bool
 | [x]=>decide (x.fr=0)&&decide (x.to=2)
 | _=>false

theorem F.isOne_eq {l:List Span} (h:F.isOne l=true):l=[⟨0,2⟩]:=by
 match l,h with
 | [⟨a,b⟩],h=>
  simp only[F.isOne,Bool.and_eq_true,decide_eq_true_eq]at h
  obtain⟨rfl,rfl⟩:=h
  rfl

namespace M

noncomputable def lksF:List Lk:=[⟨3,lkp eI 0⟩,⟨74,lkp eSpan default⟩]

theorem lksF_ok : ∀x∈lksF,LkOK x:=by
 simp only[lksF,List.forall_mem_cons]
 exact⟨lkp_ok,lkp_ok,by simp⟩

noncomputable def stCtr (l:List Span) (k:Nat):St:=⟨[(15,vI k),(14,vI l.length),(13, .sl (l.map eSpan)),(0, .sl (l.map eSpan))],[]⟩

noncomputable def stCtr1 (a:(List Span)×Nat):St:=stCtr a.1 a.2

theorem stCtr_inj (a a':(List Span)×Nat) (h:stCtr1 a=stCtr1 a'):a=a':=by
 simp only[stCtr1,stCtr]at h
 try simp[eSpans_inj]at h
 grind

theorem unstCtr0 (l:List Span)  : unenc stCtr1 (St.mk [(15,(vI (0:Int))),(14,(vI (↑(List.length l):Int))),(13,AV.sl (List.map eSpan l)),(0,AV.sl (List.map eSpan l))] [])=some (l,0):=unenc_of stCtr_inj (l,0) rfl

noncomputable def outCtr (l:List Span) (k:Nat):T (Ex×St):= .ret (.exit 1,⟨[(0, .sl (l.map eSpan))],[]⟩)

noncomputable def prlCtr (l:List Span) (k:Nat):Bool:=decide (k≤1)&&F.isOne l

noncomputable def lpCtr:Nat×(St→T (Ex×St)):=(6,lpo [15,14,13,0] [] stCtr1 (fun a=>prlCtr a.1 a.2) fun a=>outCtr a.1 a.2)

noncomputable def enCtr:Env:=envH ty noG lksF [oOut] [] [] [lpCtr]

theorem enCtr_ok:EnvOK Tryz.prog enCtr:=by
 refine envH_ok lksF_ok ty_ok ?_ ?_
 ·simp only[List.forall_mem_cons]
  exact⟨okOut,by simp⟩
 ·simp

theorem evCtrL (l:List Span) (k:Nat):((exec enCtr (loopN Tryz.f59 0) (stCtr l k)).bind (lessX ([15,14,13,0],[]) ([0],[]) ([2],[]))).val =
 (fun(q:Bool)=>(fun(q_1:List AV)=>(fun(q_2:Option (Ex×St))=>(fun(q_3:Option (Ex×St))=>bif decide ((↑k:Int)<(↑(List.length l):Int)) then
 Option.bind (unenc (List.map eSpan) (List.map eSpan l)) fun z=>(fun(q_4:Int)=>(fun(q_5:Bool)=>(fun(q:Bool)=>(fun(q_6:Option (Ex×St))=>
 bif decide (k<List.length z) then Option.bind (unenc encOut [(vI q_4),(vI 0),(vI 1000000000000)]) fun z=>bif F.out z.1
 z.2.1 z.2.2 then q_2 else bif q then Option.bind (idx (IntKind.i64.wrap ((↑k:Int) - (1:Int)))) fun z=>Option.bind (unenc (List.map eSpan)
 (List.map eSpan l)) fun z_1=>bif decide (z<List.length z_1) then bif bif q_5 then true else decide (q_4≤(List.getD z_1 z (Span.mk (0:Int) (0 :
 Int))).fr) then some (Ex.ret,St.mk [(2,(vI 8))] []) else q_6 else none else bif q then none else bif q then none else bif q then none else bif bif q_5 then true
 else false then some (Ex.ret,St.mk [(2,(vI 8))] []) else q_6 else none) (Option.bind (unenc encOut ((vI (List.getD z k (Span.mk (0:Int) (0:Int))).to) ::
 q_1)) fun z=>bif F.out z.1 z.2.1 z.2.2 then q_2 else q_3)) (!q_5&&q)) (bif (↑k:Int)==0 then q_4 != 0 else false))
 (List.getD z k (Span.mk (0:Int) (0:Int))).fr else some (Ex.exit (1:Nat),St.mk [(0,AV.sl (List.map eSpan l))] [])) (some (Ex.normal,St.mk [(15,(vI (IntKind.wrap
 IntKind.i64 ((↑k:Int)+1)))),(14,(vI (↑(List.length l):Int))),(13,AV.sl (List.map eSpan l)),(0,AV.sl (List.map eSpan l))] []))) (some (Ex.ret,St.mk
 [(2,(vI 1))] []))) [(vI 0),(vI 1000000)]) (decide ((0:Int)<(↑k:Int))):=(execR_bind _ _ _).symm.trans (by kernel_rfl)

theorem lpCtr_ok (l:List Span) (k:Nat) (hp:prlCtr l k=true) : ∀ex s',(outCtr l k).val=some (ex,s')→LoopOK enCtr (loopN Tryz.f59 0) (stCtr l k) ex s':=by
 simp only[prlCtr,Bool.and_eq_true,decide_eq_true_eq]at hp
 obtain⟨hp,hl⟩:=hp
 obtain rfl:=F.isOne_eq hl
 refine loop_gen (st:=fun k:Nat=>stCtr [⟨0,2⟩] k) (out:=fun k=>outCtr [⟨0,2⟩] k) (I:=fun k=>k≤1) (n:=([15,14,13,0],[])) (e:=([0],[])) (r:=([2],[])) (fun k=>1 - k) ?_ k hp
 clear hp hl
 intro k h
 by_cases h1:k=1
 ·subst h1
  left
  refine⟨_,?_,rfl,by simp,rfl⟩
  rw[evCtrL]
  try rfl
 ·obtain rfl:k=0:=by omega
  right
  refine⟨1,?_,rfl,by omega,by omega,rfl⟩
  rw[evCtrL]
  simp only[unOut,Option.bind_some,unSpans,show((0:Nat):Int)=0 from rfl,List.length_cons,List.length_nil]
  try rfl

theorem evCtr (l:List Span):(runF enCtr false Tryz.f59 [.sl (l.map eSpan)]).val =
 bif (↑(List.length (List.map eSpan l)):Int)==0 then some ((vI 9),[]) else bif decide ((500:Int)<(↑(List.length (List.map eSpan l)):Int)) then
 some ((vI 2),[]) else Option.bind (unenc stCtr1 (St.mk [(15,(vI 0)),(14,(vI (↑(List.length (List.map eSpan l)):Int))),(13,AV.sl (List.map eSpan
 l)),(0,AV.sl (List.map eSpan l))] [])) fun z=>bif decide (z.2≤1)&&F.isOne z.1&&true then Option.bind (idx (IntKind.wrap
 IntKind.i64 ((↑(List.length (List.map eSpan z.1)):Int) - (1:Int)))) fun z_1=>Option.bind (unenc (List.map eSpan) (List.map eSpan z.1)) fun z=>bif decide (z_1<List.length z) then bif (List.getD z z_1 (Span.mk (0:Int) (0:Int))).to==0 then some ((vI 13),[]) else some ((vI 0),[]) else none else none:=(runFR_val).symm.trans (by kernel_rfl)

def encCtr1 (l:List Span):List AV:=[.sl (l.map eSpan)]

def encCtr (a:(List Span)):List AV:=encCtr1 a

theorem encCtr_inj (a a':(List Span)) (h:encCtr a=encCtr a'):a=a':=by
 simp only[encCtr,encCtr1]at h
 try simp[eSpans_inj]at h
 grind

theorem unCtr (l:List Span):unenc encCtr ([AV.sl (List.map eSpan l)])=some (l):=unenc_of encCtr_inj (l) rfl

noncomputable def resCtr1 (l:List Span):AV×Heap:=(vI 0,[])

def preCtr1 (l:List Span):Bool:=F.isOne l

noncomputable def oCtr:Orc:=orc 59 true encCtr (fun a=>preCtr1 a) fun a=>resCtr1 a

theorem okCtr:OrcOK Tryz.prog noG oCtr:=by
 refine mk_ok Tryz.f59 (keep:=false) (by kernel_rfl) (by kernel_rfl) enCtr_ok mixed (one_loop (x0:=loopN Tryz.f59 0) (by kernel_rfl) (lpo_ok ?_)) (by first | exact fun _ _=>⟨rfl,rfl⟩ | (intro h;cases h)) ?_
 ·rintro⟨l,k⟩ hp
  exact lpCtr_ok l k hp
 rintro l hpre hok
 show(runF enCtr false _ (encCtr1 _)).val=some (resCtr1 _)
 unfold encCtr1 resCtr1
 rw[evCtr]
 obtain rfl:=F.isOne_eq hpre
 simp only[unstCtr0,Option.bind_some,List.length_map,unSpans,Bool.and_true]
 try rfl

noncomputable def enEof:Env:=envH ty noG lksF [] [] [] []

theorem enEof_ok:EnvOK Tryz.prog enEof:=by
 refine envH_ok lksF_ok ty_ok ?_ ?_
 ·simp
 ·simp

theorem evEof (l:List Span) (k:Int):(runF enEof false Tryz.f110 [.sl (l.map eSpan),vI k]).val =
 bif decide (IntKind.i64.wrap (k+1)<(↑(List.length (List.map eSpan l)):Int)) then Option.bind (idx (IntKind.i64.wrap (k+1))) fun(z
 : Nat)=>Option.bind (unenc (List.map eSpan) (List.map eSpan l)) fun z_1=>bif decide (z<List.length z_1) then some ((vI (List.getD z_1 z (Span.mk (0 :
 Int) (0:Int))).fr),[]) else none else some ((vI 1152921504606846976),[]):=(runFR_val).symm.trans (by kernel_rfl)

def encEof1 (l:List Span) (k:Int):List AV:=[.sl (l.map eSpan),vI k]

def encEof (a:(List Span)×Int):List AV:=encEof1 a.1 a.2

theorem encEof_inj (a a':(List Span)×Int) (h:encEof a=encEof a'):a=a':=by
 simp only[encEof,encEof1]at h
 try simp[eSpans_inj]at h
 grind

theorem unEof (l:List Span) (k:Int):unenc encEof ([AV.sl (List.map eSpan l),(vI k)])=some (l,k):=unenc_of encEof_inj (l,k) rfl

noncomputable def resEof1 (l:List Span) (k:Int):AV×Heap:=(vI 1152921504606846976,[])

def preEof1 (l:List Span) (k:Int):Bool:=F.isOne l&&decide (k=0)

noncomputable def oEof:Orc:=orc 110 true encEof (fun a=>preEof1 a.1 a.2) fun a=>resEof1 a.1 a.2

theorem okEof:OrcOK Tryz.prog noG oEof:=by
 refine mk_ok Tryz.f110 (keep:=false) (by kernel_rfl) (by kernel_rfl) enEof_ok mixed (no_loops (by kernel_rfl)) (by first | exact fun _ _=>⟨rfl,rfl⟩ | (intro h;cases h)) ?_
 rintro⟨l,k⟩ hpre hok
 show(runF enEof false _ (encEof1 _ _)).val=some (resEof1 _ _)
 unfold encEof1 resEof1
 rw[evEof]
 simp only[preEof1,Bool.and_eq_true,decide_eq_true_eq]at hpre
 obtain⟨hpre,rfl⟩:=hpre
 obtain rfl:=F.isOne_eq hpre
 simp only[Option.bind_some,List.length_map,unSpans]
 try rfl

noncomputable def stCam (l:List Span) (k:Nat) (x:Int):St:=⟨[(12,vI k),(11,vI l.length),(10, .sl (l.map eSpan)),(7,vI x),(2,vI 3),(1,vI 0),(0, .sl (l.map eSpan))],[]⟩

noncomputable def stCam1 (a:(List Span)×Nat×Int):St:=stCam a.1 a.2.1 a.2.2

theorem stCam_inj (a a':(List Span)×Nat×Int) (h:stCam1 a=stCam1 a'):a=a':=by
 simp only[stCam1,stCam]at h
 try simp[eSpans_inj]at h
 grind

theorem unstCam0 (l:List Span)  : unenc stCam1 (St.mk [(12,(vI (0:Int))),(11,(vI (↑(List.length l):Int))),(10,AV.sl (List.map eSpan l)),(7,(vI (0:Int))),(2,(vI (3:Int))),(1,(vI (0:Int))),(0,AV.sl
 (List.map eSpan l))] [])=some (l,0,0):=unenc_of stCam_inj (l,0,0) rfl

noncomputable def outCam (l:List Span) (k:Nat) (x:Int):T (Ex×St):= .ret (.exit 0,⟨[(7,vI 6)],[]⟩)

noncomputable def prlCam (l:List Span) (k:Nat) (x:Int):Bool:=decide (k≤1)&&decide (x=6*k)&&F.isOne l

noncomputable def lpCam:Nat×(St→T (Ex×St)):=(3,lpo [12,11,10,7,2,1,0] [] stCam1 (fun a=>prlCam a.1 a.2.1 a.2.2) fun a=>outCam a.1 a.2.1 a.2.2)

noncomputable def enCam:Env:=envH ty noG lksF [oEof] [] [] [lpCam]

theorem enCam_ok:EnvOK Tryz.prog enCam:=by
 refine envH_ok lksF_ok ty_ok ?_ ?_
 ·simp only[List.forall_mem_cons]
  exact⟨okEof,by simp⟩
 ·simp

theorem evCamL (l:List Span) (k:Nat) (x:Int):((exec enCam (loopN Tryz.f60 0) (stCam l k x)).bind (lessX ([12,11,10,7,2,1,0],[]) ([7],[]) ([],[]))).val =
 bif decide ((↑k:Int)<(↑(List.length l):Int)) then Option.bind (unenc (List.map eSpan) (List.map eSpan l)) fun z=>bif decide (k<List.length z) then
 Option.bind (unenc encEof [AV.sl (List.map eSpan l),(vI (↑k:Int))]) fun z_1=>bif F.isOne z_1.1&&decide (z_1.2=(0:Int)) then some
 (Ex.normal,St.mk [(12,(vI (IntKind.i64.wrap ((↑k:Int)+1)))),(11,(vI (↑(List.length l):Int))),(10,AV.sl (List.map eSpan l)),(7,(vI
 (IntKind.i64.wrap (x+IntKind.i64.wrap ((List.getD z k (Span.mk (0:Int) (0:Int))).to*max (0:Int) (IntKind.i64.wrap (min (3:Int)
 (1152921504606846976:Int) - max (0:Int) (List.getD z k (Span.mk (0:Int) (0:Int))).fr))))))),(2,(vI 3)),(1,(vI 0)),(0,AV.sl (List.map eSpan
 l))] []) else none else none else some (Ex.exit (0:Nat),St.mk [(7,(vI x))] []):=(execR_bind _ _ _).symm.trans (by kernel_rfl)

theorem lpCam_ok (l:List Span) (k:Nat) (x:Int) (hp:prlCam l k x=true) : ∀ex s',(outCam l k x).val=some (ex,s')→LoopOK enCam (loopN Tryz.f60 0) (stCam l k x) ex s':=by
 simp only[prlCam,Bool.and_eq_true,decide_eq_true_eq]at hp
 obtain⟨⟨h1,h2⟩,hl⟩:=hp
 obtain rfl:=F.isOne_eq hl
 subst h2
 refine loop_gen (st:=fun k:Nat=>stCam [⟨0,2⟩] k (6*k)) (out:=fun k=>outCam [⟨0,2⟩] k (6*k)) (I:=fun k=>k≤1) (n:=([12,11,10,7,2,1,0],[])) (e:=([7],[])) (r:=([],[])) (fun k=>1 - k) ?_ k h1
 clear h1
 intro k h
 by_cases h1:k=1
 ·subst h1
  left
  refine⟨_,?_,rfl,by simp,rfl⟩
  rw[evCamL]
  try rfl
 ·obtain rfl:k=0:=by omega
  right
  refine⟨1,?_,rfl,by omega,by omega,rfl⟩
  rw[evCamL]
  simp only[unEof,Option.bind_some,unSpans,show((0:Nat):Int)=0 from rfl,List.length_cons,List.length_nil]
  try rfl

theorem evCam (l:List Span):(runF enCam false Tryz.f60 [.sl (l.map eSpan),vI 0,vI 3]).val =
 Option.bind (unenc stCam1 (St.mk [(12,(vI 0)),(11,(vI (↑(List.length (List.map eSpan l)):Int))),(10,AV.sl (List.map eSpan l)),(7,(vI 0)),(2,(vI
 (3:Int))),(1,(vI 0)),(0,AV.sl (List.map eSpan l))] [])) fun z=>bif decide (z.2.1≤1)&&decide (z.2.2=(6 :
 Int)*(↑z.2.1:Int))&&F.isOne z.1&&true then some ((vI 6),[]) else none:=(runFR_val).symm.trans (by kernel_rfl)

def encCam1 (l:List Span):List AV:=[.sl (l.map eSpan),vI 0,vI 3]

def encCam (a:(List Span)):List AV:=encCam1 a

theorem encCam_inj (a a':(List Span)) (h:encCam a=encCam a'):a=a':=by
 simp only[encCam,encCam1]at h
 try simp[eSpans_inj]at h
 grind

theorem unCam (l:List Span):unenc encCam ([AV.sl (List.map eSpan l),(vI (0:Int)),(vI (3:Int))])=some (l):=unenc_of encCam_inj (l) rfl

noncomputable def resCam1 (l:List Span):AV×Heap:=(vI 6,[])

def preCam1 (l:List Span):Bool:=F.isOne l

noncomputable def oCam:Orc:=orc 60 true encCam (fun a=>preCam1 a) fun a=>resCam1 a

theorem okCam:OrcOK Tryz.prog noG oCam:=by
 refine mk_ok Tryz.f60 (keep:=false) (by kernel_rfl) (by kernel_rfl) enCam_ok mixed (one_loop (x0:=loopN Tryz.f60 0) (by kernel_rfl) (lpo_ok ?_)) (by first | exact fun _ _=>⟨rfl,rfl⟩ | (intro h;cases h)) ?_
 ·rintro⟨l,k,x⟩ hp
  exact lpCam_ok l k x hp
 rintro l hpre hok
 show(runF enCam false _ (encCam1 _)).val=some (resCam1 _)
 unfold encCam1 resCam1
 rw[evCam]
 obtain rfl:=F.isOne_eq hpre
 simp only[unstCam0,Option.bind_some,List.length_map,Bool.and_true]
 try rfl

noncomputable def enCaf:Env:=envH ty noG lksF [oCtr,oCam] [] [] []

theorem enCaf_ok:EnvOK Tryz.prog enCaf:=by
 refine envH_ok lksF_ok ty_ok ?_ ?_
 ·simp only[List.forall_mem_cons]
  exact⟨okCtr,okCam,by simp⟩
 ·simp

theorem evCaf (l:List Span):(runF enCaf false Tryz.f23 [.sl (l.map eSpan),vI 0,vI 3]).val =
 Option.bind (unenc encCtr [AV.sl (List.map eSpan l)]) fun z=>bif F.isOne z then Option.bind (unenc encCam [AV.sl (List.map eSpan l),(vI 0),(vI 3)]) fun z=>bif F.isOne z then some (AV.tup [(vI 6),(vI 0)],[]) else none else none:=(runFR_val).symm.trans (by kernel_rfl)

def encCaf1 (l:List Span):List AV:=[.sl (l.map eSpan),vI 0,vI 3]

def encCaf (a:(List Span)):List AV:=encCaf1 a

theorem encCaf_inj (a a':(List Span)) (h:encCaf a=encCaf a'):a=a':=by
 simp only[encCaf,encCaf1]at h
 try simp[eSpans_inj]at h
 grind

theorem unCaf (l:List Span):unenc encCaf ([AV.sl (List.map eSpan l),(vI (0:Int)),(vI (3:Int))])=some (l):=unenc_of encCaf_inj (l) rfl

noncomputable def resCaf1 (l:List Span):AV×Heap:=(.tup [vI 6,vI 0],[])

def preCaf1 (l:List Span):Bool:=F.isOne l

noncomputable def oCaf:Orc:=orc 23 true encCaf (fun a=>preCaf1 a) fun a=>resCaf1 a

theorem okCaf:OrcOK Tryz.prog noG oCaf:=by
 refine mk_ok Tryz.f23 (keep:=false) (by kernel_rfl) (by kernel_rfl) enCaf_ok mixed (no_loops (by kernel_rfl)) (by first | exact fun _ _=>⟨rfl,rfl⟩ | (intro h;cases h)) ?_
 rintro l hpre hok
 show(runF enCaf false _ (encCaf1 _)).val=some (resCaf1 _)
 unfold encCaf1 resCaf1
 rw[evCaf]
 obtain rfl:=F.isOne_eq hpre
 simp only[unCtr,unCam,Option.bind_some]
 try rfl

noncomputable def enComs:Env:=envH ty noG lksF [oCaf] [] [] []

theorem enComs_ok:EnvOK Tryz.prog enComs:=by
 refine envH_ok lksF_ok ty_ok ?_ ?_
 ·simp only[List.forall_mem_cons]
  exact⟨okCaf,by simp⟩
 ·simp

theorem evComs  : (runF enComs false Tryz.f7 []).val =
 Option.bind (unenc encCaf [AV.sl [[(vI 0),(vI 2)]],(vI 0),(vI 3)]) fun z=>bif F.isOne z then some ((vB ((6:Int)==6)),[]) else none:=(runFR_val).symm.trans (by kernel_rfl)

def encComs1  : List AV:=[]

def encComs (a:Unit):List AV:=encComs1

theorem encComs_inj (a a':Unit) (h:encComs a=encComs a'):a=a':=rfl

theorem unComs  : unenc encComs ([])=some ():=unenc_of encComs_inj () rfl

noncomputable def resComs1  : AV×Heap:=(vB true,[])

def preComs1  : Bool:=true

noncomputable def oComs:Orc:=orc 7 true encComs (fun a=>preComs1) fun a=>resComs1

theorem okComs:OrcOK Tryz.prog noG oComs:=by
 refine mk_ok Tryz.f7 (keep:=false) (by kernel_rfl) (by kernel_rfl) enComs_ok mixed (no_loops (by kernel_rfl)) (by first | exact fun _ _=>⟨rfl,rfl⟩ | (intro h;cases h)) ?_
 rintro⟨⟩ hpre hok
 show(runF enComs false _ (encComs1 )).val=some (resComs1 )
 unfold encComs1 resComs1
 rw[evComs]
 have e:unenc encCaf [.sl [[vI 0,vI 2]],vI 0,vI 3]=some [⟨0,2⟩]:=unCaf [⟨0,2⟩]
 rw[e]
 rfl

end M

def F.badS (x:Strm) (sc:Int) (s:Seg):Bool:=
 bif (F.meanO [s.bytes] [s.length] sc).2.2==0 then bif decide ((F.meanO [s.bytes] [s.length] sc).2.1<1) then true else bif decide ((F.meanO [s.bytes] [s.length] sc).2.1≤100000000) then decide (IntKind.i64.wrap (x.peak*(F.meanO [s.bytes] [s.length] sc).2.1)<(F.meanO [s.bytes] [s.length] sc).1) else false else false

def F.badM (x:Strm) (sc:Int) (ss:List Seg):Bool:=
 bif bif (F.meanO (ss.map (·.bytes)) (ss.map (·.length)) sc).2.2==0 then decide ((F.meanO (ss.map (·.bytes)) (ss.map (·.length)) sc).2.1≤100000000) else false then bif decide (IntKind.i64.wrap (x.mean*(F.meanO (ss.map (·.bytes)) (ss.map (·.length)) sc).2.1)<(F.meanO (ss.map (·.bytes)) (ss.map (·.length)) sc).1) then true else decide ((F.meanO (ss.map (·.bytes)) (ss.map (·.length)) sc).1≤IntKind.i64.wrap (IntKind.i64.wrap (x.mean - 1)*(F.meanO (ss.map (·.bytes)) (ss.map (·.length)) sc).2.1)) else false

def F.picN (l:List Std):Nat:=(l.filter fun r=> !r.sound).length

def F.TopOK (l:List Std) (ss:List (List Seg)) (st:List Strm):Prop:=
 ss.length=l.length∧l.length≤12∧st.length=F.picN l ∧
  ∀i r,l[i]? = some r→r.sound=false → ∃x,st[F.picN (l.take i)]? = some x∧(ss.getD i []).length≤1000∧(∀s∈ss.getD i [],F.badS x r.scale s=false)∧F.badM x r.scale (ss.getD i [])=false

noncomputable def F.topB (l:List Std) (ss:List (List Seg)) (st:List Strm):Bool:=@decide (F.TopOK l ss st) (Classical.propDecidable _)

theorem F.topB_iff {l:List Std} {ss:List (List Seg)} {st:List Strm}:F.topB l ss st=true↔F.TopOK l ss st:=by
 unfold F.topB
 exact @decide_eq_true_iff _ (Classical.propDecidable _)

namespace M

noncomputable def stTop (l:List Std) (bd:List Int) (ss:List (List Seg)) (ls:List Lst) (st:List Strm) (sn:List Snd) (u:Nat) (i:Nat):St:=⟨[(12,vI i),(11,vI u),(9, .ptr 9 0 0),(0, .sl (l.map eStd))],[(9,⟨true,0,0,[[.sl (bd.map eI), .sl (ss.map eL_eSeg), .sl (ls.map eLst), .sl (st.map eStrm), .sl (sn.map eSnd)]]⟩)]⟩

noncomputable def stTop1 (a:(List Std)×(List Int)×(List (List Seg))×(List Lst)×(List Strm)×(List Snd)×Nat×Nat):St:=stTop a.1 a.2.1 a.2.2.1 a.2.2.2.1 a.2.2.2.2.1 a.2.2.2.2.2.1 a.2.2.2.2.2.2.1 a.2.2.2.2.2.2.2

theorem stTop_inj (a a':(List Std)×(List Int)×(List (List Seg))×(List Lst)×(List Strm)×(List Snd)×Nat×Nat) (h:stTop1 a=stTop1 a'):a=a':=by
 simp only[stTop1,stTop]at h
 try simp[ints_inj,eLsts_inj,eL_eSegs_inj,eStds_inj,eSnds_inj,eStrms_inj]at h
 grind

theorem unstTop0 (l:List Std) (bd:List Int) (ss:List (List Seg)) (ls:List Lst) (st:List Strm) (sn:List Snd)  : unenc stTop1 (St.mk [(12,(vI (0:Int))),(11,(vI (0:Int))),(9, .ptr 9 0 0),(0,AV.sl (List.map eStd l))] [(9,Blk.mk true 0 0 [[AV.sl (List.map eI bd),AV.sl (List.map eL_eSeg
 ss),AV.sl (List.map eLst ls),AV.sl (List.map eStrm st),AV.sl (List.map eSnd sn)]])])=some (l,bd,ss,ls,st,sn,0,0):=unenc_of stTop_inj (l,bd,ss,ls,st,sn,0,0) rfl

noncomputable def outTop (l:List Std) (bd:List Int) (ss:List (List Seg)) (ls:List Lst) (st:List Strm) (sn:List Snd) (u:Nat) (i:Nat):T (Ex×St):= .ret (.exit 0,⟨[(11,vI (F.picN l)),(9, .ptr 9 0 0)],[(9,⟨true,0,0,[[.sl (bd.map eI), .sl (ss.map eL_eSeg), .sl (ls.map eLst), .sl (st.map eStrm), .sl (sn.map eSnd)]]⟩)]⟩)

noncomputable def prlTop (l:List Std) (bd:List Int) (ss:List (List Seg)) (ls:List Lst) (st:List Strm) (sn:List Snd) (u:Nat) (i:Nat):Bool:=F.topB l ss st&&decide (i≤l.length)&&decide (u=F.picN (l.take i))

noncomputable def lpTop:Nat×(St→T (Ex×St)):=(6,lpo [12,11,9,0] [9] stTop1 (fun a=>prlTop a.1 a.2.1 a.2.2.1 a.2.2.2.1 a.2.2.2.2.1 a.2.2.2.2.2.1 a.2.2.2.2.2.2.1 a.2.2.2.2.2.2.2) fun a=>outTop a.1 a.2.1 a.2.2.1 a.2.2.2.1 a.2.2.2.2.1 a.2.2.2.2.2.1 a.2.2.2.2.2.2.1 a.2.2.2.2.2.2.2)

noncomputable def stInn (l:List Std) (bd:List Int) (ss:List (List Seg)) (ls:List Lst) (st:List Strm) (sn:List Snd) (x:Strm) (u:Int) (i:Nat) (b g:List Int) (k:Nat):St:=⟨[(16,vI k),(15, .own 15),(14, .own 14),(13, .ptr 13 0 0),(12,vI i),(11,vI u),(9, .ptr 9 0 0),(0, .sl (l.map eStd))],[(15,⟨false,3,1,g.map eI⟩),(14,⟨false,3,1,b.map eI⟩),(13,⟨true,0,0,[eStrm x]⟩),(9,⟨true,0,0,[[.sl (bd.map eI), .sl (ss.map eL_eSeg), .sl (ls.map eLst), .sl (st.map eStrm), .sl (sn.map eSnd)]]⟩)]⟩

noncomputable def stInn1 (a:(List Std)×(List Int)×(List (List Seg))×(List Lst)×(List Strm)×(List Snd)×Strm×Int×Nat×(List Int)×(List Int)×Nat):St:=stInn a.1 a.2.1 a.2.2.1 a.2.2.2.1 a.2.2.2.2.1 a.2.2.2.2.2.1 a.2.2.2.2.2.2.1 a.2.2.2.2.2.2.2.1 a.2.2.2.2.2.2.2.2.1 a.2.2.2.2.2.2.2.2.2.1 a.2.2.2.2.2.2.2.2.2.2.1 a.2.2.2.2.2.2.2.2.2.2.2

theorem stInn_inj (a a':(List Std)×(List Int)×(List (List Seg))×(List Lst)×(List Strm)×(List Snd)×Strm×Int×Nat×(List Int)×(List Int)×Nat) (h:stInn1 a=stInn1 a'):a=a':=by
 simp only[stInn1,stInn]at h
 try simp[ints_inj,eLsts_inj,eL_eSegs_inj,eStds_inj,eSnds_inj,eStrms_inj,eStrm_iff]at h
 grind

theorem unstInn0 (l:List Std) (bd:List Int) (ss:List (List Seg)) (ls:List Lst) (st:List Strm) (sn:List Snd) (x:Strm) (u:Int) (i:Nat)  : unenc stInn1 (St.mk [(16,(vI (0:Int))),(15, .own 15),(14, .own 14),(13, .ptr 13 0 0),(12,(vI (↑i:Int))),(11,(vI u)),(9, .ptr 9 0 0),(0,AV.sl (List.map eStd l))] [(15,
 Blk.mk false 3 1 []),(14,Blk.mk false 3 1 []),(13,Blk.mk true 0 0 [[(vS x.name),(vS x.uri),(vI x.mean),(vI x.peak),(vI x.width),(vI x.height),(vS x.sound)]]),
 (9,Blk.mk true 0 0 [[AV.sl (List.map eI bd),AV.sl (List.map eL_eSeg ss),AV.sl (List.map eLst ls),AV.sl (List.map eStrm st),AV.sl (List.map eSnd sn)]])])=some (l,bd,ss,ls,st,sn,x,u,i,[],[],0):=unenc_of stInn_inj (l,bd,ss,ls,st,sn,x,u,i,[],[],0) rfl

noncomputable def outInn (l:List Std) (bd:List Int) (ss:List (List Seg)) (ls:List Lst) (st:List Strm) (sn:List Snd) (x:Strm) (u:Int) (i:Nat) (b g:List Int) (k:Nat):T (Ex×St):= .ret (.exit 2,⟨[(15, .own 15),(14, .own 14),(13, .ptr 13 0 0),(12,vI i),(11,vI u),(9, .ptr 9 0 0),(0, .sl (l.map eStd))],[(15,⟨false,3,1,(g++((ss.getD i []).drop k).map (·.length)).map eI⟩),(14,⟨false,3,1,(b++((ss.getD i []).drop k).map (·.bytes)).map eI⟩),(13,⟨true,0,0,[eStrm x]⟩),(9,⟨true,0,0,[[.sl (bd.map eI), .sl (ss.map eL_eSeg), .sl (ls.map eLst), .sl (st.map eStrm), .sl (sn.map eSnd)]]⟩)]⟩)

noncomputable def prlInn (l:List Std) (bd:List Int) (ss:List (List Seg)) (ls:List Lst) (st:List Strm) (sn:List Snd) (x:Strm) (u:Int) (i:Nat) (b g:List Int) (k:Nat):Bool:=decide (i<l.length)&&decide (i<ss.length)&&decide ((ss.getD i []).length≤1000)&&decide (k≤(ss.getD i []).length)&&decide (b.length≤k)&&decide (g.length≤k)&&(ss.getD i []).all fun s=> !F.badS x (l.getD i default).scale s

noncomputable def lpInn:Nat×(St→T (Ex×St)):=(15,lpo [16,15,14,13,12,11,9,0] [15,14,13,9] stInn1 (fun a=>prlInn a.1 a.2.1 a.2.2.1 a.2.2.2.1 a.2.2.2.2.1 a.2.2.2.2.2.1 a.2.2.2.2.2.2.1 a.2.2.2.2.2.2.2.1 a.2.2.2.2.2.2.2.2.1 a.2.2.2.2.2.2.2.2.2.1 a.2.2.2.2.2.2.2.2.2.2.1 a.2.2.2.2.2.2.2.2.2.2.2) fun a=>outInn a.1 a.2.1 a.2.2.1 a.2.2.2.1 a.2.2.2.2.1 a.2.2.2.2.2.1 a.2.2.2.2.2.2.1 a.2.2.2.2.2.2.2.1 a.2.2.2.2.2.2.2.2.1 a.2.2.2.2.2.2.2.2.2.1 a.2.2.2.2.2.2.2.2.2.2.1 a.2.2.2.2.2.2.2.2.2.2.2)

noncomputable def enTop:Env:=envH ty noG lks [oPub,oMea,oComs] [] [] [lpTop,lpInn]

theorem enTop_ok:EnvOK Tryz.prog enTop:=by
 refine envH_ok lks_ok ty_ok ?_ ?_
 ·simp only[List.forall_mem_cons]
  exact⟨okPub,okMea,okComs,by simp⟩
 ·simp

theorem fold_bg (l:List Seg) : ∀(b g:List Int),l.foldl (fun(a:List Int×List Int) y=>(a.1++[y.bytes],a.2++[y.length])) (b,g)=(b++l.map (·.bytes),g++l.map (·.length)):=by
 induction l with
 | nil=>intro b g;simp
 | cons y l ih=>intro b g;rw[List.foldl_cons,ih];simp

theorem evInnL (l:List Std) (bd:List Int) (ss:List (List Seg)) (ls:List Lst) (st:List Strm) (sn:List Snd) (x:Strm) (u:Int) (i:Nat) (b g:List Int) (k:Nat):((exec enTop (loopN Tryz.f3 1) (stInn l bd ss ls st sn x u i b g k)).bind (lessX ([16,15,14,13,12,11,9,0],[15,14,13,9]) ([15,14,13,12,11,9,0],[15,14,13,9]) ([8],[]))).val =
 (fun(q:Seg)=>(fun(q_1:List (Nat×AV))=>(fun(q_2:List (Nat×Blk))=>Option.bind (unenc (List.map eL_eSeg) (List.map eL_eSeg ss)) fun(z:List (List Seg))
 =>bif decide (i<List.length z) then bif decide ((↑k:Int)<(↑(List.length (List.map eSeg (List.getD z i []))):Int)) then Option.bind (unenc (List.map eL_eSeg)
 (List.map eL_eSeg ss)) fun z=>bif decide (i<List.length z) then Option.bind (unenc (List.map eSeg) (List.map eSeg (List.getD z i []))) fun(z :
 List Seg)=>bif decide (k<List.length z) then bif Nat.ble ((List.length (List.map eI b)+1)*8) 140737488355328&&true then bif Nat.ble
 ((List.length (List.map eI g)+1)*8) (140737488355328:Nat)&&true then Option.bind (unenc (List.map eStd) (List.map eStd l)) fun z_1=>
 bif decide (i<List.length z_1) then Option.bind (unenc encMea [AV.sl [[(vI (List.getD z k q).bytes)]],AV.sl [[(vI (List.getD z k q).length)]],(vI (List.getD z_1 i
 (Std.mk (ByteArray.mk (Array.mk [])) (0:Int) false [])).scale)]) fun z_2=>(fun(q_3:Int×Int×Int)=>(fun(q_4:Int)=>bif bif
 q_3.snd.snd==0 then bif decide (q_4<1) then true else bif decide (q_4≤100000000) then decide (IntKind.i64.wrap (x.peak*q_4) <
 q_3.fst) else false else false then some (Ex.ret,St.mk [(8,(vB false))] []) else some (Ex.normal,St.mk ((16,(vI (IntKind.i64.wrap ((↑k:Int)+1))))
 :: q_1) ((15,Blk.mk false 3 1 (List.map eI g++[[(vI (List.getD z k q).length)]]))::(14,Blk.mk false 3 1 (List.map eI b++[[(vI (List.getD z k q).bytes)]])) ::
 q_2))) q_3.snd.fst) (F.meanO z_2.1 z_2.2.1 z_2.2.2) else none else none else none else none else none else some (Ex.exit (2:Nat),St.mk q_1 ((15,Blk.mk false
 3 1 (List.map eI g))::(14,Blk.mk false 3 1 (List.map eI b))::q_2)) else none) [(13,Blk.mk true 0 0 [[(vS x.name),(vS x.uri),(vI x.mean),(vI x.peak),(vI x.width),
 (vI x.height),(vS x.sound)]]),(9,Blk.mk true 0 0 [[AV.sl (List.map eI bd),AV.sl (List.map eL_eSeg ss),AV.sl (List.map eLst ls),AV.sl (List.map eStrm st),AV.sl
 (List.map eSnd sn)]])]) [(15, .own 15),(14, .own 14),(13, .ptr 13 0 0),(12,(vI (↑i:Int))),(11,(vI u)),(9, .ptr 9 0 0),(0,AV.sl (List.map eStd l))]) (Seg.mk (0 :
 Int) (0:Int) (0:Int) (0:Int) (0:Int) (0:Int) (0:Int)):=(execR_bind _ _ _).symm.trans (by kernel_rfl)

theorem lpInn_ok (l:List Std) (bd:List Int) (ss:List (List Seg)) (ls:List Lst) (st:List Strm) (sn:List Snd) (x:Strm) (u:Int) (i:Nat) (b g:List Int) (k:Nat) (hp:prlInn l bd ss ls st sn x u i b g k=true) : ∀ex s',(outInn l bd ss ls st sn x u i b g k).val=some (ex,s')→LoopOK enTop (loopN Tryz.f3 1) (stInn l bd ss ls st sn x u i b g k) ex s':=by
 simp only[prlInn,Bool.and_eq_true,decide_eq_true_eq]at hp
 obtain⟨⟨⟨⟨⟨⟨h1,h2⟩,h3⟩,h4⟩,h5⟩,h6⟩,h7⟩:=hp
 obtain⟨r,hr⟩ : ∃r,l[i]? = some r:=⟨l[i],List.getElem?_eq_getElem h1⟩
 obtain⟨S,hS⟩ : ∃S,ss[i]? = some S:=⟨ss[i],List.getElem?_eq_getElem h2⟩
 have hS1:ss.getD i []=S:=by rw[List.getD_eq_getElem?_getD,hS];rfl
 have hr1:l.getD i default=r:=by rw[List.getD_eq_getElem?_getD,hr];rfl
 rw[hS1]at h3 h4 h7
 rw[hr1]at h7
 unfold outInn
 rw[hS1]
 have hf:=fold_bg (S.drop k) b g
 rw[show b++(S.drop k).map (·.bytes)=((S.drop k).foldl (fun(a:List Int×List Int) y=>(a.1++[y.bytes],a.2++[y.length])) (b,g)).1 by rw[hf],show g++(S.drop k).map (·.length)=((S.drop k).foldl (fun(a:List Int×List Int) y=>(a.1++[y.bytes],a.2++[y.length])) (b,g)).2 by rw[hf]]
 refine loop_fold (xs:=S) (st:=fun a k=>stInn l bd ss ls st sn x u i a.1 a.2 k) (f:=fun(a:List Int×List Int) y=>(a.1++[y.bytes],a.2++[y.length])) (fin:=fun a=>(.exit 2,⟨[(15, .own 15),(14, .own 14),(13, .ptr 13 0 0),(12,vI i),(11,vI u),(9, .ptr 9 0 0),(0, .sl (l.map eStd))],[(15,⟨false,3,1,(a.2).map eI⟩),(14,⟨false,3,1,(a.1).map eI⟩),(13,⟨true,0,0,[eStrm x]⟩),(9,⟨true,0,0,[[.sl (bd.map eI), .sl (ss.map eL_eSeg), .sl (ls.map eLst), .sl (st.map eStrm), .sl (sn.map eSnd)]]⟩)]⟩)) (I:=fun a k=>a.1.length≤k∧a.2.length≤k) (n:=([16,15,14,13,12,11,9,0],[15,14,13,9])) (e:=([15,14,13,12,11,9,0],[15,14,13,9])) (r:=([8],[])) ?_ (fun _=>⟨by simp,rfl⟩) (fun _ _=>rfl) ?_ (b,g) k h4 ⟨h5,h6⟩
 ·intro x _
  rw[evInnL]
  simp only[Option.bind_some,List.length_map,unSegs,uneL_eSegs,unStds,cond_true,Bool.and_true,getD_at hS,getD_at hr,decide_eq_true h1,decide_eq_true h2]
  simp[eStrm]
 ·rintro⟨b,g⟩ k y hy ⟨hb,hg⟩
  have hlt:=lt_at hy
  have hq:=List.all_eq_true.1 h7 y (List.mem_of_getElem? hy)
  simp only at hb hg
  refine⟨?_,by simp only[List.length_append,List.length_cons,List.length_nil];omega⟩
  rw[evInnL]
  have e1:unenc encMea [.sl [[vI y.bytes]], .sl [[vI y.length]],vI r.scale]=some ([y.bytes],[y.length],r.scale):=unMea [y.bytes] [y.length] r.scale
  have e2:((b.length+1)*8).ble 140737488355328=true:=by rw[Nat.ble_eq];omega
  have e3:((g.length+1)*8).ble 140737488355328=true:=by rw[Nat.ble_eq];omega
  simp only[Option.bind_some,List.length_map,unSegs,uneL_eSegs,unStds,cond_true,Bool.and_true,cast_lt hlt,decide_eq_true hlt,next_at hlt (by omega:S.length≤9223372036854775807),getD_at hS,getD_at hr,getD_at hy,decide_eq_true h1,decide_eq_true h2,stInn,e1,e2,e3]
  have hq2:F.badS x r.scale y=false:=by simpa using hq
  unfold F.badS at hq2
  rw[hq2,List.map_append,List.map_append]
  rfl

theorem evTopL (l:List Std) (bd:List Int) (ss:List (List Seg)) (ls:List Lst) (st:List Strm) (sn:List Snd) (u:Nat) (i:Nat):((exec enTop (loopN Tryz.f3 0) (stTop l bd ss ls st sn u i)).bind (lessX ([12,11,9,0],[9]) ([11,9],[9]) ([8],[]))).val =
 (fun(q:Nat×AV)=>(fun(q_1:Strm)=>(fun(q_2:List (Nat×AV))=>(fun(q_3:List (Nat×Blk))=>bif decide ((↑i:Int)<(↑(List.length (List.map eStd l)) :
 Int)) then Option.bind (unenc (List.map eStd) (List.map eStd l)) fun z=>bif decide (i<List.length z) then bif (List.getD z i (Std.mk (ByteArray.mk
 (Array.mk [])) (0:Int) false [])).sound then some (Ex.normal,St.mk ((12,(vI (IntKind.i64.wrap ((↑i:Int)+1))))::(11,(vI (↑u:Int)))::q_2) q_3)
 else bif bif decide ((↑(List.length (List.map eStrm st)):Int)≤(↑u:Int)) then true else decide ((↑(List.length (List.map eL_eSeg ss)):Int)≤(↑i:Int)) then some
 (Ex.ret,St.mk [(8,(vB false))] []) else Option.bind (unenc (List.map eStrm) (List.map eStrm st)) fun z=>bif decide (u<List.length z) then Option.bind
 (unenc stInn1 (St.mk ((16,(vI 0))::(15, .own 15)::(14, .own 14)::(13, .ptr 13 0 0)::(12,(vI (↑i:Int)))::(11,(vI (IntKind.i64.wrap ((↑u :
 Int)+1))))::q_2) ((15,Blk.mk false 3 1 [])::(14,Blk.mk false 3 1 [])::(13,Blk.mk true 0 0 [[(vS (List.getD z u q_1).name),(vS (List.getD z u q_1).uri),
 (vI (List.getD z u q_1).mean),(vI (List.getD z u q_1).peak),(vI (List.getD z u q_1).width),(vI (List.getD z u q_1).height),(vS (List.getD z u q_1).sound)]])::q_3)))
 fun z=>(fun(q_4:Strm×Int×Nat×List Int
 × List Int×Nat)=>(fun(q_5:Int)=>(fun(q_6:Nat)=>(fun(q_7:List Int)=>(fun(q_8:Nat)=>(fun(q_9:List Int)=>(fun(q_10:List Seg)=>(fun(q_11 :
 Nat)=>(fun(q_12:List Seg)=>bif (decide (q_6<List.length z.1)&&decide (q_6<List.length z.2.2.1)&&decide (q_11≤1000)&&decide (q_8≤q_11)
 && decide (List.length q_7≤q_8)&&decide (List.length q_9≤q_8)&&List.all q_10 fun(s:Seg)=> !F.badS q_4.fst (List.getD z.1 q_6 default).scale s)&&true then
 Option.bind (unenc (List.map eStd) (List.map eStd z.1)) fun z_1=>bif decide (q_6<List.length z_1) then Option.bind (unenc encMea [AV.sl (List.map eI
 (q_7++List.map (fun(x:Seg)=>x.bytes) q_12)),AV.sl (List.map eI (q_9++List.map (fun(x:Seg)=>x.length) q_12)),(vI (List.getD z_1 q_6 (Std.mk (ByteArray.mk
 (Array.mk [])) (0:Int) false [])).scale)]) fun z_2=>(fun(q_13:Int)=>(fun(q_14:Int)=>bif bif bif (F.meanO z_2.1 z_2.2.1
 z_2.2.2).snd.snd==0 then decide (q_14≤100000000) else false then bif decide (IntKind.i64.wrap (q_5*q_14)<q_13) then true else decide
 (q_13≤IntKind.i64.wrap (IntKind.i64.wrap (q_5 - (1:Int))*q_14)) else false then some (Ex.ret,St.mk [(8,(vB false))] []) else some (Ex.normal,St.mk
 [(12,(vI (IntKind.i64.wrap ((↑q_6:Int)+1)))),(11,(vI q_4.snd.fst)),q,(0,AV.sl (List.map eStd z.1))] [(9,Blk.mk true 0 0 [[AV.sl (List.map eI
 z.2.1),AV.sl (List.map eL_eSeg z.2.2.1),AV.sl (List.map eLst z.2.2.2.1),AV.sl (List.map eStrm z.2.2.2.2.1),AV.sl (List.map eSnd
 z.2.2.2.2.2.1)]])])) (F.meanO z_2.1 z_2.2.1 z_2.2.2).snd.fst) (F.meanO z_2.1 z_2.2.1 z_2.2.2).fst else none else none) (List.drop q_8
 q_10)) (List.length q_10)) (List.getD z.2.2.1 q_6 [])) q_4.snd.snd.snd.snd.fst) q_4.snd.snd.snd.snd.snd) q_4.snd.snd.snd.fst) q_4.snd.snd.fst) q_4.fst.mean)
 z.2.2.2.2.2.2 else none else none else some (Ex.exit (0:Nat),St.mk [(11,(vI (↑u:Int))),q] q_3)) [(9,Blk.mk true 0 0 [[AV.sl (List.map eI bd),AV.sl
 (List.map eL_eSeg ss),AV.sl (List.map eLst ls),AV.sl (List.map eStrm st),AV.sl (List.map eSnd sn)]])]) [q,(0,AV.sl (List.map eStd l))]) (Strm.mk (ByteArray.mk
 (Array.mk [])) (ByteArray.mk (Array.mk [])) (0:Int) (0:Int) (0:Int) (0:Int) (ByteArray.mk (Array.mk [])))) (9, .ptr 9 0 0):=(execR_bind _ _ _).symm.trans (by kernel_rfl)

theorem lpTop_ok (l:List Std) (bd:List Int) (ss:List (List Seg)) (ls:List Lst) (st:List Strm) (sn:List Snd) (u:Nat) (i:Nat) (hp:prlTop l bd ss ls st sn u i=true) : ∀ex s',(outTop l bd ss ls st sn u i).val=some (ex,s')→LoopOK enTop (loopN Tryz.f3 0) (stTop l bd ss ls st sn u i) ex s':=by
 simp only[prlTop,Bool.and_eq_true,decide_eq_true_eq]at hp
 obtain⟨⟨h1,h2⟩,h3⟩:=hp
 have ht:=F.topB_iff.1 h1
 obtain⟨t1,t2,t3,t4⟩:=ht
 subst h3
 refine loop_gen (st:=fun i:Nat=>stTop l bd ss ls st sn (F.picN (l.take i)) i) (out:=fun i=>outTop l bd ss ls st sn (F.picN (l.take i)) i) (I:=fun i=>i≤l.length) (n:=([12,11,9,0],[9])) (e:=([11,9],[9])) (r:=([8],[])) (fun i=>l.length - i) ?_ i h2
 clear h2
 intro i h2
 by_cases he:i=l.length
 ·subst he
  left
  refine⟨_,?_,rfl,by simp,rfl⟩
  rw[evTopL]
  simp only[unMea,unstInn0,Option.bind_some,List.length_map,unStds,unStrms,Bool.and_true,List.take_length]
  simp
 ·have hlt:i<l.length:=by omega
  obtain⟨r,hr⟩ : ∃r,l[i]? = some r:=⟨l[i],List.getElem?_eq_getElem hlt⟩
  obtain⟨S,hS⟩ : ∃S,ss[i]? = some S:=⟨ss[i]'(by omega),List.getElem?_eq_getElem (by omega)⟩
  have hS1:ss.getD i []=S:=by rw[List.getD_eq_getElem?_getD,hS];rfl
  have hr1:l.getD i default=r:=by rw[List.getD_eq_getElem?_getD,hr];rfl
  have hlt2:i<ss.length:=by omega
  have hn:F.picN (l.take (i+1))=F.picN (l.take i)+(bif r.sound then 0 else 1):=by
   unfold F.picN
   rw[List.take_add_one,hr,List.filter_append,List.length_append]
   cases hs:r.sound<;>simp[hs]
  have hb:F.picN (l.take i)≤i:=by
   unfold F.picN
   exact Nat.le_trans (List.length_filter_le _ _) (by rw[List.length_take];omega)
  right
  refine⟨i+1,?_,rfl,by omega,by omega,rfl⟩
  cases hs:r.sound with
  | true=>
   rw[hn,hs]
   rw[evTopL]
   simp only[unMea,unstInn0,Option.bind_some,List.length_map,unStds,unStrms,cond_true,Bool.and_true,Bool.true_and,cast_lt hlt,decide_eq_true hlt,next_at hlt (by omega:l.length≤9223372036854775807),getD_at hr,hs,stTop]
   try rfl
  | false=>
   obtain⟨x,hx,hlen,hall,hbm⟩:=t4 i r hr hs
   rw[hS1]at hlen hall hbm
   rw[hn,hs]
   generalize F.picN (l.take i)=u at hx hb
   have hlu:=lt_at hx
   have k1:(decide ((st.length:Int)≤(u:Int)))=false:=decide_eq_false (by omega)
   have k2:(decide ((ss.length:Int)≤(i:Int)))=false:=decide_eq_false (by omega)
   have k3:(S.all fun s=> !F.badS x r.scale s)=true:=List.all_eq_true.2 fun s hm=>by rw[hall s hm];rfl
   have hw:IntKind.i64.wrap ((u:Int)+1)=((u+1:Nat):Int):=by rw[wrap_id (by omega) (by omega)];omega
   unfold F.badM at hbm
   rw[evTopL]
   simp only[unMea,unstInn0,Option.bind_some,List.length_map,unStds,unStrms,cond_true,cond_false,Bool.and_true,Bool.true_and,cast_lt hlt,decide_eq_true hlt,next_at hlt (by omega:l.length≤9223372036854775807),getD_at hr,getD_at hS,getD_at hx,hs,stTop,k1,k2,k3,decide_eq_true hlu,decide_eq_true hlt2,decide_eq_true (show S.length≤1000 by omega),Nat.zero_le,Bool.and_self,List.drop_zero,List.nil_append,List.length_nil,hbm,hw,decide_true]
   try rfl

theorem evTop (l:List Std) (cs:List Scr) (w:Wsh) (n:Int):(runF enTop false Tryz.f3 [.sl (l.map eStd), .sl (cs.map eScr), .agg (eWsh w),vI n]).val =
 Option.bind (unenc encPub [AV.sl (List.map eStd l),AV.sl (List.map eScr cs),AV.agg [(vI w.scale),(vI w.target),(vI w.most)],(vI n)]) fun z=>bif (F.pub z.1 z.2.1 z.2.2.1 z.2.2.2).snd != 0 then bif (↑(List.length (List.map eLst (F.pub z.1 z.2.1 z.2.2.1
 z.2.2.2).fst.lists)):Int)==0 then Option.bind (unenc encComs []) fun z=>some ((vB true),[]) else some ((vB false),[]) else Option.bind
 (unenc stTop1 (St.mk [(12,(vI 0)),(11,(vI 0)),(9, .ptr 9 0 0),(0,AV.sl (List.map eStd l))] [(9,Blk.mk true 0 0 [[AV.sl (List.map eI (F.pub z.1
 z.2.1 z.2.2.1 z.2.2.2).fst.bounds),AV.sl (List.map eL_eSeg (F.pub z.1 z.2.1 z.2.2.1 z.2.2.2).fst.segs),AV.sl (List.map eLst (F.pub
 z.1 z.2.1 z.2.2.1 z.2.2.2).fst.lists),AV.sl (List.map eStrm (F.pub z.1 z.2.1 z.2.2.1 z.2.2.2).fst.mas.streams),AV.sl (List.map eSnd
 (F.pub z.1 z.2.1 z.2.2.1 z.2.2.2).fst.mas.sounds)]])])) fun z=>
 bif F.topB z.1 z.2.2.1 z.2.2.2.2.1&&decide (z.2.2.2.2.2.2.2≤List.length z.1)&&decide (z.2.2.2.2.2.2.1=F.picN
 (List.take z.2.2.2.2.2.2.2 z.1))&&true then bif (↑(F.picN z.1):Int)==(↑(List.length (List.map eStrm z.2.2.2.2.1)):Int) then Option.bind
 (unenc encComs []) fun z=>some ((vB true),[]) else some ((vB false),[]) else none:=(runFR_val).symm.trans (by kernel_rfl)

def encTop1 (l:List Std) (cs:List Scr) (w:Wsh) (n:Int):List AV:=[.sl (l.map eStd), .sl (cs.map eScr), .agg (eWsh w),vI n]

def encTop (a:(List Std)×(List Scr)×Wsh×Int):List AV:=encTop1 a.1 a.2.1 a.2.2.1 a.2.2.2

theorem encTop_inj (a a':(List Std)×(List Scr)×Wsh×Int) (h:encTop a=encTop a'):a=a':=by
 simp only[encTop,encTop1]at h
 try simp[eStds_inj,eScrs_inj,eWsh_iff]at h
 grind

noncomputable def resTop1 (l:List Std) (cs:List Scr) (w:Wsh) (n:Int):AV×Heap:=(vB true,[])

noncomputable def preTop1 (l:List Std) (cs:List Scr) (w:Wsh) (n:Int):Bool:=bif (F.pub l cs w n).2==0 then F.topB l (F.pub l cs w n).1.segs (F.pub l cs w n).1.mas.streams else (F.pub l cs w n).1.lists.length==0

noncomputable def oTop:Orc:=orc 3 false encTop (fun a=>preTop1 a.1 a.2.1 a.2.2.1 a.2.2.2) fun a=>resTop1 a.1 a.2.1 a.2.2.1 a.2.2.2

theorem okTop:OrcOK Tryz.prog noG oTop:=by
 refine mk_ok Tryz.f3 (keep:=false) (by kernel_rfl) (by kernel_rfl) enTop_ok mixed (two_loops (x0:=loopN Tryz.f3 0) (x1:=loopN Tryz.f3 1) (by kernel_rfl) (lpo_ok ?_) (lpo_ok ?_)) (by first | exact fun _ _=>⟨rfl,rfl⟩ | (intro h;cases h)) ?_
 ·rintro⟨l,bd,ss,ls,st,sn,u,i⟩ hp
  exact lpTop_ok l bd ss ls st sn u i hp
 ·rintro⟨l,bd,ss,ls,st,sn,x,u,i,b,g,k⟩ hp
  exact lpInn_ok l bd ss ls st sn x u i b g k hp
 rintro⟨l,cs,w,n⟩ hpre hok
 show(runF enTop false _ (encTop1 _ _ _ _)).val=some (resTop1 _ _ _ _)
 unfold encTop1 resTop1
 rw[evTop]
 simp only[unComs,unPubw,unstTop0,etaWsh,Option.bind_some,List.length_map,Bool.and_true]
 simp only[preTop1]at hpre
 have hb:((F.pub l cs w n).2 != 0) = !((F.pub l cs w n).2==0):=rfl
 rw[hb]
 cases h:(F.pub l cs w n).2==0 with
 | false=>
  rw[h]at hpre
  simp only[cond_false,beq_iff_eq]at hpre
  rw[hpre]
  rfl
 | true=>
  rw[h]at hpre
  simp only[cond_true]at hpre
  obtain⟨t1,t2,t3,t4⟩:=F.topB_iff.1 hpre
  rw[hpre,←t3]
  simp[F.picN]

end M

theorem F.up_ok {P g:Nat} {R:Int} (hg:1≤g) (hq:P / g<18446744073709551616) (hR:R=F.sclE 3 0 g (P / g) (P % g)) (h1:1≤R∨P / g<18446744073709551615) (h2:R≤10000000000):(R - 1)*g<P∧(P:Int)≤R*g:=by
 have hm:=Nat.div_add_mod P g
 have hl:=Nat.mod_lt P (show 0<g by omega)
 generalize P / g=q at *
 generalize P % g=r at *
 have hqg:(g:Int)*q+r=P:=by rw[←Int.natCast_mul,←Int.natCast_add,hm]
 unfold F.sclE F.rnd at hR
 rw[decide_eq_false (show ¬(0:Int)<0 by omega)]at hR
 simp only[show((3:Int)==1)=false from rfl,show((3:Int)==3)=true from rfl,cond_false,cond_true,Bool.not_false,Bool.true_and]at hR
 by_cases hr:0<r
 ·rw[decide_eq_true (show(0:Int)<(r:Int) by omega)]at hR
  simp only[cond_true]at hR
  by_cases hf:q<18446744073709551615
  ·rw[show IntKind.u64.wrap ((q:Int)+1)=(q:Int)+1 by rw[IntKind.wrap_u64];omega]at hR
   by_cases hc:(1152921504606846976:Int)<(q:Int)+1
   ·rw[decide_eq_true hc]at hR
    simp only[cond_true]at hR
    rw[M.wrap_id (by omega) (by omega)]at hR
    omega
   ·rw[decide_eq_false hc]at hR
    simp only[cond_false]at hR
    rw[M.wrap_id (by omega) (by omega)]at hR
    subst hR
    have e1:((q:Int)+1 - 1)*g=g*q:=by rw[Int.add_sub_cancel,Int.mul_comm]
    have e2:((q:Int)+1)*g=g*q+g:=by rw[Int.add_mul,Int.one_mul,Int.mul_comm]
    omega
  ·rw[show IntKind.u64.wrap ((q:Int)+1)=0 by rw[IntKind.wrap_u64];omega]at hR
   have:R=0:=by rw[hR];rfl
   omega
 ·rw[decide_eq_false (show ¬(0:Int)<(r:Int) by omega)]at hR
  simp only[cond_false]at hR
  by_cases hc:(1152921504606846976:Int)<(q:Int)
  ·rw[decide_eq_true hc]at hR
   simp only[cond_true]at hR
   rw[M.wrap_id (by omega) (by omega)]at hR
   omega
  ·rw[decide_eq_false hc]at hR
   simp only[cond_false]at hR
   rw[M.wrap_id (by omega) (by omega)]at hR
   subst hR
   have e1:((q:Int) - 1)*g=g*q - g:=by rw[Int.sub_mul,Int.one_mul,Int.mul_comm]
   have e2:(q:Int)*g=g*q:=Int.mul_comm _ _
   omega

theorem F.sclE_0 {n d:Int} {q r:Nat} (h:0≤n):F.sclE 3 n d q r=F.sclE 3 0 d q r:=by
 unfold F.sclE
 rw[decide_eq_false (show ¬n<0 by omega),decide_eq_false (show ¬(0:Int)<0 by omega)]

theorem F.rate_ok {b g sc:Int} (hb:0≤b) (hb2:b≤1000000000000) (hg:1≤g) (hs:0≤sc) (hs2:sc≤1000000000) (h1:1≤F.rate b g sc∨b≤1000000000) (h2:F.rate b g sc≤10000000000):(F.rate b g sc - 1)*g<8*b*sc∧8*b*sc≤F.rate b g sc*g:=by
 obtain⟨R,hR⟩ : ∃R,F.rate b g sc=R:=⟨_,rfl⟩
 rw[hR]at h1 h2 ⊢
 unfold F.rate at hR
 rw[F.sealI_eq,M.wrap_id (by omega) (by omega)]at hR
 obtain⟨n,hn⟩:=Int.eq_ofNat_of_zero_le (show 0≤8*b by omega)
 obtain⟨s,rfl⟩:=Int.eq_ofNat_of_zero_le hs
 obtain⟨d,rfl⟩:=Int.eq_ofNat_of_zero_le (show 0≤g by omega)
 rw[hn]at hR ⊢
 unfold F.sclW at hR
 rw[Int.natAbs_natCast,Int.natAbs_natCast,Int.natAbs_natCast,F.sclE_0 (Int.natCast_nonneg n),decide_eq_false (show ¬(n:Int)<0 by omega)]at hR
 have hp:(n:Int)*(s:Int)=((n*s:Nat):Int):=(Int.natCast_mul n s).symm
 have hb3:b≤1000000000→n*s≤8000000000*1000000000:=fun h=>Nat.mul_le_mul (by omega) (by omega)
 rw[hp]
 unfold F.dvQ F.dvR F.mhi F.mlo at hR
 obtain⟨P,hP⟩ : ∃P,n*s=P:=⟨_,rfl⟩
 rw[hP]at hR hb3 ⊢
 have hd:P / 18446744073709551616*18446744073709551616+P % 18446744073709551616=P:=by omega
 rw[hd]at hR
 by_cases hh:P / 18446744073709551616<d
 ·rw[decide_eq_true hh]at hR
  simp only[cond_true]at hR
  have hq:P / d<18446744073709551616:=by
   rw[Nat.div_lt_iff_lt_mul (by omega)]
   omega
  refine F.up_ok (by omega) hq hR.symm ?_ h2
  rcases h1 with h1 | h1
  ·exact .inl h1
  ·have h3:=hb3 h1
   have h4:P / d≤P:=Nat.div_le_self _ _
   right
   omega
 ·rw[decide_eq_false hh]at hR
  simp only[cond_false]at hR
  rw[M.wrap_id (by omega) (by omega)]at hR
  omega

theorem F.picN_pics (l:List Std):F.picN l=F.pics l:=by
 unfold F.picN F.pics
 rw[List.countP_eq_length_filter]

theorem F.chkM_ok {m:Mas} (h:F.chkM m=0) {k:Nat} {x:Strm} (hx:m.streams[k]? = some x):1≤x.mean∧x.mean≤x.peak∧x.peak≤10000000000:=by
 unfold F.chkM at h
 cases h1:(decide (50<m.streams.length)||decide (50<m.sounds.length))with
 | true=>rw[h1]at h;simp at h
 | false=>
  rw[h1]at h
  simp only[cond_false]at h
  by_cases h2:F.sndsF m.sounds=0
  ·rw[M.bne0 h2]at h
   simp only[cond_false]at h
   unfold F.strmsF at h
   have hz:m.streams.zipIdx[k]? = some (x,k):=by rw[List.getElem?_zipIdx,hx];simp
   have h3:=F.ffI_all h _ (List.mem_of_getElem? hz)
   simp only at h3
   unfold F.strmF at h3
   cases a1:F.isName x.name with
   | false=>rw[a1]at h3;simp at h3
   | true=>
   rw[a1]at h3
   cases a2:(m.streams.take k).any (fun o=>F.seq o.name x.name)with
   | true=>rw[a2]at h3;simp at h3
   | false=>
   rw[a2]at h3
   cases a3:(F.uriFault x.uri != 0)with
   | true=>rw[a3]at h3;simp at h3
   | false=>
   rw[a3]at h3
   cases a4:(F.out x.mean 1 10000000000||F.out x.peak x.mean 10000000000)with
   | true=>rw[a4]at h3;simp at h3
   | false=>
   simp only[F.out,Bool.or_eq_false_iff,decide_eq_false_iff_not]at a4
   omega
  ·rw[M.bne1 h2]at h;exact absurd h h2

theorem F.pub_ok {l:List Std} {cs:List Scr} {w:Wsh} {n:Int} (h:(F.pub l cs w n).2=0) :
  ∃bs,F.chkR4 l=0∧F.scrF l cs=0∧(F.alls l bs n).2=0∧(F.pub l cs w n).1.segs=(F.alls l bs n).1∧(F.pub l cs w n).1.mas=F.masO l (F.alls l bs n).1 cs∧F.chkM (F.masO l (F.alls l bs n).1 cs)=0∧F.zeroA (F.alls l bs n).1=false∧M.ffI (F.lsE (F.alls l bs n).1 n) l.zipIdx=0:=by
 unfold F.pub at h ⊢
 by_cases h1:F.chkR4 l=0
 case neg=>rw[M.bne1 h1]at h;exact absurd h h1
 rw[M.bne0 h1]at h ⊢
 simp only[cond_false]at h ⊢
 by_cases h2:F.scrF l cs=0
 case neg=>rw[M.bne1 h2]at h;exact absurd h h2
 rw[M.bne0 h2]at h ⊢
 simp only[cond_false]at h ⊢
 cases h3:(w.scale != F.sc0 l)with
 | true=>rw[h3]at h;simp at h
 | false=>
 rw[h3]at h
 simp only[cond_false]at h ⊢
 by_cases h4:(F.bndO l w).2=0
 case neg=>rw[M.bne1 h4]at h;exact absurd h h4
 rw[M.bne0 h4]at h ⊢
 simp only[cond_false]at h ⊢
 by_cases h5:(F.alls l (F.bndO l w).1 n).2=0
 case neg=>rw[M.bne1 h5]at h;exact absurd h h5
 rw[M.bne0 h5]at h ⊢
 simp only[cond_false]at h ⊢
 refine⟨(F.bndO l w).1,h1,h2,h5,?_⟩
 generalize F.alls l (F.bndO l w).1 n=A at h
 generalize (F.bndO l w).1=bs at h
 unfold F.pubB at h ⊢
 cases h6:F.zeroA A.1 with
 | true=>rw[h6]at h;simp at h
 | false=>
 rw[h6]at h
 simp only[cond_false]at h ⊢
 by_cases h7:M.ffI (F.lsE A.1 n) l.zipIdx=0
 case neg=>rw[M.bne1 h7]at h;exact absurd h h7
 rw[M.bne0 h7]at h ⊢
 simp only[cond_false]at h ⊢
 by_cases h8:F.chkM (F.masO l A.1 cs)=0
 case neg=>rw[M.bne1 h8]at h;exact absurd h h8
 rw[M.bne0 h8]
 exact⟨rfl,rfl,h8,by first | rfl | trivial,h7⟩

theorem F.pub_no {l:List Std} {cs:List Scr} {w:Wsh} {n:Int} (h:(F.pub l cs w n).2≠0):(F.pub l cs w n).1=F.noPub:=by
 unfold F.pub at h ⊢
 cases h1:F.chkR4 l != 0 with
 | true=>rfl
 | false=>
 rw[h1]at h
 simp only[cond_false]at h ⊢
 cases h2:F.scrF l cs != 0 with
 | true=>rfl
 | false=>
 rw[h2]at h
 simp only[cond_false]at h ⊢
 cases h3:(w.scale != F.sc0 l)with
 | true=>rfl
 | false=>
 rw[h3]at h
 simp only[cond_false]at h ⊢
 cases h4:(F.bndO l w).2 != 0 with
 | true=>rfl
 | false=>
 rw[h4]at h
 simp only[cond_false]at h ⊢
 cases h5:(F.alls l (F.bndO l w).1 n).2 != 0 with
 | true=>rfl
 | false=>
 rw[h5]at h
 simp only[cond_false]at h ⊢
 generalize F.alls l (F.bndO l w).1 n=A at h
 generalize (F.bndO l w).1=bs at h
 unfold F.pubB at h ⊢
 cases h6:F.zeroA A.1 with
 | true=>rfl
 | false=>
 rw[h6]at h
 simp only[cond_false]at h ⊢
 cases h7:M.ffI (F.lsE A.1 n) l.zipIdx != 0 with
 | true=>rfl
 | false=>
 rw[h7]at h
 simp only[cond_false]at h ⊢
 cases h8:F.chkM (F.masO l A.1 cs) != 0 with
 | true=>rfl
 | false=>
 rw[h8]at h
 exact absurd rfl h

theorem F.strs_pre (l:List Std) (ss:List (List Seg)) (cs:List Scr) (g:ByteArray) (k:Nat) : ∀n,k≤n → ∃t,F.strs l ss cs g n=F.strs l ss cs g k++t:=by
 intro n
 induction n with
 | zero=>
  intro h
  obtain rfl:k=0:=by omega
  exact⟨[],by simp⟩
 | succ n ih=>
  intro h
  by_cases hk:k=n+1
  ·subst hk;exact⟨[],by simp⟩
  ·obtain⟨t,ht⟩:=ih (by omega)
   unfold F.strs at ht ⊢
   rw[List.take_add_one,List.foldl_append,ht]
   cases l.zipIdx[n]? with
   | none=>exact⟨t,by simp⟩
   | some p=>
    simp only[Option.toList_some,List.foldl_cons,List.foldl_nil]
    unfold F.strS
    cases p.1.sound
    ·exact⟨t++[F.strO p.1 (ss.getD p.2 []) (cs.getD (List.foldl (F.strS ss cs g) [] (l.zipIdx.take k)++t).length ⟨0,0⟩) g],by rw[←List.append_assoc];rfl⟩
    ·exact⟨t,rfl⟩

theorem F.strs_at {l:List Std} {ss:List (List Seg)} {cs:List Scr} {g:ByteArray} {k:Nat} {r:Std} (h:l[k]? = some r) (hs:r.sound=false) : ∃c,(F.strs l ss cs g l.length)[F.pics (l.take k)]? = some (F.strO r (ss.getD k []) c g):=by
 have hlt:=M.lt_at h
 obtain⟨t,ht⟩:=F.strs_pre l ss cs g (k+1) l.length (by omega)
 have hl:=F.strs_len l ss cs g k (by omega)
 have hz:l.zipIdx[k]? = some (r,k):=by rw[List.getElem?_zipIdx,h];simp
 have e:F.strs l ss cs g (k+1)=F.strs l ss cs g k++[F.strO r (ss.getD k []) (cs.getD (F.strs l ss cs g k).length ⟨0,0⟩) g]:=by
  unfold F.strs
  rw[List.take_add_one,List.foldl_append,hz]
  simp only[Option.toList_some,List.foldl_cons,List.foldl_nil]
  conv=>lhs;unfold F.strS
  simp only[hs,cond_false]
  rfl
 refine⟨cs.getD (F.strs l ss cs g k).length ⟨0,0⟩,?_⟩
 rw[ht,e,List.append_assoc,←hl,List.getElem?_append_right (Nat.le_refl _)]
 simp

theorem F.stP_take (sc:Int) (l:List Seg) : ∀(a:Int),a≤l.foldl (fun n s=>max n (F.rate s.bytes s.length sc)) a ∧ ∀s∈l,F.rate s.bytes s.length sc≤l.foldl (fun n s=>max n (F.rate s.bytes s.length sc)) a:=by
 induction l with
 | nil=>intro a;simp
 | cons y l ih=>
  intro a
  obtain⟨i1,i2⟩:=ih (max a (F.rate y.bytes y.length sc))
  rw[List.foldl_cons]
  refine⟨by omega,fun s hs=>?_⟩
  rcases List.mem_cons.1 hs with rfl | hs
  ·omega
  ·exact i2 s hs

theorem F.ratio_ok {N D g X R:Int} (hg:1≤g) (hD:1≤D) (he:N*g=X*D):(X≤R*g→N≤R*D)∧((R - 1)*g<X→(R - 1)*D<N):=by
 refine⟨fun h=>?_,fun h=>?_⟩
 ·have h1:N*g≤R*D*g:=by
   rw[he]
   have:=Int.mul_le_mul_of_nonneg_right h (show 0≤D by omega)
   rw[show R*D*g=R*g*D by rw[Int.mul_right_comm]]
   exact this
  exact Int.le_of_mul_le_mul_right h1 (by omega)
 ·have h1:(R - 1)*D*g<N*g:=by
   rw[he]
   have:=Int.mul_lt_mul_of_pos_right h (show 0<D by omega)
   rw[show(R - 1)*D*g=(R - 1)*g*D by rw[Int.mul_right_comm]]
   exact this
  exact Int.lt_of_mul_lt_mul_right h1 (by omega)

theorem F.sumW_1 (x:Int) (h:0≤x∧x≤1000000000):F.sumW [x]=x:=by
 unfold F.sumW
 simp only[List.foldl_cons,List.foldl_nil]
 rw[M.wrap_id (by omega) (by omega)]
 omega

theorem F.meanO_ok {a b:List Int} {sc:Int} (h:(F.meanO a b sc).2.2=0):F.sgmF a b sc=0 ∧ ∃N D:Int,F.meanO a b sc=(N,D,0)∧1≤D∧N*F.sumW b=8*F.sumW a*sc*D:=by
 unfold F.meanO at h ⊢
 by_cases h1:F.sgmF a b sc=0
 case neg=>rw[M.bne1 h1]at h;exact absurd h h1
 refine⟨h1,?_⟩
 rw[M.bne0 h1]at h ⊢
 simp only[cond_false]at h ⊢
 obtain⟨g1,g2,g3,g4,g5, -⟩:=F.sgmF_ok h1
 have hs:1≤sc:=by
  simp only[F.noScale,F.out,Bool.or_eq_false_iff,decide_eq_false_iff_not]at g3
  omega
 obtain⟨-, -, -,k1,k2, -⟩:=F.ld_ok (s:=F.sumW a) (g:=F.sumW b) (sc:=sc) g4.1 g5.1 hs
 unfold F.ldR at h ⊢
 cases h2:decide (F.ldN (F.sumW a) (F.sumW b) sc<9223372036854775808)with
 | false=>rw[h2]at h;simp at h
 | true=>exact⟨_,_,rfl,k1,k2⟩

theorem F.stB_sum (l:List Seg):F.stB l=F.sumW (l.map (·.bytes)):=by
 unfold F.stB F.sumW
 rw[List.foldl_map]

theorem F.stG_sum (l:List Seg):F.stG l=F.sumW (l.map (·.length)):=by
 unfold F.stG F.sumW
 rw[List.foldl_map]

theorem F.badS_ok {r:Std} {S:List Seg} {c:Scr} {g:ByteArray} {s:Seg} (hs:s∈S) (hp:F.stP r.scale S≤10000000000):F.badS (F.strO r S c g) r.scale s=false:=by
 unfold F.badS
 by_cases h:(F.meanO [s.bytes] [s.length] r.scale).2.2=0
 case neg=>rw[beq_eq_false_iff_ne.2 h];rfl
 obtain⟨h1,N,D,e,hD,he⟩:=F.meanO_ok h
 rw[e]
 simp only[beq_self_eq_true,cond_true]
 rw[decide_eq_false (show ¬D<1 by omega)]
 simp only[cond_false]
 by_cases hD2:D≤100000000
 case neg=>rw[decide_eq_false hD2];rfl
 rw[decide_eq_true hD2]
 simp only[cond_true]
 obtain⟨g1,g2,g3,g4,g5,g6⟩:=F.sgmF_ok h1
 obtain⟨b1,b2⟩:=g6 (s.bytes,s.length) (by simp)
 simp only at b1 b2
 have hsc:1≤r.scale∧r.scale≤1000000000:=by
  simp only[F.noScale,F.out,Bool.or_eq_false_iff,decide_eq_false_iff_not]at g3
  omega
 rw[F.sumW_1 _ b1,F.sumW_1 _ (by omega)]at he
 obtain⟨p1,p2⟩:=F.stP_take r.scale S 0
 have p3:F.rate s.bytes s.length r.scale≤F.stP r.scale S:=p2 s hs
 have p4:0≤F.stP r.scale S:=p1
 obtain⟨-,q2⟩:=F.rate_ok (b:=s.bytes) (g:=s.length) (sc:=r.scale) b1.1 (by omega) b2.1 (by omega) hsc.2 (.inr b1.2) (by omega)
 have q3:=(F.ratio_ok b2.1 hD he (R:=F.rate s.bytes s.length r.scale)).1 q2
 show decide (IntKind.i64.wrap (F.stP r.scale S*D)<N)=false
 have q4:F.rate s.bytes s.length r.scale*D≤F.stP r.scale S*D:=Int.mul_le_mul_of_nonneg_right p3 (by omega)
 have q5:0≤F.stP r.scale S*D:=Int.mul_nonneg p4 (by omega)
 have q6:F.stP r.scale S*D≤10000000000*100000000:=Int.mul_le_mul hp hD2 (by omega) (by omega)
 rw[M.wrap_id (by omega) (by omega)]
 exact decide_eq_false (by omega)

theorem F.badM_ok {r:Std} {S:List Seg} {c:Scr} {g:ByteArray} (h1:1≤F.rate (F.stB S) (F.stG S) r.scale) (h2:F.rate (F.stB S) (F.stG S) r.scale≤10000000000):F.badM (F.strO r S c g) r.scale S=false:=by
 unfold F.badM
 by_cases h:(F.meanO (S.map (·.bytes)) (S.map (·.length)) r.scale).2.2=0
 case neg=>rw[beq_eq_false_iff_ne.2 h];rfl
 obtain⟨hz,N,D,e,hD,he⟩:=F.meanO_ok h
 rw[e]
 simp only[beq_self_eq_true,cond_true]
 by_cases hD2:D≤100000000
 case neg=>rw[decide_eq_false hD2];rfl
 rw[decide_eq_true hD2]
 simp only[cond_true]
 obtain⟨g1,g2,g3,g4,g5, -⟩:=F.sgmF_ok hz
 have hsc:1≤r.scale∧r.scale≤1000000000:=by
  simp only[F.noScale,F.out,Bool.or_eq_false_iff,decide_eq_false_iff_not]at g3
  omega
 rw[←F.stB_sum]at g4 he
 rw[←F.stG_sum]at g5 he
 obtain⟨q1,q2⟩:=F.rate_ok (b:=F.stB S) (g:=F.stG S) (sc:=r.scale) g4.1 (by omega) g5.1 (by omega) hsc.2 (.inl h1) h2
 show(bif decide (IntKind.i64.wrap (F.rate (F.stB S) (F.stG S) r.scale*D)<N) then true else decide (N≤IntKind.i64.wrap (IntKind.i64.wrap (F.rate (F.stB S) (F.stG S) r.scale - 1)*D)))=false
 obtain⟨R,hR⟩ : ∃R,F.rate (F.stB S) (F.stG S) r.scale=R:=⟨_,rfl⟩
 rw[hR]at h1 h2 q1 q2 ⊢
 obtain⟨k1,k2⟩:=F.ratio_ok g5.1 hD he (R:=R)
 have k1:=k1 q2
 have k2:=k2 q1
 have q5:0≤R*D:=Int.mul_nonneg (by omega) (by omega)
 have q6:R*D≤10000000000*100000000:=Int.mul_le_mul h2 hD2 (by omega) (by omega)
 have q7:0≤(R - 1)*D:=Int.mul_nonneg (by omega) (by omega)
 have q8:(R - 1)*D≤10000000000*100000000:=Int.mul_le_mul (by omega) hD2 (by omega) (by omega)
 rw[M.wrap_id (n:=R*D) (by omega) (by omega),M.wrap_id (n:=R - 1) (by omega) (by omega),M.wrap_id (n:=(R - 1)*D) (by omega) (by omega)]
 rw[decide_eq_false (show ¬R*D<N by omega),decide_eq_false (show ¬N≤(R - 1)*D by omega)]
 rfl

theorem F.top_ok (l:List Std) (cs:List Scr) (w:Wsh) (n:Int):M.preTop1 l cs w n=true:=by
 unfold M.preTop1
 by_cases h:(F.pub l cs w n).2=0
 case neg=>
  rw[beq_eq_false_iff_ne.2 h,F.pub_no h]
  rfl
 rw[h]
 simp only[beq_self_eq_true,cond_true]
 rw[F.topB_iff]
 obtain⟨bs,c1,c2,c3,e1,e2,c4,c5,c6⟩:=F.pub_ok h
 rw[e1,e2]
 obtain⟨l1,l2⟩:=F.chkR4_ok c1
 obtain⟨a1,a2,a3,a4,a5⟩:=F.alls_ok c3 c1
 refine⟨a1,l1.2,?_,?_⟩
 ·show(F.strs l (F.alls l bs n).1 cs (F.grpN l) l.length).length=_
  rw[F.strs_len _ _ _ _ _ (Nat.le_refl _),List.take_length,F.picN_pics]
 ·intro i r hr hs
  obtain⟨c,hc⟩:=F.strs_at (ss:=(F.alls l bs n).1) (cs:=cs) (g:=F.grpN l) hr hs
  have hk:=F.chkM_ok (m:=F.masO l (F.alls l bs n).1 cs) c4 hc
  obtain⟨k1,k2,k3⟩:=hk
  have hlt:=M.lt_at hr
  have hS:(F.alls l bs n).1[i]? = some ((F.alls l bs n).1[i]'(by omega)):=List.getElem?_eq_getElem (by omega)
  have hS1:(F.alls l bs n).1.getD i []=(F.alls l bs n).1[i]'(by omega):=by rw[List.getD_eq_getElem?_getD,hS];rfl
  have hlen:=(a5 _ (List.mem_of_getElem? hS)).1
  rw[←hS1]at hlen
  refine⟨_,by rw[F.picN_pics];exact hc,by omega,?_,?_⟩
  ·intro s hm
   exact F.badS_ok hm k3
  ·exact F.badM_ok k1 (Int.le_trans k2 k3)

end Go.Proofs.YtpaeopnlblhpoaaGreatDoor

namespace Go.Proofs.YtpaeopnlblhpoaaGreatDoor.M
open Go.ChangeShapes Go.WideShapes Go.ChangeAt Go.RowKit Go.Deep
set_option linter.unusedVariables false

theorem own:ownKnob Tryz.prog.godebug=none:=by kernel_rfl

theorem laidOut:laidOutB Tryz.prog=true:=by kernel_rfl

theorem op_string:OpnU Tryz.prog 9 (cS) (smS):=opnU_str Tryz.underlying9

theorem cells_string:Tryz.prog.cellsOf 9=1:=by kernel_rfl

theorem op_int:OpnU Tryz.prog 3 (cI) (fun _=>True):=(opn_int Tryz.underlying3).small

theorem cells_int:Tryz.prog.cellsOf 3=1:=by kernel_rfl

theorem op_bool:OpnU Tryz.prog 4 (cB) (fun _=>True):=(opn_bool Tryz.underlying4).small

theorem cells_bool:Tryz.prog.cellsOf 4=1:=by kernel_rfl

def kSmp (x:Smp):Prop:=True

theorem cells_Smp:Tryz.prog.cellsOf 173=5:=by kernel_rfl

set_option maxRecDepth 100000 in
theorem op_Smp:OpnU Tryz.prog 173 eSmp kSmp:=by
 intro H enc w fuel cs d p h hw hbk
 obtain⟨hl,hf⟩:=opnU_fields Tryz.underlying173 h hw hbk
 obtain⟨x0,r0,k0⟩ : ∃x,RL (R0 w (Inn w)) ((cI) x) ((cs.drop 0).take (Tryz.prog.cellsOf 3))∧(fun _=>True) x:=hf 0 _ rfl op_int
 rw[cells_int]at r0
 obtain⟨x1,r1,k1⟩ : ∃x,RL (R0 w (Inn w)) ((cI) x) ((cs.drop 1).take (Tryz.prog.cellsOf 3))∧(fun _=>True) x:=hf 1 _ rfl op_int
 rw[cells_int]at r1
 obtain⟨x2,r2,k2⟩ : ∃x,RL (R0 w (Inn w)) ((cI) x) ((cs.drop 2).take (Tryz.prog.cellsOf 3))∧(fun _=>True) x:=hf 2 _ rfl op_int
 rw[cells_int]at r2
 obtain⟨x3,r3,k3⟩ : ∃x,RL (R0 w (Inn w)) ((cI) x) ((cs.drop 3).take (Tryz.prog.cellsOf 3))∧(fun _=>True) x:=hf 3 _ rfl op_int
 rw[cells_int]at r3
 obtain⟨x4,r4,k4⟩ : ∃x,RL (R0 w (Inn w)) ((cB) x) ((cs.drop 4).take (Tryz.prog.cellsOf 4))∧(fun _=>True) x:=hf 4 _ rfl op_bool
 rw[cells_bool]at r4
 rw[cells_Smp]at hl
 match cs,hl with
 | [c0,c1,c2,c3,c4],_=>
  refine⟨⟨x0,x1,x2,x3,x4⟩,?_,trivial⟩
  show RL (R0 w (Inn w)) (((cI) x0)++(((cI) x1)++(((cI) x2)++(((cI) x3)++(((cB) x4)))))) ([c0]++([c1]++([c2]++([c3]++([c4])))))
  exact RL.append r0 (RL.append r1 (RL.append r2 (RL.append r3 (r4))))

theorem bytes_Smp:Tryz.prog.bytesOf 173=40:=by kernel_rfl

theorem cells_sSmp:Tryz.prog.cellsOf 39=1:=by kernel_rfl

theorem op_sSmp:OpnU Tryz.prog 39 (cSl (eSmp)) (KU (kSmp)):=opnU_slice Tryz.underlying39 cells_Smp bytes_Smp (by decide) (fun _=>rfl) op_Smp

def kStd (x:Std):Prop:=(smS) x.name∧(KU (kSmp)) x.samples

theorem cells_Std:Tryz.prog.cellsOf 41=4:=by kernel_rfl

set_option maxRecDepth 100000 in
theorem op_Std:OpnU Tryz.prog 41 eStd kStd:=by
 intro H enc w fuel cs d p h hw hbk
 obtain⟨hl,hf⟩:=opnU_fields Tryz.underlying41 h hw hbk
 obtain⟨x0,r0,k0⟩ : ∃x,RL (R0 w (Inn w)) ((cS) x) ((cs.drop 0).take (Tryz.prog.cellsOf 9))∧(smS) x:=hf 0 _ rfl op_string
 rw[cells_string]at r0
 obtain⟨x1,r1,k1⟩ : ∃x,RL (R0 w (Inn w)) ((cI) x) ((cs.drop 1).take (Tryz.prog.cellsOf 3))∧(fun _=>True) x:=hf 1 _ rfl op_int
 rw[cells_int]at r1
 obtain⟨x2,r2,k2⟩ : ∃x,RL (R0 w (Inn w)) ((cB) x) ((cs.drop 2).take (Tryz.prog.cellsOf 4))∧(fun _=>True) x:=hf 2 _ rfl op_bool
 rw[cells_bool]at r2
 obtain⟨x3,r3,k3⟩ : ∃x,RL (R0 w (Inn w)) ((cSl (eSmp)) x) ((cs.drop 3).take (Tryz.prog.cellsOf 39))∧(KU (kSmp)) x:=hf 3 _ rfl op_sSmp
 rw[cells_sSmp]at r3
 rw[cells_Std]at hl
 match cs,hl with
 | [c0,c1,c2,c3],_=>
  refine⟨⟨x0,x1,x2,x3⟩,?_,k0,k3⟩
  show RL (R0 w (Inn w)) (((cS) x0)++(((cI) x1)++(((cB) x2)++(((cSl (eSmp)) x3))))) ([c0]++([c1]++([c2]++([c3]))))
  exact RL.append r0 (RL.append r1 (RL.append r2 (r3)))

def kScr (x:Scr):Prop:=True

theorem cells_Scr:Tryz.prog.cellsOf 105=2:=by kernel_rfl

set_option maxRecDepth 100000 in
theorem op_Scr:OpnU Tryz.prog 105 eScr kScr:=by
 intro H enc w fuel cs d p h hw hbk
 obtain⟨hl,hf⟩:=opnU_fields Tryz.underlying105 h hw hbk
 obtain⟨x0,r0,k0⟩ : ∃x,RL (R0 w (Inn w)) ((cI) x) ((cs.drop 0).take (Tryz.prog.cellsOf 3))∧(fun _=>True) x:=hf 0 _ rfl op_int
 rw[cells_int]at r0
 obtain⟨x1,r1,k1⟩ : ∃x,RL (R0 w (Inn w)) ((cI) x) ((cs.drop 1).take (Tryz.prog.cellsOf 3))∧(fun _=>True) x:=hf 1 _ rfl op_int
 rw[cells_int]at r1
 rw[cells_Scr]at hl
 match cs,hl with
 | [c0,c1],_=>
  refine⟨⟨x0,x1⟩,?_,trivial⟩
  show RL (R0 w (Inn w)) (((cI) x0)++(((cI) x1))) ([c0]++([c1]))
  exact RL.append r0 (r1)

def kWsh (x:Wsh):Prop:=True

theorem cells_Wsh:Tryz.prog.cellsOf 25=3:=by kernel_rfl

set_option maxRecDepth 100000 in
theorem op_Wsh:OpnU Tryz.prog 25 eWsh kWsh:=by
 intro H enc w fuel cs d p h hw hbk
 obtain⟨hl,hf⟩:=opnU_fields Tryz.underlying25 h hw hbk
 obtain⟨x0,r0,k0⟩ : ∃x,RL (R0 w (Inn w)) ((cI) x) ((cs.drop 0).take (Tryz.prog.cellsOf 3))∧(fun _=>True) x:=hf 0 _ rfl op_int
 rw[cells_int]at r0
 obtain⟨x1,r1,k1⟩ : ∃x,RL (R0 w (Inn w)) ((cI) x) ((cs.drop 1).take (Tryz.prog.cellsOf 3))∧(fun _=>True) x:=hf 1 _ rfl op_int
 rw[cells_int]at r1
 obtain⟨x2,r2,k2⟩ : ∃x,RL (R0 w (Inn w)) ((cI) x) ((cs.drop 2).take (Tryz.prog.cellsOf 3))∧(fun _=>True) x:=hf 2 _ rfl op_int
 rw[cells_int]at r2
 rw[cells_Wsh]at hl
 match cs,hl with
 | [c0,c1,c2],_=>
  refine⟨⟨x0,x1,x2⟩,?_,trivial⟩
  show RL (R0 w (Inn w)) (((cI) x0)++(((cI) x1)++(((cI) x2)))) ([c0]++([c1]++([c2])))
  exact RL.append r0 (RL.append r1 (r2))

theorem bytes_Std:Tryz.prog.bytesOf 41=56:=by kernel_rfl

theorem op_sStd:OpnU Tryz.prog 22 (cSl (eStd)) (KU (kStd)):=opnU_slice Tryz.underlying22 cells_Std bytes_Std (by decide) (fun _=>rfl) op_Std

theorem bytes_Scr:Tryz.prog.bytesOf 105=16:=by kernel_rfl

theorem op_sScr:OpnU Tryz.prog 23 (cSl (eScr)) (KU (kScr)):=opnU_slice Tryz.underlying23 cells_Scr bytes_Scr (by decide) (fun _=>rfl) op_Scr

end Go.Proofs.YtpaeopnlblhpoaaGreatDoor.M

namespace Go.Proofs.YtpaeopnlblhpoaaGreatDoor.M
open Go.ChangeShapes Go.WideShapes Go.ChangeAt Go.RowKit Go.Deep
set_option linter.unusedVariables false

theorem noG_at {W:World} {laid:List (String×DataW Unit)} (hsh:W.ShapedOpen Tryz.prog) (hL:laidMetH Tryz.prog laid W)
  (hp:(laid.all fun x=>x.2.handleName?.isNone)=true:=by kernel_rfl)
  (m3 : ∃ i : Nat, laid[i]? = some ("internal/strconv.uint64pow10", Rows.laid_internal_strconv_uint64pow10) := by first | exact ⟨0, rfl⟩ | exact ⟨1, rfl⟩ | exact ⟨2, rfl⟩ | exact ⟨3, rfl⟩ | exact ⟨4, rfl⟩ | exact ⟨5, rfl⟩ | exact ⟨6, rfl⟩ | exact ⟨7, rfl⟩) :
  ∀g r,noG g=some r→GlobAt W (Inn W) g r:=by
 obtain⟨_,m3⟩:=m3
 rw[MakeChecks.laidMetH_plain _ _ _ hp]at hL
 have hr : Lib.VarReads Tryz.prog W "internal/strconv.uint64pow10" Rows.laid_internal_strconv_uint64pow10 := Lib.laidMet.reads hL (List.mem_of_getElem? m3)
 intro g r hg
 unfold noG at hg
 split at hg
 ·rename_i hb
  have e:g=2:=beq_true.1 hb
  subst e
  cases hg
  obtain⟨g',t,cs,fuel,p,h1,h2,h3,h4⟩:=hr
  have hn : Tryz.prog.globalNamed "internal/strconv.uint64pow10" = some 2 := by kernel_rfl
  obtain rfl:=Option.some.inj (hn.symm.trans h1)
  obtain rfl:=Option.some.inj ((show(Tryz.prog.globals[2]?).map (·.type)=some 247 by kernel_rfl).symm.trans h2)
  have hd:(Rows.laid_internal_strconv_uint64pow10:DataW Unit)=Lib.tabData .u64 Lib.pow10Tab:=by kernel_rfl
  rw[hd]at h4
  have hcs:=Lib.cells_of_tab Tryz.underlying247 Tryz.underlying163 (by kernel_rfl) (by kernel_rfl) h4
  obtain⟨ty,o,hh⟩:=var_cells hn h3
  exact glob_mk hh (by rw[←hcs])
 ·cases hg

end Go.Proofs.YtpaeopnlblhpoaaGreatDoor.M

namespace Go.Proofs.YtpaeopnlblhpoaaGreatDoor
open Go.ChangeShapes Go.WideShapes Go.ChangeAt Go.RowKit Go.Deep M
open Go.ChangeMaps (open_string shut_string)
set_option linter.unusedVariables false

set_option maxRecDepth 100000 in
theorem topRatesAreOne_contract (H:Type) (enc:TypeId×Value→H) (W:World) (base:Nat) (args:Array Value) (ds gs:List (DataW H)) (before:List MemPlace)
  (hval0 : ∀(j:Nat) t v,Tryz.f3.params[j]? = some t→args[j]? = some v→Value.okWide Tryz.prog W .any base t v)
  (hW:DataW.Whole enc Tryz.prog Tryz.f3.params.toList Rows.topRatesAreOneSpec.vars false W args.toList ds gs before) (hbulk:Rows.uptoBulkAll (ds++gs)≤1048576)
  (hsz0:(DataW.weightsEach Tryz.prog (Tryz.f3.params.toList++Rows.topRatesAreOneSpec.plain.varTypes Tryz.prog) (ds++gs)).all (· ≤ reachBytes)=true)
  (hL:laidMetH Tryz.prog Rows.topRatesAreOneUptoRow.laid W) (hsh:W.ShapedOpen Tryz.prog) :
  Calls Tryz.prog 3 args W fun e W'=>∃v,e = .returned v∧Rows.topRatesAreOneSpec.post enc Tryz.prog Tryz.f3 false true false false W args v W':=by
 have hval : ∀(j:Nat) t v,Tryz.f3.params[j]? = some t→args[j]? = some v→Value.okWide Tryz.prog W .any base t v:=hval0
 have hW':=hW
 obtain⟨p,q,hA0,hV,rfl,hfz,hnd⟩:=hW
 have hA:DataW.TrodAll enc Tryz.prog W 0 (fun _=>true) true Tryz.f3.params.toList args.toList ds p:=hA0
 have hsz : ∀n∈DataW.weightsEach Tryz.prog (Tryz.f3.params.toList++Rows.topRatesAreOneSpec.plain.varTypes Tryz.prog) (ds++gs),n≤reachBytes:=by
  intro n hn;have:=List.all_eq_true.1 hsz0 n hn;simpa using this
 rw[Tryz.params3]at hA hval hsz
 obtain⟨v0,vs0,d0,ds0,p0,q0,hargs,rfl,rfl,h0,r0⟩:=trodAll_cons hA
 obtain⟨v1,vs1,d1,ds1,p1,q1,rfl,rfl,rfl,h1,r1⟩:=trodAll_cons r0
 obtain⟨v2,vs2,d2,ds2,p2,q2,rfl,rfl,rfl,h2,r2⟩:=trodAll_cons r1
 obtain⟨v3,vs3,d3,ds3,p3,q3,rfl,rfl,rfl,h3,r3⟩:=trodAll_cons r2
 obtain⟨rfl,rfl,rfl⟩:=trodAll_nil r3
 obtain rfl:args = #[v0,v1,v2,v3]:=by cases args;simp_all
 obtain⟨rfl,rfl⟩:=trodVars_none hV
 have bk0:Rows.uptoBulk d0≤1048576:=Nat.le_trans (bulks.part_le (by simp)) hbulk
 obtain⟨A0,len0,cap0,rfl⟩:=okWide_slice Tryz.underlying22 (hval 0 22 v0 rfl rfl)
 have b0:=h0
 have lt0 : ∀x∈p0,x.block<W.heap.size:=by obtain⟨m,hm⟩:=b0;exact DataW.trod_lt m _ _ _ hm
 obtain⟨fuel0,hf0⟩:=h0
 obtain⟨x0,e0,k0⟩:=op_sStd H enc W fuel0 (Value.cells (.slice A0 len0 cap0)).toList _ _ hf0 (fun n hn=>hsz n (weights_each (j:=0) rfl rfl n hn)) bk0
 have bk1:Rows.uptoBulk d1≤1048576:=Nat.le_trans (bulks.part_le (by simp)) hbulk
 obtain⟨A1,len1,cap1,rfl⟩:=okWide_slice Tryz.underlying23 (hval 1 23 v1 rfl rfl)
 have b1:=h1
 have lt1 : ∀x∈p1,x.block<W.heap.size:=by obtain⟨m,hm⟩:=b1;exact DataW.trod_lt m _ _ _ hm
 obtain⟨fuel1,hf1⟩:=h1
 obtain⟨x1,e1,k1⟩:=op_sScr H enc W fuel1 (Value.cells (.slice A1 len1 cap1)).toList _ _ hf1 (fun n hn=>hsz n (weights_each (j:=1) rfl rfl n hn)) bk1
 have bk2:Rows.uptoBulk d2≤1048576:=Nat.le_trans (bulks.part_le (by simp)) hbulk
 obtain⟨cs2,rfl,_⟩:=okWide_struct Tryz.underlying25 (hval 2 25 v2 rfl rfl)
 have b2:=h2
 have lt2 : ∀x∈p2,x.block<W.heap.size:=by obtain⟨m,hm⟩:=b2;exact DataW.trod_lt m _ _ _ hm
 obtain⟨fuel2,hf2⟩:=h2
 obtain⟨x2,e2,k2⟩:=op_Wsh H enc W fuel2 (Value.cells (.agg cs2)).toList _ _ hf2 (fun n hn=>hsz n (weights_each (j:=2) rfl rfl n hn)) bk2
 have bk3:Rows.uptoBulk d3≤1048576:=Nat.le_trans (bulks.part_le (by simp)) hbulk
 obtain⟨x3,rfl,rfl,rfl,w3⟩:=open_int Tryz.underlying3 (hval 3 3 v3 rfl rfl) h3
 clear hA0 hval0
 have hpre:preTop1 x0 x1 x2 x3=true:=by exact F.top_ok _ _ _ _
 have hspec:=orc_at okTop encTop_inj (x0,x1,x2,x3) hpre
 refine(law_calls (W:=W) (cargs:=[.slice A0 len0 cap0, .slice A1 len1 cap1, .agg cs2, .int .i64 x3]) hspec (noG_at hsh hL) ⟨rv_sl_of e0,rv_sl_of e1,rv_agg_of e2,rv_int_of w3,trivial⟩).mono fun e W1 ⟨he,bel⟩=>?_
 subst he
 exact⟨_,rfl,_,_,_,[],_,[],hW',trodAll_mk1 (shut_bool Tryz.underlying4 _),(trodAll_cons_mk (Below.trod laidOut (by kernel_rfl) (of_decide_eq_true (by kernel_rfl)) b0 bel lt0) (trodAll_cons_mk (Below.trod laidOut (by kernel_rfl) (of_decide_eq_true (by kernel_rfl)) b1 bel lt1) (trodAll_cons_mk (Below.trod laidOut (by kernel_rfl) (of_decide_eq_true (by kernel_rfl)) b2 bel lt2) (trodAll_cons_mk (shut_int Tryz.underlying3 w3) trodAll_mk0)))),rfl,bel.frame _,fun h=>by cases h⟩

theorem topRatesAreOne_reads (os:Os) {H:Type} (enc:TypeId×Value→H) : ∃places,DataW.whole enc Tryz.prog ((World.laidAll Tryz.prog os Rows.topRatesAreOneUptoRow.laid).forCall (fun _ _=>0) ⟨#[], #[.slice none 0 0, .slice none 0 0, .agg #[.int .i64 0, .int .i64 0, .int .i64 0], .int .i64 0],[]⟩).memory Tryz.f3.params.toList Rows.topRatesAreOneSpec.vars false (#[.slice none 0 0, .slice none 0 0, .agg #[.int .i64 0, .int .i64 0, .int .i64 0], .int .i64 0]:Array Value).toList 8=some ([.nil, .nil, .agg [.lit (.int .i64 0), .lit (.int .i64 0), .lit (.int .i64 0)], .lit (.int .i64 0)],[],places):=
 ⟨[],by kernel_rfl⟩

theorem topRatesAreOne_met (os:Os):laidMet Tryz.prog Rows.topRatesAreOneUptoRow.laid ((World.laidAll Tryz.prog os Rows.topRatesAreOneUptoRow.laid).forCall (fun _ _=>0) ⟨#[], #[.slice none 0 0, .slice none 0 0, .agg #[.int .i64 0, .int .i64 0, .int .i64 0], .int .i64 0],[]⟩).memory:=laidMet_laidAll _ (by kernel_rfl) (by kernel_rfl)

set_option maxRecDepth 100000 in
theorem topRatesAreOne_lifted (os:Os) (started:os.Started) (H:Type) (enc:TypeId×Value→H) (F:Stop.Interp) :
  ReturnsInHanded {} Tryz.checked os 3 .any ((Rows.OpenSpec.upto Rows.topRatesAreOneSpec).preRow enc Tryz.prog Tryz.f3 Rows.topRatesAreOneUptoRow.domain false Rows.topRatesAreOneUptoRow.laid) (((Rows.OpenSpec.upto Rows.topRatesAreOneSpec).at F).post enc Tryz.prog Tryz.f3 false true false false):=by
 obtain⟨places,hx⟩:=topRatesAreOne_reads os enc
 refine returnsInHanded_of_row (C:=Tryz.checked) (s:=Rows.OpenSpec.upto Rows.topRatesAreOneSpec) own started (by kernel_rfl) Tryz.func3
  (witness_row_at (enc:=enc) (C:=Tryz.checked) false (World.laidAll Tryz.prog os Rows.topRatesAreOneUptoRow.laid) #[.slice none 0 0, .slice none 0 0, .agg #[.int .i64 0, .int .i64 0, .int .i64 0], .int .i64 0] (World.laidAll_os _ _ _) (by kernel_rfl) (by kernel_rfl) (by kernel_rfl)
   (OpenSpec.preRow_of_cond 8 hx (by kernel_rfl) (fun k hk=>by cases hk;kernel_rfl) (by kernel_rfl) (topRatesAreOne_met os))) ?_
 intro W base args ds gs before hval hW _ hcond hsz hL hsh _
 exact topRatesAreOne_contract H enc W base args ds gs before hval hW (bulks.bound (hcond _ rfl)) hsz hL hsh

theorem topRatesAreOne_upto:Rows.TopRatesAreOneUptoSaid:=
 OpenClaim.holds_of_cond 3 Tryz.f3 rfl rfl rfl rfl rfl rfl rfl ⟨rfl,rfl,rfl,rfl,rfl⟩ rfl rfl rfl rfl rfl (by kernel_rfl) Tryz.func3 (by kernel_rfl)
  (of_decide_eq_true (by kernel_rfl)) (by unfold Func.isWrapper;first | (rw[if_pos (by decide +kernel)];kernel_rfl) | (rw[if_neg (by decide +kernel)];exact⟨rfl,rfl⟩))
  (fun os started H enc _ F=>by rw[OpenClaim.pre_eq_preRow];exact topRatesAreOne_lifted os started H enc F)
#print axioms topRatesAreOne_upto

theorem topRatesAreOne_plain (f : FuncId) (fn : Func) (hf : Tryz.pinned.checked.prog.funcNamed "headend/headendtop.TopRatesAreOne" = some f) (hfn : Tryz.pinned.checked.prog.funcs[f]? = some fn) :
  true=Tryz.pinned.checked.prog.looks [] ∧ ∀(j:Nat) t,fn.params[j]? = some t→Tryz.pinned.checked.prog.wantsStandIn t=false:=by
 obtain rfl : f = 3 := Option.some.inj ((show Tryz.prog.funcNamed "headend/headendtop.TopRatesAreOne" = some 3 by kernel_rfl).symm.trans hf) |>.symm
 obtain rfl:fn=Tryz.f3:=(Option.some.inj (Tryz.func3.symm.trans hfn)).symm
 refine⟨by kernel_rfl,fun j t ht=>?_⟩
 rw[Tryz.params3]at ht
 have hm:t∈[22,23,25,3]:=by simpa using Array.mem_of_getElem? ht
 have hall:([22,23,25,3].all fun u=> !Tryz.prog.wantsStandIn u)=true:=by kernel_rfl
 exact(show Tryz.prog.wantsStandIn t=false by simpa using List.all_eq_true.1 hall t hm)

theorem topRatesAreOne_card : Rows.TopRatesAreOneUptoCardSaid :=
  Claim7.holds_tied_plain_at .later [] _ _ _ _ topRatesAreOne_upto (fun _ h => by cases h) (by kernel_rfl) (fun _ h => by cases h) topRatesAreOneUpto_row_tie rfl ⟨rfl, rfl⟩ (by kernel_rfl) rfl topRatesAreOne_plain (by kernel_rfl)
#print axioms topRatesAreOne_card
end Go.Proofs.YtpaeopnlblhpoaaGreatDoor
