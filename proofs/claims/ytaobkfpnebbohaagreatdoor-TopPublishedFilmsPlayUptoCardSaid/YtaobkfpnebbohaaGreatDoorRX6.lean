/- What is proved here: the statement TopPublishedFilmsPlay where what it reads is of bulk at most 1048576: the law returns true, and each argument reads as it did; tied to the program's text where variables are listed. -/
import Derived.Test.YtaobkfpnebbohaaGreatDoorRX5
open Go.Proofs.Tryz
open Array renaming ext'→vE,getElem?_eq_some_iff→ph,getElem?_modify→agV,mk→aA,size_append→vJ,toList_append→Lv
open Bool renaming and_eq_true→aG,and_self→bT,and_true→aS,false_or→nF,not_false→dt,not_true→dC,or_eq_false_iff→jQ,true_and→fM
open ByteArray renaming ext→agK,mk→az,size→aJ,size_append→gE
open Classical renaming propDecidable→B8
open Go.Builtin renaming append_→vH,unsafeSliceData_→aF0,unsafeString_→aF1,zeroCells→gF
open Go.DataW renaming trod_lt→Vb,weightsEach→agC
open Go.IntKind renaming bits→fA,i64→am,max→iX,min→jB,signed→ii,u8→Ll
open Go.Lib renaming VarReads→agW,cell_of_heap→Cb,run_append_grow_string→aFY,strCells→fO
open Go.Lib.laidMet renaming reads→agX
open Go.RowKit.Below renaming heap_setCell→aFZ,trod→Vc
open Go.Shelf renaming Ren→jS
open Go.Value renaming cells→KX,int→bh
open Go.World renaming cell?→lW,laidAll→agY,setCell→Lw
open Int renaming eq_ofNat_of_zero_le→nG,natAbs→qA
open List renaming all_eq_true→bP,any_cons→Lp,append_assoc→cq,append_nil→gH,cons_append→k6,drop→bn,drop_eq_getElem_cons→pe,drop_eq_nil_of_le→qr,drop_length→mA,drop_zero→df,eq_nil_of_length_eq_zero→sI,forall_mem_cons→gQ,getD→al,getD_eq_getElem?_getD→vL,getElem?_eq_getElem→bC,getElem?_eq_some_iff→cO,getElem?_map→dM,getElem?_take→mB,length→ae,length_append→ck,length_cons→gq,length_drop→fe,length_map→aN,length_nil→i6,length_singleton→ou,map→ab,map_cons→gP,map_nil→sD,mem_append→dn,mem_cons→cK,mem_cons_of_mem→iH,mem_cons_self→dN,mem_of_getElem?→cL,mem_singleton→i7,nil_append→eh,not_mem_nil→B9,singleton_append→mF,size_toArray→l3,take_left→nH
open List.cons renaming injEq→qq
open Nat renaming ble→aP,le_refl→bR,le_trans→iW,lt_of_lt_of_le→l5,mul_le_mul→vP,zero_add→gD,zero_le→cf,zero_mul→qC
open Option renaming bind→ai,bind_some→ar
open Option.some renaming inj→jC,injEq→eX
open Prod.mk renaming injEq→ny
noncomputable section
namespace Go.Proofs.YtaobkfpnebbohaaGreatDoor
open Go Go.RowKit
set_option linter.unusedVariables false
set_option linter.unusedSimpArgs false
set_option maxHeartbeats 1000000
theorem E7:Tryz.prog.underlying 144=some (.slice 5):=by kernel_rfl
theorem E8:Tryz.prog.underlying 9=some .string:=by kernel_rfl
theorem aCp:(Tryz.prog.info? 5).map (fun i=>(i.zero,i.size,i.bytes))=some (some (.int .u8 0),1,1):=by kernel_rfl
def nj (w:World) (v:Value) (own:Option Nat) (xs:List Value):Prop:=
 (∃A,v = .slice A 0 0/\xs=[]/\own=none) \/
 (∃g cap cur,own=some g/\v = .slice (some ⟨g,0,none⟩) xs.length cap/\w.heap[g]? = some (.cells cur 5 (0,0))/\xs.length<=cap/\cap<=9223372036854775807/\cur.size=cap/\cur.toList.take xs.length=xs)
theorem nj.kept {w w':World} {v:Value} {own:Option Nat} {xs:List Value} (h:nj w v own xs) (hb : ∀g,own=some g->w'.heap[g]? = w.heap[g]?):nj w' v own xs:=by
 rcases h with h | ⟨g,cap,cur,h1,h2,h3,h4⟩
 .exact .inl h
 .exact .inr ⟨g,cap,cur,h1,h2,by rw[hb g h1];exact h3,h4⟩
theorem TR (w:World) (cs:Array Value) (xs:List Value) (C:Nat) (h1:cs.size=C) (h2:xs.length<=C) (h3:C<=9223372036854775807) (h4:cs.toList.take xs.length=xs) (row:Option Nat) :
  nj (w.drew.alloc (.cells cs 5)) (.slice (some ⟨w.heap.size,0,none⟩) xs.length C) (some w.heap.size) xs/\w.grownBy (w.drew.alloc (.cells cs 5)) row:=by
 refine⟨.inr ⟨w.heap.size,C,cs,rfl,rfl,?_,h2,h3,h1,h4⟩,rfl,rfl,rfl,?_,fun k hk _=>?_⟩
 .show(w.heap.push _)[w.heap.size]? = _
  simp
 .show _<=(w.heap.push _).size
  simp
 .show(w.heap.push _)[k]? = _
  rw[Array.getElem?_push,if_neg (by omega)]
theorem vf (s:ByteArray):(fO s).length=s.size:=Lib.strCells_length s
theorem aCq (w:World) (ty:TypeId) {v:Value} {own:Option Nat} {xs:List Value} (h:nj w v own xs) (s:ByteArray) (hlen:xs.length+s.size<=140737488355328) :
  ∃v' w' own',(vH #[144,9] ty #[v, .string s]).run Tryz.prog w = .ok v' w'/\nj w' v' own' (xs++fO s)/\w.grownBy w' own/\(∀g,own'=some g->own=some g\/w.heap.size<=g):=by
 obtain⟨i0,hi,hz0,hz1,hz2⟩:=info_parts aCp
 have hl:=vf s
 have hgC : ∀n dS,n<=140737488355328->n<=grownCap w n dS 5/\grownCap w n dS 5<=9223372036854775807:=fun n dS hn=>
  ⟨grownCap_ge w n dS _,by have:=grownCap_le_maxLen w n dS 5 (by unfold maxLen;omega);unfold maxLen at this;omega⟩
 have h0c:(bh Ll 0).cells.size=1:=rfl
 rcases h with ⟨A,rfl,rfl,rfl⟩ | ⟨g,cap,cur,rfl,rfl,hg,hnc,hcm,hcs,ht⟩
 .simp only[i6,gD]at hlen
  by_cases hs:s.size=0
  .have hn:fO s=[]:=sI (by rw[hl];exact hs)
   refine⟨.slice A 0 0,w,none,?_, .inl ⟨A,rfl,by rw[hn];rfl,rfl⟩,⟨rfl,rfl,rfl,bR _,fun _ _ _=>rfl⟩,fun g hg=>by cases hg⟩
   have hf:=Lib.run_firstCells_string (P:=Tryz.prog) w 1 s
   rw[hs,hn]at hf
   cases A<;>simp[vH,run_underlying E7,run_underlying E8,sizeOf,typeInfo,hi,hz1,Builtin.lenOf,hs,hf,storeCells]
  .obtain⟨c1,c2⟩:=hgC s.size 0 hlen
   cases A with
   | none=>
    have hr:=run_append_nil_string (P:=Tryz.prog) w 144 9 ty 5 i0 _ E7 E8 hi hz0 s (by omega) (by omega) (by rw[hz2];omega)
    have e1:(s.data.map fun b=>bh .u8 b.toNat)=(fO s).toArray:=by
     apply vE
     simp[fO]
    rw[e1]at hr
    obtain⟨k1,k2⟩:=TR w ((fO s).toArray++gF (bh .u8 0).cells (grownCap w s.size 0 5 - s.size)) (fO s) (grownCap w s.size 0 5)
     (by rw[vJ,size_zeroCells,h0c,l3,hl];omega) (by rw[hl];exact c1) c2 (by rw[Lv];exact nH) none
    rw[hl]at k1
    exact⟨_,_,_,hr,by rw[eh];exact k1,k2,fun g hg=> .inr (by cases hg;exact bR _)⟩
   | some a=>
    have hr:=aFY (P:=Tryz.prog) w 144 9 ty 5 i0 _ E7 E8 hi hz0 a 0 0 [] (by simp) (fun j v hj=>by simp at hj) s (by omega) (by omega) (by rw[hz2];exact growslice_fits (by omega) (by omega))
    simp only[gD]at hr
    obtain⟨k1,k2⟩:=TR w (([]:List Value).toArray++(fO s).toArray++gF (bh .u8 0).cells (grownCap w s.size 0 5 - s.size)) (fO s) (grownCap w s.size 0 5)
     (by rw[vJ,vJ,size_zeroCells,h0c,l3,l3,hl];simp;omega) (by rw[hl];exact c1) c2 (by rw[Lv,Lv];exact nH) none
    rw[hl]at k1
    exact⟨_,_,_,hr,by rw[eh];exact k1,k2,fun g hg=> .inr (by cases hg;exact bR _)⟩
 .by_cases hroom:xs.length+s.size<=cap
  .have hr:=Lib.run_append_room_string (P:=Tryz.prog) w 144 9 ty 5 i0 E7 E8 hi hz1 g xs.length cap cur hg s hroom (by omega)
   have hl2:(xs++fO s).length=xs.length+s.size:=by rw[ck,hl]
   refine⟨_,_,some g,hr, .inr ⟨g,cap,_,rfl,by rw[hl2],setRow_heap w g cur _ _ _ hg,by rw[hl2];exact hroom,hcm,?_,?_⟩,⟨rfl,rfl,rfl,by simp,fun k _ hk=>setRow_other w g k _ (fun e=>hk (by rw[e]))⟩,fun g' hg'=> .inl hg'⟩
   .simp only[l3,ck,List.length_take,fe,Array.length_toList,hl]
    omega
   .rw[ht]
    exact nH
  .have holds : ∀j u,xs[j]? = some u->w.cell? ((⟨g,0,none⟩:Addr).add j)=some u:=fun j u hu=>by
    have hj:=(cO.1 hu).1
    have e:(cur.toList.take xs.length)[j]? = some u:=by rw[ht];exact hu
    rw[mB,if_pos hj]at e
    rw[Addr.add_lit,gD]
    simp only[lW,hg]
    simpa using e
   obtain⟨c1,c2⟩:=hgC (xs.length+s.size) cap hlen
   have hr:=aFY (P:=Tryz.prog) w 144 9 ty 5 i0 _ E7 E8 hi hz0 ⟨g,0,none⟩ xs.length cap xs (by rw[hz1];simp) holds s (by omega) (by omega) (by rw[hz2];exact growslice_fits (by omega) (by omega))
   have hl2:(xs++fO s).length=xs.length+s.size:=by rw[ck,hl]
   obtain⟨k1,k2⟩:=TR w (xs.toArray++(fO s).toArray++gF (bh .u8 0).cells (grownCap w (xs.length+s.size) cap 5 - (xs.length+s.size))) (xs++fO s) (grownCap w (xs.length+s.size) cap 5)
    (by rw[vJ,vJ,size_zeroCells,h0c,l3,l3,hl];omega) (by rw[hl2];exact c1) c2 (by rw[Lv,Lv];exact nH) (some g)
   rw[hl2]at k1
   exact⟨_,_,_,hr,k1,k2,fun g' hg'=> .inr (by cases hg';exact bR _)⟩
def aeP:jS:=⟨fun | 240=>114 | 276=>146 | n=>n,fun | 0=>0 | 4=>4 | 9=>9 | 20=>20 | 37=>144 | 70=>143 | 72=>146 | 164=>231 | n=>n,fun | n=>n⟩
theorem aeQ:Go.Proofs.Lays.n240 Tryz.prog aeP:={
 mixed:=by kernel_rfl
 f240:=func114.trans (congrArg some (by kernel_rfl))
 f276:=func146.trans (congrArg some (by kernel_rfl))
 t0:=underlying0
 a0:=isAgg0
 z0:=sizeOf0
 v0:=zeroValue0
 t4:=underlying4
 a4:=isAgg4
 z4:=sizeOf4
 v4:=zeroValue4
 t9:=underlying9
 a9:=isAgg9
 z9:=sizeOf9
 v9:=zeroValue9
 t20:=underlying20
 a20:=isAgg20
 z20:=sizeOf20
 v20:=zeroValue20
 t70:=underlying143
 a70:=isAgg143
 z70:=sizeOf143
 v70:=zeroValue143
 t72:=underlying146
 a72:=isAgg146
 z72:=sizeOf146
 v72:=zeroValue146
 t164:=underlying231
 a164:=isAgg231
 z164:=sizeOf231
 v164:=zeroValue231 }
theorem aeR:Builder.X72 Tryz.prog aeP:=⟨by kernel_rfl,by kernel_rfl⟩
structure Bi (w w':World) (k:Nat->Prop):Prop where
 os:w'.os=w.os
 tape:w'.tape=w.tape
 output:w'.output=w.output
 size:w.heap.size<=w'.heap.size
 block : ∀b,b<w.heap.size->k b->w'.heap[b]? = w.heap[b]?
theorem aCr (b:Nat) (p v:Value) (hp:p = .pointer none\/p = .pointer (some ⟨b,0,none⟩)) (w:World) (hbk:w.heap[b]? = some (.cells #[p,v] 146 (0,0))) :
  Calls Tryz.prog 114 #[.pointer (some ⟨b,0,none⟩)] w fun e w'=>e = .returned (.tuple #[])/\w'.heap[b]? = some (.cells #[.pointer (some ⟨b,0,none⟩),v] 146 (0,0))/\w'.heap.size=w.heap.size/\Bi w w' (fun k=>k≠b):=by
 have hc0:w.cell? ⟨b,0,none⟩=some p:=by rw[Cb hbk];rfl
 rcases hp with rfl | rfl
 .refine(Any.Builder_copyCheck_fresh aeQ aeR b w hc0 (by simp[World.shape?,hbk];rfl) (by simp[World.frozen?,hbk])).mono ?_
  rintro e w' ⟨rfl,rfl⟩
  exact⟨rfl,by simp[Lw,agV,hbk],by simp[Lw],rfl,rfl,rfl,by simp[Lw],fun k _ hk=>aFZ _ _ _ _ (fun e=>hk (by simpa using e))⟩
 .refine(Any.Builder_copyCheck_used aeQ aeR b w hc0).mono ?_
  rintro e w' ⟨rfl,rfl⟩
  exact⟨rfl,hbk,rfl,rfl,rfl,rfl,bR _,fun _ _ _=>rfl⟩
set_option maxHeartbeats 4000000 in
set_option maxRecDepth 100000 in
theorem aCs (b:Nat) (p v:Value) (own:Option Nat) (xs:List Value) (s:ByteArray) (hp:p = .pointer none\/p = .pointer (some ⟨b,0,none⟩)) (w:World) (hbk:w.heap[b]? = some (.cells #[p,v] 146 (0,0)))
  (hbuf:nj w v own xs) (hne:own≠some b) (hlen:xs.length+s.size<=140737488355328) :
  Calls Tryz.prog 68 #[.pointer (some ⟨b,0,none⟩), .string s] w fun e w'=>e = .returned (.tuple #[.int .i64 s.size, .nilIface]) /\ ∃v' own',w'.heap[b]? = some (.cells #[.pointer (some ⟨b,0,none⟩),v'] 146 (0,0)) /\
   nj w' v' own' (xs++fO s)/\own'≠some b/\(∀g,own'=some g->own=some g\/w.heap.size<=g)/\Bi w w' (fun k=>k≠b/\own≠some k):=by
 go_enter func68,ntmps68
 go_wp2_with (go_at_call 114;refine(aCr b p v hp _ hbk).mono ?_)
 rintro e w1 ⟨rfl,hb1,hsz,hst⟩
 have hlt:b<w.heap.size:=(ph.1 hbk).1
 have hbuf1:nj w1 v own xs:=hbuf.kept fun g hg=>by
  rcases hbuf with ⟨A,_,_,h⟩ | ⟨g',cap,cur,h1,h2,h3,_⟩
  .rw[h]at hg;cases hg
  .rw[hg]at h1
   cases h1
   exact hst.block g (ph.1 h3).1 (fun e=>hne (by rw[hg,e]))
 obtain⟨v',w2,own',hr,hb2,hg2,hn2⟩:=aCq w1 144 hbuf1 s hlen
 have c0:w1.cell? ⟨b,0,none⟩=some (.pointer (some ⟨b,0,none⟩)):=by rw[Cb hb1];rfl
 have c1:w1.cell? ⟨b,1,none⟩=some v:=by rw[Cb hb1];rfl
 have hB2:w2.heap[b]? = some (.cells #[.pointer (some ⟨b,0,none⟩),v] 146 (0,0)):=by
  rw[hg2.block b (by omega) (fun e=>hne e.symm)];exact hb1
 have d0:w2.cell? ⟨b,0,none⟩=some (.pointer (some ⟨b,0,none⟩)):=by rw[Cb hB2];rfl
 have d1:w2.cell? ⟨b,1,none⟩=some v:=by rw[Cb hB2];rfl
 have f1:w2.frozen? ⟨b,1,none⟩=false:=Lib.frozen_of_heap hB2 1
 have hne2:own'≠some b:=fun e=>by
  rcases hn2 b e with h | h
  .exact hne h
  .omega
 obtain⟨ao,n',cap,rfl⟩ : ∃ao n' cap,v' = .slice ao n' cap:=by
  rcases hb2 with ⟨A,h,_⟩ | ⟨g,cap,cur,_,h,_⟩
  .exact⟨_,_,_,h⟩
  .exact⟨_,_,_,h⟩
 go_wp2_with (at_builtin;refine Lib.wpList_append_run _ rfl _ _ _ _ rfl _ _ rfl rfl _ _ hr ?_)
 go_ret2
 have hS : ∀k,k≠b->(w2.setCell ⟨b,1,none⟩ (.slice ao n' cap)).heap[k]? = w2.heap[k]?:=fun k hk=>aFZ _ _ _ _ (fun e=>hk (by simpa using e))
 have hZ:(w2.setCell ⟨b,1,none⟩ (.slice ao n' cap)).heap.size=w2.heap.size:=by simp[Lw]
 refine⟨rfl, .slice ao n' cap,own',?_,hb2.kept fun g hg=>hS g (fun e=>hne2 (by rw[hg,e])),hne2,fun g hg=>by have:=hn2 g hg;rw[hsz]at this;exact this,?_,?_,?_,?_,?_⟩
 .simp[Lw,agV,hB2]
 .exact hg2.os.trans hst.os
 .exact hg2.tape.trans hst.tape
 .exact hg2.output.trans hst.output
 .rw[hZ];have:=hg2.size;omega
 .rintro k hk ⟨k1,k2⟩
  rw[hS k k1,hg2.block k (by omega) (fun e=>k2 e.symm)]
  exact hst.block k hk k1
theorem aCt (w:World) (g n k:Nat) (h:k≠g):(w.freeze ⟨g,0,none⟩ n).heap[k]? = w.heap[k]?:=by
 unfold World.freeze
 split
 .rfl
 .simp only[agV]
  rw[if_neg (fun e=>h e.symm)]
theorem aCu (w:World) (g n:Nat):Bi w (w.drew.freeze ⟨g,0,none⟩ n) (fun k=>k≠g):=by
 have h : ∀k,k≠g->(w.drew.freeze ⟨g,0,none⟩ n).heap[k]? = w.drew.heap[k]?:=fun k hk=>aCt _ _ _ _ hk
 refine⟨?_,?_,?_,?_,fun k _ hk=>h k hk⟩
 all_goals (unfold World.freeze;split<;>first | rfl | exact bR _ | (rw[Array.size_modify];exact bR _))
set_option maxHeartbeats 4000000 in
set_option maxRecDepth 100000 in
theorem aCv (b g cap:Nat) (p:Value) (cur:Array Value) (l:List UInt8) (w:World) (hbk:w.heap[b]? = some (.cells #[p, .slice (some ⟨g,0,none⟩) l.length cap] 146 (0,0)))
  (hg:w.heap[g]? = some (.cells cur 5 (0,0))) (hle:l.length<=cap) (hcap:cap<=9223372036854775807) (hcs:cur.size=cap) (ht:cur.toList.take l.length=Lib.byteCells l) (h0:l≠[]) :
  Calls Tryz.prog 72 #[.pointer (some ⟨b,0,none⟩)] w fun e w'=>e = .returned (.string ⟨l.toArray⟩)/\Bi w w' (fun k=>k≠g):=by
 have hl0:l.length≠0:=by simpa using h0
 have c1:w.drew.cell? ⟨b,1,none⟩=some (.slice (some ⟨g,0,none⟩) l.length cap):=by
  have:w.drew.heap[b]? = some (.cells #[p, .slice (some ⟨g,0,none⟩) l.length cap] 146 (0,0)):=hbk
  rw[Cb this];rfl
 have hSD:(aF0 #[144] 204 #[.slice (some ⟨g,0,none⟩) l.length cap]).run Tryz.prog w.drew = .ok (.pointer (some ⟨g,0,none⟩)) w.drew:=
  Lib.run_unsafeSliceData_row _ _ _ _ _ _ (by omega)
 have hUS:(aF1 #[204,3] 9 #[.pointer (some ⟨g,0,none⟩), .int .i64 l.length]).run Tryz.prog w.drew = .ok (.string ⟨l.toArray⟩) (w.drew.freeze ⟨g,0,none⟩ l.length):=by
  refine Lib.run_unsafeString_row w.drew _ _ _ 5 underlying204 (by kernel_rfl) g cur.size (by have hg':w.drew.heap[g]? = some (.cells cur 5 (0,0)):=hg;simp[World.shape?,hg']) l h0 (by omega) (by omega) ?_
  intro j x hx
  have hj:=(cO.1 hx).1
  have e:(cur.toList.take l.length)[j]? = some (.int .u8 x.toNat):=by rw[ht];simp[Lib.byteCells,hx]
  rw[mB,if_pos hj]at e
  have hg':w.drew.heap[g]? = some (.cells cur 5 (0,0)):=hg
  rw[Addr.add_lit,gD]
  simp only[lW,hg']
  simpa using e
 go_enter func72,ntmps72
 go_wp2
 go_region
 all_goals (go_wp2;go_ret;exact⟨rfl,aCu w g l.length⟩)
set_option maxHeartbeats 4000000 in
set_option maxRecDepth 100000 in
theorem aCw (b:Nat) (p:Value) (w:World) (hbk:w.heap[b]? = some (.cells #[p, .slice none 0 0] 146 (0,0))) :
  Calls Tryz.prog 72 #[.pointer (some ⟨b,0,none⟩)] w fun e w'=>e = .returned (.string ⟨#[]⟩)/\Bi w w' (fun _=>True):=by
 have hUS : ∀W:World,(aF1 #[204,3] 9 #[.pointer none, .int .i64 0]).run Tryz.prog W = .ok (.string .empty) W:=fun W=>Lib.run_unsafeString_none W _ _ _ _
 have c1:w.drew.cell? ⟨b,1,none⟩=some (.slice none 0 0):=by
  have:w.drew.heap[b]? = some (.cells #[p, .slice none 0 0] 146 (0,0)):=hbk
  rw[Cb this];rfl
 have hSD:(aF0 #[144] 204 #[.slice none 0 0]).run Tryz.prog w.drew = .ok (.pointer none) w.drew:=rfl
 go_enter func72,ntmps72
 go_wp2
 go_region
 all_goals (go_wp2;go_ret;exact⟨rfl,rfl,rfl,rfl,bR _,fun _ _ _=>rfl⟩)
def vr (b:UInt8):M.Row:=[.v (.int .u8 b.toNat)]
def cn (s:ByteArray):List M.Row:=s.data.toList.map vr
def fz (o:Option ByteArray):ByteArray:=match o with
 | none=>⟨⟨[]⟩⟩
 | some s=>s
def KB (o:Option ByteArray):Nat:=match o with
 | none=>0
 | some s=>s.size
theorem Fw (s:ByteArray):fz (some s)=s:=rfl
def fL (o:Option ByteArray) (x:ByteArray):Bool:=decide (KB o+x.size<=140737488355328)
def Uz (o:Option ByteArray):Bool:=o.isNone||decide (0<(fz o).size)
theorem KD (s x:ByteArray):fL (some s) x=decide (s.size+x.size<=140737488355328):=rfl
theorem aFj (s:ByteArray):Uz (some s)=decide (0<s.size):=rfl
namespace M
theorem aCx (a b:UInt8) (h:vr a=vr b):a=b:=by
 simp only[vr,qq,AV.v.injEq,bh.injEq,true_and,and_true]at h
 exact UInt8.toNat_inj.1 (by omega)
theorem TS {a b:ByteArray}:cn a=cn b↔a=b:=by
 unfold cn
 rw[List.map_inj_right aCx]
 exact⟨fun h=>agK (vE h),fun h=>by rw[h]⟩
theorem Ke (s:ByteArray):(cn s).length=s.size:=by
 unfold cn
 rw[aN]
 simp
theorem aCy (s x:ByteArray):fO (s++x)=fO s++fO x:=by
 unfold fO
 simp
def Bj (o:Option ByteArray):Heap:=match o with
 | none=>[(900,⟨true,146,0,[[.v (.pointer none), .v (.slice none 0 0)]]⟩)]
 | some s=>[(901,⟨false,5,1,cn s⟩),(900,⟨true,146,0,[[.ptr 900 0 0, .own 901]]⟩)]
def n9 (X Y:BI) (kY:Nat):Nat->Option BI:=fun k=>if k=900 then some X else if k=kY then some Y else none
theorem TT (X Y:BI) (kY:Nat):n9 X Y kY 900=some X:=by unfold n9;rw[if_pos rfl]
theorem aeS (X Y:BI) {kY:Nat} (h:kY≠900):n9 X Y kY kY=some Y:=by unfold n9;rw[if_neg h,if_pos rfl]
theorem vg {X Y:BI} {kY k:Nat} {x:BI} (h:n9 X Y kY k=some x):(k=900/\x=X)\/(k=kY/\k≠900/\x=Y):=by
 unfold n9 at h
 split at h
 .cases h;exact .inl ⟨‹_›,rfl⟩
 .split at h
  .cases h;exact .inr ⟨‹_›, ‹_›,rfl⟩
  .cases h
theorem TU {cs:Array Value} {a b:Value} (h:cs.size=2) (h0:cs[0]? = some a) (h1:cs[1]? = some b):cs = #[a,b]:=by
 refine Array.ext (by simpa using h) fun i hi hj=>?_
 have hi2:i=0\/i=1:=by omega
 rcases hi2 with rfl | rfl
 .have:=(ph.1 h0).2
  simpa using this
 .have:=(ph.1 h1).2
  simpa using this
theorem TV {G:Nat->Option GR} {w w':World} {S:Nat->Prop} {β:Nat->Option BI} {hin hout:Heap} (inv:mO G (je w β) w S β hin) {X Y:BI} {kY:Nat} (hk:kY≠900) (hX:β 900=some X) (hXr:X.real=true)
  {P:Nat->Prop} (st:Bi w w' P) (hP : ∀b,b<w.heap.size->(∀k x,β k=some x->x.real=true->x.b≠b)->P b)
  (hY:Y.real=true->Y.b<w'.heap.size/\Y.b≠X.b/\((∃k y,β k=some y/\y.real=true/\y.b=Y.b)\/w.heap.size<=Y.b))
  {bX bY:ah} (hbX:fy w' S (n9 X Y kY) bX X) (hbY:Y.real=true->fy w' S (n9 X Y kY) bY Y) (hbV:Y.real=false->bY.rows=[]/\bY.box=false)
  (h900:an hout 900=some bX) (hkY:an hout kY=some bY) (honly : ∀k bl,an hout k=some bl->k=900\/k=kY) (hxV:X.real=false->bX.rows=[]/\bX.box=false) :
  dW (je w β) w w'/\mO G (je w β) w' S (n9 X Y kY) hout:=by
 obtain⟨x1,x2,x3⟩:=inv.new 900 X hX hXr
 have hSb : ∀b,S b->w'.heap[b]? = w.heap[b]?:=fun b hb=>st.block b (inv.lt b hb) (hP b (inv.lt b hb) fun k x hkx hxr e=>(inv.new k x hkx hxr).2.2 (e▸hb))
 have hBb : ∀b,je w β b->w'.heap[b]? = w.heap[b]?:=fun b hb=>st.block b hb.1 (hP b hb.1 fun k x hkx hxr e=>hb.2 ⟨k,x,hkx,hxr,e⟩)
 have hYn:Y.real=true -> ¬je w β Y.b/\Y.b<w'.heap.size /\ ¬S Y.b:=fun hr=>by
  obtain⟨y1,y2,y3⟩:=hY hr
  rcases y3 with ⟨k,y,k1,k2,k3⟩ | hge
  .obtain⟨n1,n2,n3⟩:=inv.new k y k1 k2
   rw[<-k3]
   exact⟨n1,by rw[k3];exact y1,n3⟩
  .exact⟨fun h=>by have:=h.1;omega,y1,fun h=>by have:=inv.lt _ h;omega⟩
 refine⟨⟨st.os,st.tape,st.output,st.size,hBb⟩,fun b hb=>l5 (inv.base b hb) st.size,fun b hb=>l5 (inv.lt b hb) st.size,?_,?_,?_,?_,fun g r hg=>(inv.dH g r hg).mono hSb fun _ h=>h⟩
 .intro k k' x x' h1 h2 r1 r2 e
  rcases vg h1 with ⟨rfl,rfl⟩ | ⟨rfl,_,rfl⟩<;>rcases vg h2 with ⟨rfl,rfl⟩ | ⟨rfl,_,rfl⟩
  .rfl
  .exact absurd e.symm (hY r2).2.1
  .exact absurd e (hY r1).2.1
  .rfl
 .intro k x h1 r1
  rcases vg h1 with ⟨rfl,rfl⟩ | ⟨rfl,_,rfl⟩
  .exact⟨x1,l5 x2 st.size,x3⟩
  .exact hYn r1
 .intro k x h1
  rcases vg h1 with ⟨rfl,rfl⟩ | ⟨rfl,_,rfl⟩
  .exact⟨bX,h900,fun _=>hbX,hxV⟩
  .exact⟨bY,hkY,hbY,hbV⟩
 .intro k bl h1
  rcases honly k bl h1 with rfl | rfl
  .exact⟨X,TT _ _ _⟩
  .exact⟨Y,aeS _ _ hk⟩
theorem aeT {w:World} {v:Value} {own:Option Nat} {s:ByteArray} (h:nj w v own (fO s)) :
  ∃Y:BI,(Y.real=true->own=some Y.b/\v = .slice (some ⟨Y.b,0,none⟩) Y.len Y.cap/\Y.b<w.heap.size /\ ∀S β,fy w S β ⟨false,5,1,cn s⟩ Y)/\(Y.real=false->cn s=[]/\own=none /\ ∃A,v = .slice A 0 0):=by
 have hl:=vf s
 rcases h with ⟨A,rfl,h1,rfl⟩ | ⟨g,cap,cur,rfl,rfl,hg,hnc,hcm,hcs,ht⟩
 .refine⟨⟨false,0,0,0,0⟩,fun h=>(by cases h),fun _=>⟨?_,rfl,A,rfl⟩⟩
  refine sI ?_
  rw[Ke,<-hl,h1];rfl
 .refine⟨⟨true,g,s.size,cap,1⟩,fun _=>⟨rfl,by rw[hl],(ph.1 hg).1,fun S β=>?_⟩,fun h=>(by cases h)⟩
  refine⟨cur,5,hg,by simp only[Nat.mul_one];exact hcs,Ke s,by simp only;omega,hcm,fun _=>⟨rfl,rfl⟩,(fun h=>by cases h),fun i row hi=>?_⟩
  simp only[cn,dM,Option.map_eq_some_iff]at hi
  obtain⟨b,hb,rfl⟩:=hi
  refine⟨rfl,fun j a hj=>?_⟩
  have hj0:j=0:=by
   have:=(cO.1 hj).1
   simp only[vr,ou]at this;omega
  subst hj0
  simp only[vr,List.getElem?_cons_zero,eX]at hj
  subst hj
  have hi2:(fO s)[i]? = some (.int .u8 b.toNat):=by
   unfold fO
   rw[dM,hb];rfl
  have hil:=(cO.1 hi2).1
  rw[<-ht,mB,if_pos hil]at hi2
  refine⟨.int .u8 b.toNat,by simpa using hi2,?_⟩
  have hlt:=b.toNat_lt
  have hok:dh (.int .u8 b.toNat):=by
   show Ll.min<=_/\_<=Ll.max
   simp only[jB,iX,ii,fA]
   simp
   omega
  simpa using R0.v (w:=w) (S:=S) hok
theorem aCz {w:World} {S:Nat->Prop} {β:Nat->Option BI} {s:ByteArray} {Z:BI} (h:fy w S β ⟨false,5,1,cn s⟩ Z):nj w (.slice (some ⟨Z.b,0,none⟩) Z.len Z.cap) (some Z.b) (fO s):=by
 obtain⟨cs,ty,c1,c2,c3,c4,c5,c6,c7,c8⟩:=h
 obtain⟨c61,c62⟩:=c6 rfl
 have hl:=vf s
 simp only at c61 c62 c3
 rw[Ke]at c3
 rw[c61]at c1
 refine .inr ⟨Z.b,Z.cap,cs,rfl,by rw[hl,c3],c1,by omega,c5,by rw[c2,c62];simp,?_⟩
 refine List.ext_getElem? fun i=>?_
 rw[mB]
 split
 .rename_i hi
  have hi2:i<s.data.toList.length:=by rw[hl]at hi;simpa using hi
  have hb:s.data.toList[i]? = some s.data.toList[i]:=bC hi2
  generalize s.data.toList[i]=b at hb
  obtain⟨_,c9⟩:=c8 i (vr b) (by simp only[cn,dM,hb];rfl)
  obtain⟨v,hv,hr⟩:=c9 0 (vU b.toNat) rfl
  rw[c62]at hv
  have hr:R0 w S (vU b.toNat) v:=by simpa using hr
  cases hr
  unfold fO
  rw[dM,hb]
  simpa using hv
 .rename_i hi
  rw[List.getElem?_eq_none (by omega)]
theorem aeU {w:World} {S:Nat->Prop} {X Y:BI} {kY:Nat} (hk:kY≠900) {v:Value} (hXr:X.real=true) (h:w.heap[X.b]? = some (.cells #[.pointer (some ⟨X.b,0,none⟩),v] 146 (0,0))) (hXs:X.size=2) (hXl:X.len=1) (hXc:X.cap=1)
  (hv1:Y.real=true->v = .slice (some ⟨Y.b,0,none⟩) Y.len Y.cap) (hv2:Y.real=false -> ∃A,v = .slice A 0 0):fy w S (n9 X Y kY) ⟨true,146,0,[[.ptr 900 0 0, .own kY]]⟩ X:=by
 refine⟨_,_,h,by rw[hXs,hXc];rfl,hXl.symm,by omega,by omega,(fun h=>by cases h),fun _=>⟨fun _=>hXc,fun h=>absurd rfl h, .inr rfl⟩,fun i row hi=>?_⟩
 have hi0:i=0:=by
  have:=(cO.1 hi).1
  simp at this;exact this
 subst hi0
 cases hi
 refine⟨hXs.symm,fun j a hj=>?_⟩
 have hj2:j<2:=(cO.1 hj).1
 have hj3:j=0\/j=1:=by omega
 rcases hj3 with rfl | rfl
 .cases hj
  exact⟨.pointer (some ⟨X.b,0,none⟩),by rw[qC];rfl,X,TT _ _ _,hXr,by simp⟩
 .cases hj
  exact⟨v,by rw[qC];rfl,Y,aeS _ _ hk,hv1,hv2⟩
theorem aeV {G:Nat->Option GR} {w:World} {S:Nat->Prop} {β:Nat->Option BI} {o:Option ByteArray} {u:Value} (inv:mO G (je w β) w S β (Bj o)) (h:RV w S β (.ptr 900 0 0) u) :
  ∃X p v own xs,β 900=some X/\X.real=true/\X.size=2/\X.len=1/\X.cap=1/\u = .pointer (some ⟨X.b,0,none⟩)/\(p = .pointer none\/p = .pointer (some ⟨X.b,0,none⟩))/\w.heap[X.b]? = some (.cells #[p,v] 146 (0,0)) /\
   nj w v own xs/\own≠some X.b/\(match o with | none=>xs=[]/\own=none | some s=>xs=fO s)/\(∀g,own=some g -> ∃k y,β k=some y/\y.real=true/\y.b=g)/\X.b<w.heap.size:=by
 obtain⟨X,hX,hXr,rfl⟩ : ∃x,β 900=some x/\x.real=true/\u = .pointer (some ⟨x.b,0*x.size+0,none⟩):=h
 obtain⟨bl,hb,h3,_⟩:=inv.di 900 X hX
 obtain⟨cs,ty,c1,c2,c3,c4,c5,c6,c7,c8⟩:=h3 hXr
 have hT:(146:Nat)≠0:=by decide
 cases o with
 | none=>
  have hb0:some (⟨true,146,0,[[.v (.pointer none), .v (.slice none 0 0)]]⟩:ah)=some bl:=hb
  cases hb0
  obtain⟨d1,_,d2⟩:=c7 rfl
  have d1:=d1 rfl
  have d2:ty=146:=d2.resolve_left hT
  obtain⟨e1,e2⟩:=c8 0 _ rfl
  have e1:X.size=2:=e1.symm
  obtain⟨v0,f0,g0⟩:=e2 0 _ rfl
  obtain⟨v1,f1,g1⟩:=e2 1 _ rfl
  have g0:R0 w S (.v (.pointer none)) v0:=g0
  cases g0
  have g1:R0 w S (.v (.slice none 0 0)) v1:=g1
  cases g1
  rw[qC]at f0 f1
  have hcs:=TU (by rw[c2,d1,e1]) f0 f1
  rw[hcs,d2]at c1
  exact⟨X,_,_,none,[],hX,hXr,e1,c3.symm,d1,by simp, .inl rfl,c1, .inl ⟨none,rfl,rfl,rfl⟩,(by simp),⟨rfl,rfl⟩,(fun g h=>by cases h),(inv.new 900 X hX hXr).2.1⟩
 | some s=>
  have hb0:some (⟨true,146,0,[[.ptr 900 0 0, .own 901]]⟩:ah)=some bl:=hb
  cases hb0
  obtain⟨d1,_,d2⟩:=c7 rfl
  have d1:=d1 rfl
  have d2:ty=146:=d2.resolve_left hT
  obtain⟨e1,e2⟩:=c8 0 _ rfl
  have e1:X.size=2:=e1.symm
  obtain⟨v0,f0,g0⟩:=e2 0 _ rfl
  obtain⟨v1,f1,g1⟩:=e2 1 _ rfl
  obtain⟨X',hX',_,rfl⟩ : ∃x,β 900=some x/\x.real=true/\v0 = .pointer (some ⟨x.b,0*x.size+0,none⟩):=g0
  rw[hX]at hX'
  cases hX'
  obtain⟨Z,hZ,z1,z2⟩ : ∃x,β 901=some x/\(x.real=true->v1 = .slice (some ⟨x.b,0,none⟩) x.len x.cap)/\(x.real=false -> ∃A,v1 = .slice A 0 0):=g1
  rw[qC]at f0 f1
  have hcs:=TU (by rw[c2,d1,e1]) f0 f1
  rw[hcs,d2]at c1
  obtain⟨bl2,hb2,h4,h5⟩:=inv.di 901 Z hZ
  have hb3:some (⟨false,5,1,cn s⟩:ah)=some bl2:=hb2
  cases hb3
  cases hr:Z.real
  .obtain⟨A,rfl⟩:=z2 hr
   have h6:cn s=[]:=(h5 hr).1
   have h7:fO s=[]:=sI (by rw[vf,<-Ke,h6];rfl)
   exact⟨X,_,_,none,_,hX,hXr,e1,c3.symm,d1,by simp, .inr (by simp),c1, .inl ⟨A,rfl,h7,rfl⟩,(by simp),rfl,(fun g h=>by cases h),(inv.new 900 X hX hXr).2.1⟩
  .have hne:Z.b≠X.b:=fun e=>by
    have:=inv.inj 901 900 Z X hZ hX hr hXr e
    omega
   rw[z1 hr]at c1
   exact⟨X,_,_,some Z.b,_,hX,hXr,e1,c3.symm,d1,by simp, .inr (by simp),c1,aCz (h4 hr),(by simpa using hne),rfl,(fun g h=>⟨901,Z,hZ,hr,by cases h;rfl⟩),(inv.new 900 X hX hXr).2.1⟩
section
variable (o:Option ByteArray) (x:ByteArray)
def eO (a:Option ByteArray×ByteArray):List AV×Heap:=([.ptr 900 0 0,vS a.2],Bj a.1)
theorem TW a a' (h:eO a=eO a'):a=a':=by
 obtain⟨o,x⟩:=a
 obtain⟨o',x'⟩:=a'
 unfold eO at h
 simp only[ny,qq,AV.v.injEq,Value.string.injEq,true_and,and_true]at h
 obtain⟨rfl,h⟩:=h
 cases o with
 | none=>cases o' with
  | none=>rfl
  | some s=>simp[Bj]at h
 | some s=>cases o' with
  | none=>simp[Bj]at h
  | some s'=>
   simp only[Bj,qq,ny,ah.mk.injEq,true_and,and_true]at h
   rw[TS.1 h]
theorem aCA:ac eO (([.ptr 900 0 0,(vS x)],[(900,ah.mk true 146 0 [[AV.v (Value.pointer none),AV.v (Value.slice none (0:Nat) (0:Nat))]])]))=some (none,x):=ax TW (none,x) rfl
theorem Kf (s:ByteArray) (x:ByteArray):ac eO (([.ptr 900 0 0,(vS x)],[(901,ah.mk false 5 1 (cn s)),(900,ah.mk true 146 0 [[.ptr 900 0 0, .own 901]])]))=some (some s,x):=ax TW (some s,x) rfl
def aCB:Bool:=fL o x
def aCC (a:Option ByteArray×ByteArray):T (AV×Heap×List Nat):= .bM a.1.isNone
 (.ret (.aF [vI a.2.size, .v .nilIface],[(900,⟨true,146,0,[[.ptr 900 0 0, .own 0]]⟩),(0,⟨false,5,1,cn a.2⟩)],[]))
 (.ret (.aF [vI a.2.size, .v .nilIface],[(901,⟨false,5,1,cn (fz a.1++a.2)⟩),(900,⟨true,146,0,[[.ptr 900 0 0, .own 901]]⟩)],[901]))
def aeW:fT:=rq 68 eO (fun a=>aCB a.1 a.2) aCC
theorem aCD:fX Tryz.prog au aeW:=by
 refine G3 ⟨f68,by kernel_rfl,by kernel_rfl,by kernel_rfl⟩ (fun a r hp hk1 hk2 hr=>?_)
 obtain⟨o,x⟩:=a
 have hp:decide (KB o+x.size<=140737488355328)=true:=hp
 have hp:KB o+x.size<=140737488355328:=of_decide_eq_true hp
 have hx:x.size<=9223372036854775807:=GI (hk1 (vS x) (by simp[eO]))
 intro w S β cargs inv hargs
 match cargs,hargs with
 | [u,vx],⟨h1,h2,_⟩=>
  have hvx:vx = .string x:=(dD h2).1
  subst hvx
  obtain⟨X,p,v,own,xs,hX,hXr,hXs,hXl,hXc,rfl,hp2,hbk,hbuf,hne,ho,hown,hlt⟩:=aeV (o:=o) inv h1
  have hlen:xs.length+x.size<=140737488355328:=by
   cases o with
   | none=>rw[ho.1];simpa[KB]using hp
   | some s=>rw[show xs=fO s from ho,vf];exact hp
  refine(aCs X.b p v own xs x hp2 w hbk hbuf hne hlen).mono ?_
  rintro e w' ⟨rfl,v',own',k1,k2,k3,k4,k5⟩
  have hP : ∀b,b<w.heap.size->(∀k x,β k=some x->x.real=true->x.b≠b)->b≠X.b/\own≠some b:=fun b _ hb=>⟨fun e=>hb 900 X hX hXr e.symm,fun e=>by
   obtain⟨k,y,y1,y2,y3⟩:=hown b e
   exact hb k y y1 y2 y3⟩
  have ret:RV w' S (fun _=>none) (.aF [vI x.size, .v .nilIface]) (.tuple #[.int .i64 x.size, .nilIface]):=by
   refine⟨[.int .i64 x.size, .nilIface],rfl,?_,?_,trivial⟩
   .have hok:dh (.int .i64 (x.size:Int)):=by
     show am.min<=_/\_<=am.max
     simp only[jB,iX,ii,fA]
     simp
     omega
    exact R0.v (w:=w') (S:=S) hok
   .exact R0.v (w:=w') (S:=S) (x:= .nilIface) trivial
  cases o with
  | none=>
   have hr:(.aF [vI x.size, .v .nilIface],[(900,⟨true,146,0,[[.ptr 900 0 0, .own 0]]⟩),(0,⟨false,5,1,cn x⟩)],[])=r:=jC hr
   subst hr
   rw[ho.1,eh]at k2
   obtain⟨Y,y1,y2⟩:=aeT k2
   obtain⟨f1,f2⟩:=TV inv (kY:=0) (by omega) hX hXr k5 hP (Y:=Y) (fun hr=>by
     obtain⟨z1,z2,z3,z4⟩:=y1 hr
     refine⟨z3,fun e=>k3 (by rw[z1,e]),?_⟩
     rcases k4 _ z1 with h | h
     .exact .inl (hown _ h)
     .exact .inr h)
    (aeU (by omega) hXr k1 hXs hXl hXc (fun hr=>(y1 hr).2.1) (fun hr=>(y2 hr).2.2)) (fun hr=>(y1 hr).2.2.2 _ _) (fun hr=>⟨(y2 hr).1,rfl⟩)
    (hout:=[(900,⟨true,146,0,[[.ptr 900 0 0, .own 0]]⟩),(0,⟨false,5,1,cn x⟩)]) rfl rfl (fun k bl hk=>by
     simp only[an]at hk
     split at hk
     .rename_i h;exact .inl (beq_true.1 h)
     .split at hk
      .rename_i h;exact .inr (beq_true.1 h)
      .cases hk) (fun h=>by rw[hXr]at h;cases h)
   refine⟨_,S,_,rfl,f1,fun _ h=>h,fun _ h=> .inl h,f2,fun k y hk _ hy=>?_,ret.mono (fun _ _=>rfl) (fun _ h=>h) fun k _ x hx=>(by cases hx)⟩
   rcases vg hy with ⟨rfl,rfl⟩ | ⟨rfl,_,rfl⟩
   .exact hX
   .exact absurd hk (by simp[nN])
  | some s=>
   have hr:(.aF [vI x.size, .v .nilIface],[(901,⟨false,5,1,cn (s++x)⟩),(900,⟨true,146,0,[[.ptr 900 0 0, .own 901]]⟩)],[901])=r:=jC hr
   subst hr
   rw[show xs=fO s from ho,<-aCy]at k2
   obtain⟨Y,y1,y2⟩:=aeT k2
   obtain⟨f1,f2⟩:=TV inv (kY:=901) (by omega) hX hXr k5 hP (Y:=Y) (fun hr=>by
     obtain⟨z1,z2,z3,z4⟩:=y1 hr
     refine⟨z3,fun e=>k3 (by rw[z1,e]),?_⟩
     rcases k4 _ z1 with h | h
     .exact .inl (hown _ h)
     .exact .inr h)
    (aeU (by omega) hXr k1 hXs hXl hXc (fun hr=>(y1 hr).2.1) (fun hr=>(y2 hr).2.2)) (fun hr=>(y1 hr).2.2.2 _ _) (fun hr=>⟨(y2 hr).1,rfl⟩)
    (hout:=[(901,⟨false,5,1,cn (s++x)⟩),(900,⟨true,146,0,[[.ptr 900 0 0, .own 901]]⟩)]) rfl rfl (fun k bl hk=>by
     simp only[an]at hk
     split at hk
     .rename_i h;exact .inr (beq_true.1 h)
     .split at hk
      .rename_i h;exact .inl (beq_true.1 h)
      .cases hk) (fun h=>by rw[hXr]at h;cases h)
   refine⟨_,S,_,rfl,f1,fun _ h=>h,fun _ h=> .inl h,f2,fun k y hk hm hy=>?_,ret.mono (fun _ _=>rfl) (fun _ h=>h) fun k _ x hx=>(by cases hx)⟩
   rcases vg hy with ⟨rfl,rfl⟩ | ⟨rfl,_,rfl⟩
   .exact hX
   .exact absurd (i7.2 rfl) hm
theorem aCE (s:ByteArray) (hp:decide (0<s.size)=true):lx Tryz.prog au 72 [.ptr 900 0 0] [(901,⟨false,5,1,cn s⟩),(900,⟨true,146,0,[[.ptr 900 0 0, .own 901]]⟩)] (vS s) [(901,⟨false,5,1,[]⟩),(900,⟨true,146,0,[[.ptr 900 0 0, .bL]]⟩)] [901]:=by
 have hp:0<s.size:=of_decide_eq_true hp
 intro w S β cargs inv hargs
 match cargs,hargs with
 | [u],⟨h1,_⟩=>
  obtain⟨X,p,v,own,xs,hX,hXr,hXs,hXl,hXc,rfl,hp2,hbk,hbuf,hne,ho,hown,hlt⟩:=aeV (o:=some s) inv h1
  have ho:xs=fO s:=ho
  subst ho
  rcases hbuf with ⟨A,_,h,_⟩ | ⟨g,cap,cur,rfl,rfl,hg,hnc,hcm,hcs,ht⟩
  .have:=vf s
   rw[h]at this
   simp at this;omega
  have hl:(fO s).length=s.data.toList.length:=by rw[vf];simp
  rw[hl]at hbk hnc ht
  have hgX:g≠X.b:=fun e=>hne (by rw[e])
  refine(aCv X.b g cap p cur s.data.toList w hbk hg hnc hcm hcs ht (fun e=>by
   have:s.data.toList.length=s.size:=by simp
   rw[e]at this;simp at this;omega)).mono ?_
  rintro e w' ⟨rfl,st⟩
  have hsz:s.size<=9223372036854775807:=by
   have:s.data.toList.length=s.size:=by simp
   omega
  have hb2:w'.heap[X.b]? = some (.cells #[p, .slice (some ⟨g,0,none⟩) s.data.toList.length cap] 146 (0,0)):=by
   rw[st.block X.b hlt (fun e=>hgX e.symm)];exact hbk
  have hpp:p = .pointer (some ⟨X.b,0,none⟩)\/p = .pointer none:=hp2.symm
  have hpX:p = .pointer (some ⟨X.b,0,none⟩):=by
   obtain⟨bl,hb,h3,_⟩:=inv.di 900 X hX
   have hb0:some (⟨true,146,0,[[.ptr 900 0 0, .own 901]]⟩:ah)=some bl:=hb
   cases hb0
   obtain⟨cs,ty,c1,c2,c3,c4,c5,c6,c7,c8⟩:=h3 hXr
   obtain⟨e1,e2⟩:=c8 0 _ rfl
   obtain⟨v0,f0,g0⟩:=e2 0 _ rfl
   obtain⟨X',hX',_,rfl⟩ : ∃x,β 900=some x/\x.real=true/\v0 = .pointer (some ⟨x.b,0*x.size+0,none⟩):=g0
   rw[hX]at hX'
   cases hX'
   rw[hbk]at c1
   cases c1
   rw[qC]at f0
   exact(jC f0)
  have hbX:fy w' S (n9 X ⟨false,0,0,0,0⟩ 901) ⟨true,146,0,[[.ptr 900 0 0, .bL]]⟩ X:=by
   refine⟨_,_,hb2,by rw[hXs,hXc];rfl,hXl.symm,by omega,by omega,(fun h=>by cases h),fun _=>⟨fun _=>hXc,fun h=>absurd rfl h, .inr rfl⟩,fun i row hi=>?_⟩
   have hi0:i=0:=by
    have:=(cO.1 hi).1
    simp at this;exact this
   subst hi0
   cases hi
   refine⟨hXs.symm,fun j a hj=>?_⟩
   have hj2:j<2:=(cO.1 hj).1
   have hj3:j=0\/j=1:=by omega
   rcases hj3 with rfl | rfl
   .cases hj
    exact⟨p,by rw[qC];rfl,X,TT _ _ _,hXr,by simp[hpX]⟩
   .cases hj
    exact⟨.slice (some ⟨g,0,none⟩) s.data.toList.length cap,by rw[qC];rfl,R0.bL (w:=w') (S:=S) rfl⟩
  obtain⟨f1,f2⟩:=TV inv (kY:=901) (by omega) hX hXr st (fun b _ hb=>fun e=>by
    obtain⟨k,y,y1,y2,y3⟩:=hown g rfl
    exact hb k y y1 y2 (by rw[y3,e])) (Y:=⟨false,0,0,0,0⟩) (fun h=>by cases h) hbX (fun h=>by cases h) (bY:=⟨false,5,1,[]⟩) (fun _=>⟨rfl,rfl⟩)
    (hout:=[(901,⟨false,5,1,[]⟩),(900,⟨true,146,0,[[.ptr 900 0 0, .bL]]⟩)]) rfl rfl (fun k bl hk=>by
     simp only[an]at hk
     split at hk
     .rename_i h;exact .inr (beq_true.1 h)
     .split at hk
      .rename_i h;exact .inl (beq_true.1 h)
      .cases hk) (fun h=>by rw[hXr]at h;cases h)
  refine⟨_,S,_,rfl,f1,fun _ h=>h,fun _ h=> .inl h,f2,fun k y hk hm hy=>?_,dO (show dh (.string s) from hsz)⟩
  rcases vg hy with ⟨rfl,rfl⟩ | ⟨rfl,_,rfl⟩
  .exact hX
  .exact absurd (i7.2 rfl) hm
def vh:List AV×Heap:=([.ptr 900 0 0],Bj o)
theorem aCF a a' (h:vh a=vh a'):a=a':=by
 have:=TW (a,⟨⟨[]⟩⟩) (a',⟨⟨[]⟩⟩) (by
  unfold vh at h
  unfold eO
  simp only[ny,true_and]at h ⊢
  exact h)
 exact(Prod.mk.inj this).1
theorem aeX (s:ByteArray):ac vh (([.ptr 900 0 0],[(901,ah.mk false 5 1 (cn s)),(900,ah.mk true 146 0 [[.ptr 900 0 0, .own 901]])]))=some (some s):=ax aCF (some s) rfl
def aCG:Bool:=Uz o
def aCH:T (AV×Heap×List Nat):= .bM o.isNone
 (.ret (vS ⟨⟨[]⟩⟩,[(900,⟨true,146,0,[[.v (.pointer none), .v (.slice none 0 0)]]⟩)],[]))
 (.ret (vS (fz o),[(901,⟨false,5,1,[]⟩),(900,⟨true,146,0,[[.ptr 900 0 0, .bL]]⟩)],[901]))
end
def aeY:fT:=rq 72 vh aCG aCH
theorem aCI:fX Tryz.prog au aeY:=by
 refine G3 ⟨f72,by kernel_rfl,by kernel_rfl,by kernel_rfl⟩ (fun o r hp _ _ hr=>?_)
 cases o with
 | none=>
  have hr:(vS ⟨⟨[]⟩⟩,[(900,⟨true,146,0,[[.v (.pointer none), .v (.slice none 0 0)]]⟩)],[])=r:=jC hr
  subst hr
  intro w S β cargs inv hargs
  match cargs,hargs with
  | [u],⟨h1,_⟩=>
   obtain⟨X,hX,hXr,rfl⟩ : ∃x,β 900=some x/\x.real=true/\u = .pointer (some ⟨x.b,0*x.size+0,none⟩):=h1
   obtain⟨bl,hb,h3,_⟩:=inv.di 900 X hX
   have hb0:some (⟨true,146,0,[[.v (.pointer none), .v (.slice none 0 0)]]⟩:ah)=some bl:=hb
   cases hb0
   obtain⟨cs,ty,c1,c2,c3,c4,c5,c6,c7,c8⟩:=h3 hXr
   have hT:(146:Nat)≠0:=by decide
   obtain⟨d1,_,d2⟩:=c7 rfl
   have d1:=d1 rfl
   have d2:ty=146:=d2.resolve_left hT
   obtain⟨e1,e2⟩:=c8 0 _ rfl
   have e1:X.size=2:=e1.symm
   obtain⟨v0,f0,g0⟩:=e2 0 _ rfl
   obtain⟨v1,f1,g1⟩:=e2 1 _ rfl
   have g0:R0 w S (.v (.pointer none)) v0:=g0
   cases g0
   have g1:R0 w S (.v (.slice none 0 0)) v1:=g1
   cases g1
   rw[qC]at f0 f1
   have hcs:=TU (by rw[c2,d1,e1]) f0 f1
   rw[hcs,d2]at c1
   rw[show(0*X.size+0)=0 by simp]
   refine(aCw X.b _ w c1).mono ?_
   rintro e w' ⟨rfl,st⟩
   have hO : ∀b,b<w.heap.size->w'.heap[b]? = w.heap[b]?:=fun b hb=>st.block b hb trivial
   refine⟨_,S,β,rfl,⟨st.os,st.tape,st.output,st.size,fun b hb=>hO b hb.1⟩,fun _ h=>h,fun _ h=> .inl h,?_,fun _ _ _ _ h=>h,R0.v (w:=w') (S:=S) (x:= .string ⟨#[]⟩) (by show(0:Nat)<=_;omega)⟩
   have g:Gr (je w β) w S β w' S β:=⟨⟨st.os,st.tape,st.output,st.size,fun b hb=>hO b hb.1⟩,fun b hb=>hO b (inv.lt b hb),fun _ h=>h,fun _ h=> .inl h,fun _ _ h=>h,fun _ _ _ h=>h⟩
   exact⟨fun b hb=>l5 (inv.base b hb) st.size,fun b hb=>l5 (inv.lt b hb) st.size,inv.inj,fun k x hx hr=>by
     obtain⟨n1,n2,n3⟩:=inv.new k x hx hr
     exact⟨n1,l5 n2 st.size,n3⟩,fun k x hx=>by
     obtain⟨bl,a1,a2,a3⟩:=inv.di k x hx
     exact⟨bl,a1,fun hr=>(a2 hr).go g (hO _ (inv.new k x hx hr).2.1),a3⟩,inv.il,fun gl row hg=>(inv.dH gl row hg).mono g.keep g.sub⟩
 | some s=>
  have hr:(vS s,[(901,⟨false,5,1,[]⟩),(900,⟨true,146,0,[[.ptr 900 0 0, .bL]]⟩)],[901])=r:=jC hr
  subst hr
  have hp:decide (0<s.size)=true:=hp
  exact aCE s hp
end M
namespace F
def iE:List ByteArray->ByteArray->ByteArray
 | [],acc=>acc
 | x::r,acc=>iE r (acc++(iD x++nl))
def nk (c:ay) (acc:ByteArray):ByteArray:=
 (bif c.dl then (bif c.cZ then (bif c.row != 0 then acc++ir c da++(iv++itoa c.row) else acc++ir c da)++nf else (bif c.row != 0 then acc++ir c da++(iv++itoa c.row) else acc++ir c da))++rX
  else (bif c.cZ then (bif c.row != 0 then acc++ir c da++(iv++itoa c.row) else acc++ir c da)++nf else (bif c.row != 0 then acc++ir c da++(iv++itoa c.row) else acc++ir c da)))++nl
def r6 (c:ay) (acc:ByteArray):ByteArray:=iE c.lines (nk c acc)++nl
def kR:List ay->ByteArray->ByteArray
 | [],acc=>acc
 | c::r,acc=>kR r (r6 c acc)
def Kg:ByteArray:=⟨⟨[87,69,66,86,84,84,10,10]⟩⟩
def vi (l:List ay):ByteArray:=kR l Kg
def kS (l:List ay):ByteArray:=bif dY l != 0 then ⟨⟨[]⟩⟩ else vd (vi l)
def iw (l:List ay):Int:=bif dY l != 0 then dY l else E5 (vi l)
theorem aCJ {y:ByteArray} (h:y.size<=200):(kP y nd mo).size<=1000:=by
 have key : ∀l:List UInt8,(l.flatMap fun b=>bif b==38 then [38,97,109,112,59] else [b]).length<=5*l.length:=fun l=>by
  induction l with
  | nil=>exact bR _
  | cons b l ih=>
   rw[List.flatMap_cons,ck,gq]
   cases b==38
   .simp only[ap,ou];omega
   .simp only[ak,gq,i6];omega
 have:=key (bs y)
 rw[iA,show bs (kP y nd mo)=_ from TN y 38 [38,97,109,112,59] (by decide)]
 rw[<-iA]at this
 omega
theorem TX : ∀(m:List ByteArray) (s:ByteArray),(∀x∈m,x.size<=200)->(iE m s).size<=s.size+1001*m.length/\s.size<=(iE m s).size
 | [],s,_=>⟨bR _,bR _⟩
 | x::r,s,h=>by
  have h1:=TX r (s++(iD x++nl)) fun y hy=>h y (iH _ hy)
  have h2:=(TP x).2
  have h3:=h x (dN ..)
  have h4:nl.size=1:=rfl
  rw[gE,gE,h4]at h1
  rw[iE,gq]
  omega
theorem aeZ {c:ay} (acc:ByteArray) (h:kg c=true):(nk c acc).size<=acc.size+80/\acc.size<=(nk c acc).size:=by
 obtain⟨h1,h2,h3,h4,h5,h6,h7,h8,h9⟩:=ve h
 have a1:=HP (n:=c.row) (by omega) (by omega)
 have a2:=TL h (show da.size=1 from rfl)
 unfold nk
 cases c.dl<;>cases c.cZ<;>cases(c.row != 0)<;>simp only[ak,ap,gE,a2,show nl.size=1 from rfl,show iv.size=6 from rfl,show nf.size=7 from rfl,show rX.size=6 from rfl]<;>omega
theorem ae0 {c:ay} (acc:ByteArray) (h:kg c=true):(r6 c acc).size<=acc.size+16000/\acc.size<=(r6 c acc).size:=by
 obtain⟨h1,h2,h3,h4,h5,h6,h7,h8,h9⟩:=ve h
 have a1:=aeZ acc h
 have a2:=TX c.lines (nk c acc) fun x hx=>TK (h9 x hx)
 unfold r6
 rw[gE,show nl.size=1 from rfl]
 omega
end F
namespace M
theorem dy.aCK {P:Program} {G:Nat->Option GR} {f:FuncId} {x y z:Value} {r:AV} {rv:Value} (hr : ∀w S,RV w S dP r rv)
  (h:dh x->dh y->dh z -> ∀w (S:Nat->Prop),(∀g r,G g=some r->iJ w S g r)->Calls P f #[x,y,z] w fun e w'=>e = .returned rv/\Below w.heap.size w w'):dy P G f [.v x, .v y, .v z] r []:=by
 intro w S cargs hlt hg hargs
 match cargs,hargs with
 | [u,v,t],⟨h1,h2,h3,_⟩=>
  obtain⟨rfl,k1⟩:=dD h1
  obtain⟨rfl,k2⟩:=dD h2
  obtain⟨rfl,k3⟩:=dD h3
  refine(h k1 k2 k3 w S hg).mono ?_
  rintro e w' ⟨rfl,hb⟩
  exact⟨rv,S,dP,rfl,hb,fun _ h=>h,fun _ h=> .inl h,fun b h=>l5 (hlt b h) hb.size,(fun _ _ _ _ h=>by cases h),(fun _ _ h=>by cases h),(fun _ _ h=>by cases h),(fun _ _ h=>by cases h),hr _ _⟩
section
variable (s:ByteArray)
theorem aCL:(aB dj false f71 [vS s]).val =
 bif decide ((200000:Int)<(↑(aJ s):Int)) then some (AV.aF [(vS ⟨⟨[]⟩⟩),(vI 2)],[]) else some (AV.aF [(vS s),(vI 0)],[]):=(cm).symm.trans (by kernel_rfl)
def Kh:List AV:=[vS s]
def Bk (a:ByteArray):List AV:=Kh a
theorem aCM a a' (h:Bk a=Bk a'):a=a':=by
 simp only[Bk,Kh]at h
 try simp at h
 grind
theorem aCN:ac Bk ([(vS s)])=some (s):=ax aCM (s) rfl
def TY:AV×Heap:=(.aF [vS (F.vd s),vI (F.E5 s)],[])
def aCO (s:ByteArray):Bool:=true
def ae1:aW:=aY 71 true Bk aCO TY
theorem aCP:aX Tryz.prog au ae1:=by
 refine cx f71 gL ?_
 rintro s hpre hok
 show(aB dj false _ (Kh _)).val=some (TY _)
 unfold Kh TY
 rw[aCL]
 simp only[F.vd,F.E5]
 by_cases h:200000<s.size
 .rw[aj h,aj (show(200000:Int)<s.size by omega)];rfl
 .rw[aH h,aH (show ¬(200000:Int)<s.size by omega)];rfl
def ae2 (dS:ByteArray) (new:ByteArray):List AV:=[vS s,vS dS,vS new]
def vj (a:ByteArray×ByteArray×ByteArray):List AV:=ae2 a.1 a.2.1 a.2.2
theorem aCQ a a' (h:vj a=vj a'):a=a':=by
 simp only[vj,ae2]at h
 try simp at h
 grind
theorem ae3 (dS:ByteArray) (new:ByteArray):ac vj ([(vS s),(vS dS),(vS new)])=some (s,dS,new):=ax aCQ (s,dS,new) rfl
def aCR (dS:ByteArray) (new:ByteArray):AV×Heap:=(vS (F.kP s dS new),[])
def ae4 (dS:ByteArray) (new:ByteArray):Bool:=decide (s.size<=100000)&&decide (dS.size=1)&&decide (new.size<=5)&&decide ((F.kP s dS new).size<=1000000)
end
def ae5:aW:=aY 70 true vj (bU ae4) (bU aCR)
theorem aCS:aX Tryz.prog au ae5:=by
 refine io ⟨f70,by kernel_rfl,by kernel_rfl,by kernel_rfl⟩ (fun x hp _=>?_) (fun _ _=>⟨rfl,rfl⟩)
 obtain⟨s,dS,new⟩:=x
 simp only[ae4,bU,aG,aM]at hp
 obtain⟨⟨⟨h1,h2⟩,h3⟩,h4⟩:=hp
 have hc:=Lib.countB_mul_le dS (by omega) s.size s (bR _)
 rw[h2,Nat.mul_one]at hc
 have hm:Lib.countB s dS*new.size<=100000*5:=vP (by omega) h3
 refine dy.aCK (fun w S=>dO (by show(F.kP s dS new).size<=9223372036854775807;omega)) fun _ _ _ w S hG=>?_
 obtain⟨m,hm2⟩:=G7 hG
 refine(Tryz.strings_ReplaceAll s dS new m w (by omega) hm2 (by omega) (by omega)).mono ?_
 rintro e w' ⟨he,hb⟩
 exact⟨he,hb⟩
section
variable (l:List ay) (ls:List ByteArray) (k:Nat) (s:ByteArray) (j:Nat)
def E9:St:=⟨[(43,vI j),(42,vI ls.length),(41, .sl (ls.map aC)),(18,vI k),(17,vI l.length),(16, .sl (l.map aq)),(5, .ptr 5 0 0)],[(16000,⟨false,5,1,cn s⟩),(5,⟨true,146,0,[[.ptr 5 0 0, .own 16000]]⟩)]⟩
def mq (a:(List ay)×(List ByteArray)×Nat×ByteArray×Nat):St:=E9 a.1 a.2.1 a.2.2.1 a.2.2.2.1 a.2.2.2.2
theorem aCT a a' (h:mq a=mq a'):a=a':=by
 simp only[mq,E9]at h
 try simp[iL,dT,TS]at h
 grind
theorem ae6: ac mq (St.mk [(43,(vI (0:Int))),(42,(vI (↑(ae ls):Int))),(41,AV.sl (ab aC ls)),(18,(vI (↑k:Int))),(17,(vI (↑(ae l):Int))),(16,AV.sl
 (ab aq l)),(5, .ptr 5 0 0)] [(16000,ah.mk false 5 1 (cn s)),(5,ah.mk true 146 0 [[.ptr 5 0 0, .own 16000]])])=some (l,ls,k,s,0):=ax aCT (l,ls,k,s,0) rfl
def Fa:T (Ex×St):= .ret (.exit 2,⟨[(18,vI k),(17,vI l.length),(16, .sl (l.map aq)),(5, .ptr 5 0 0)],[(16000,⟨false,5,1,cn (F.iE (ls.drop j) s)⟩),(5,⟨true,146,0,[[.ptr 5 0 0, .own 16000]]⟩)]⟩)
def TZ (l:List ay) (ls:List ByteArray) (k:Nat) (s:ByteArray) (j:Nat):Bool:=F.iO ls&&decide (ls.length<=15)&&decide (j<=ls.length)&&decide (s.size<=100000000)
def aCU:Nat×(St->T (Ex×St)):=(18,lpo [43,42,41,18,17,16,5] [16000,5] mq (fa TZ) (fa Fa))
def Fb (k:Nat):St:=⟨[(18,vI k),(17,vI l.length),(16, .sl (l.map aq)),(5, .ptr 5 0 0)],[(16000,⟨false,5,1,cn s⟩),(5,⟨true,146,0,[[.ptr 5 0 0, .own 16000]]⟩)]⟩
def r7 (a:(List ay)×ByteArray×Nat):St:=Fb a.1 a.2.1 a.2.2
theorem ae7 a a' (h:r7 a=r7 a'):a=a':=by
 simp only[r7,Fb]at h
 try simp[dT,TS]at h
 grind
theorem aCV (k:Nat):ac r7 (St.mk [(18,(vI (↑k:Int))),(17,(vI (↑(ae l):Int))),(16,AV.sl (ab aq l)),(5, .ptr 5 0 0)] [(16000,ah.mk false 5 1 (cn s)),(5,ah.mk true
 146 0 [[.ptr 5 0 0, .own 16000]])])=some (l,s,k):=ax ae7 (l,s,k) rfl
theorem aCW: ac r7 (St.mk [(18,(vI (0:Int))),(17,(vI (↑(ae l):Int))),(16,AV.sl (ab aq l)),(5, .ptr 5 0 0)] [(16000,ah.mk false 5 1 (cn (az (aA
 [(87:UInt8),(69:UInt8),(66:UInt8),(86:UInt8),(84:UInt8),(84:UInt8),(10:UInt8),(10:UInt8)])))),(5,ah.mk true 146 0 [[.ptr 5 0 0, .own 16000]])])=some (l,⟨⟨[87,69,66,86,84,84,10,10]⟩⟩,0):=ax ae7 (l,⟨⟨[87,69,66,86,84,84,10,10]⟩⟩,0) rfl
def Fc (k:Nat):T (Ex×St):= .ret (.exit 0,⟨[(5, .ptr 5 0 0)],[(16000,⟨false,5,1,cn (F.kR (l.drop k) s)⟩),(5,⟨true,146,0,[[.ptr 5 0 0, .own 16000]]⟩)]⟩)
def T0 (k:Nat):Bool:=l.all F.kg&&decide (l.length<=500)&&decide (k<=l.length)&&decide (s.size<=100+16000*k)
def aCX:Nat×(St->T (Ex×St)):=(7,lpo [18,17,16,5] [16000,5] r7 (bU T0) (bU Fc))
def vk:Env:=bq ty au bp [C6,HT,ZQ,ae5,ae1] [aeW,aeY] [] [aCX,aCU]
theorem aCY:aZ Tryz.prog vk:=by
 refine mU m6 mY ?_ ?_
 .simp only[gQ]
  exact⟨HC,OB,aow,aCS,aCP,by simp⟩
 .simp only[gQ]
  exact⟨aCD,aCI,by simp⟩
theorem ae8:((exec vk (aw f33 1) (E9 l ls k s j)).bind (bE ([43,42,41,18,17,16,5],[16000,5]) ([18,17,16,5],[16000,5]) ([],[]))).val =
 (fun(q:List (Nat×ah))=>(fun(q_1:List (Nat×AV))=>bif decide ((↑j:Int)<(↑(ae ls):Int)) then ai (ac (ab aC) (ab aC ls)) fun z=>bif decide (j<ae z) then ai (ac vj [(vS (al z j (az (aA [])))),(vS ⟨⟨[38]⟩⟩),(vS ⟨⟨[38,97,109,112,59]⟩⟩)]) fun z=>bif decide (aJ z.1<=100000)&&decide (aJ z.2.1=(1:Nat))&&decide (aJ z.2.2<=5)&&decide (aJ (F.kP z.1 z.2.1 z.2.2)<=1000000) then ai (ac vj [(vS (F.kP z.1 z.2.1 z.2.2)),(vS ⟨⟨[60]⟩⟩),(vS ⟨⟨[38,108,116,59]⟩⟩)]) fun z=>(fun(q_2:Nat)=>bif decide (aJ z.1<=100000)&&decide (aJ z.2.1=(1:Nat))&&decide (aJ z.2.2<=5)&&decide (q_2<=1000000) then bif aP (q_2+aJ (az (aA [(10:UInt8)]))) 9223372036854775807 then ai (ac eO ([.ptr 900 0 0,(vS (F.kP z.1 z.2.1 z.2.2++az (aA [(10:UInt8)])))],[(901,ah.mk false 5 1 (cn s)),(900,ah.mk true 146 0 [[.ptr 900 0 0, .own 901]])])) fun z=>bif fL z.1 z.2 then bif match z.1 with | some val=>false | none=>true then none else some (Ex.normal,St.mk ((43,(vI (am.wrap ((↑j:Int)+1))))::(42,(vI (↑(ae ls):Int)))::(41,AV.sl (ab aC ls))::q_1) ((16000,ah.mk false 5 1 (cn (fz z.1++z.2)))::q)) else none else none else none) (aJ (F.kP z.1 z.2.1 z.2.2)) else none else none else some (Ex.exit (2:Nat),St.mk q_1 ((16000,ah.mk false 5 1 (cn s))::q))) [(18,(vI (↑k:Int))),(17,(vI (↑(ae l):Int))),(16,AV.sl (ab aq l)),(5, .ptr 5 0 0)]) [(5,ah.mk true 146 0 [[.ptr 5 0 0, .own 16000]])]:=(cr _ _ _).symm.trans (by kernel_rfl)
theorem aCZ (hp:TZ l ls k s j=true) : ∀ex s',(Fa l ls k s j).val=some (ex,s')->ba vk (aw f33 1) (E9 l ls k s j) ex s':=by
 simp only[TZ,aG,aM]at hp
 obtain⟨⟨⟨h1,h2⟩,h3⟩,h4⟩:=hp
 have hw:=bP.1 (h1:ls.all F.line=true)
 have hx:ls.length<=9223372036854775807:=by omega
 refine cE (st:=fun b:ByteArray×Nat=>E9 l ls k b.1 b.2) (out:=fun b=>Fa l ls k b.1 b.2) (I:=fun b=>b.2<=ls.length/\b.1.size<=100000000+1001*b.2) (n:=([43,42,41,18,17,16,5],[16000,5])) (e:=([18,17,16,5],[16000,5])) (r:=([],[])) (fun b=>ls.length - b.2) ?_ (s,j) ⟨h3,by simp only;omega⟩
 rintro⟨s,j⟩ ⟨i1,i2⟩
 simp only at i1 i2
 by_cases hlt:j<ls.length
 .have hy:ls[j]? = some ls[j]:=bC hlt
  generalize ls[j]=y at hy
  have hd:=AM hy
  have hl:=hw y (cL hy)
  have hs:=F.TK hl
  have e1:=(F.TP y).2
  have ee:F.kP (F.kP y (az (aA [38])) (az (aA [38,97,109,112,59]))) (az (aA [60])) (az (aA [38,108,116,59]))=F.iD y:=rfl
  have er:(F.kP y (az (aA [38])) (az (aA [38,97,109,112,59]))).size<=1000:=F.aCJ hs
  right
  refine⟨(s++(F.iD y++F.nl),j+1),?_,rfl,⟨by simp only;omega,by simp only[gE,show F.nl.size=1 from rfl];omega⟩,by simp only;omega,?_⟩
  .rw[ae8]
   simp only[ae3,ar,jV,ak,ap,Kf,Fw,KD,bA hlt,aj hlt,getD_at hy,ch hlt hx,ee]
   simp only[gE,show(az (aA [10])).size=1 from rfl,show(az (aA [38])).size=1 from rfl,show(az (aA [60])).size=1 from rfl,show(az (aA [38,97,109,112,59])).size=5 from rfl,show(az (aA [38,108,116,59])).size=4 from rfl]
   simp (disch:=omega) only [aj,decide_true,cg,ak,bT]
   try rfl
  .simp only[Fa,hd,F.iE]
 .have hd:ls.drop j=[]:=qr (by omega)
  left
  refine⟨(.exit 2,⟨[(18,vI k),(17,vI l.length),(16, .sl (l.map aq)),(5, .ptr 5 0 0)],[(16000,⟨false,5,1,cn s⟩),(5,⟨true,146,0,[[.ptr 5 0 0, .own 16000]]⟩)]⟩),?_,?_,by simp,rfl⟩
  .rw[ae8]
   simp only[ae3,ar,jV,ap,Kf,Fw,KD,aH (show ¬(j:Int)<(ls.length:Int) by omega)]
   try rfl
  .simp only[Fa,hd,F.iE]
   rfl
theorem ae9 (k:Nat):((exec vk (aw f33 0) (Fb l s k)).bind (bE ([18,17,16,5],[16000,5]) ([5],[16000,5]) ([],[]))).val =
 (fun(q:Nat×AV)=>(fun(q_1:ay)=>(fun(q_2:List (Nat×AV))=>(fun(q_3:List AV)=>(fun(q_4:ByteArray)=>(fun(q_5:List (Nat×ah))=>(fun(q_6:List (Nat×ah))=>(fun(q_7:List AV)=>(fun(q_8:List AV)=>(fun(q_9:List (Nat×AV))=>bif decide ((↑k:Int)<(↑(ae l):Int)) then ai (ac (ab aq) (ab aq l)) fun z=>(fun(q_10:Bool)=>(fun(q:List (Nat×AV))=>bif decide (k<ae z) then ai (ac xY [AV.agg [(vI (al z k q_1).fr),(vI (al z k q_1).tqq),AV.sl (ab aC (al z k q_1).lines),(vI (al z k q_1).row),(vB (al z k q_1).cZ),(vB q_10)],(vS ⟨⟨[46]⟩⟩)]) fun z_1=>bif decide ((0:Int)<=z_1.1.fr)&&decide (z_1.1.fr<=359999999)&&decide ((0:Int)<=z_1.1.tqq)&&decide (z_1.1.tqq<=359999999)&&decide (aJ z_1.2=(1:Nat)) then ai (ac eO ([.ptr 900 0 0,(vS (F.ir z_1.1 z_1.2))],(901,ah.mk false 5 1 (cn s))::q_5)) fun z_2=>(fun(q_11:List (Nat×ah))=>bif fL z_2.1 z_2.2 then bif match z_2.1 with | some val=>false | none=>true then none else bif (al z k q_1).row != 0 then ai (ac rD [(vI (al z k q_1).row)]) fun z_3=>bif decide ((-9223372036854775808:Int)<=z_3)&&decide (z_3<=9223372036854775807) then bif aP (aJ q_4+aJ (F.itoa z_3)) 9223372036854775807 then ai (ac eO ([.ptr 900 0 0,(vS (q_4++F.itoa z_3))],q_11)) fun z_4=>(fun(q_12:List (Nat×ah))=>bif fL z_4.1 z_4.2 then bif match z_4.1 with | some val=>false | none=>true then none else bif (al z k q_1).cZ then ai (ac eO (q_8,q_12)) fun z=>(fun(q_13:List (Nat×ah))=>bif fL z.1 z.2 then bif match z.1 with | some val=>false | none=>true then none else bif q_10 then ai (ac eO (q_7,q_13)) fun z=>bif fL z.1 z.2 then bif match z.1 with | some val=>false | none=>true then none else ai (ac eO (q_3,(901,ah.mk false 5 1 (cn (fz z.1++z.2)))::q_5)) fun z=>bif fL z.1 z.2 then bif match z.1 with | some val=>false | none=>true then none else ai (ac mq (St.mk q ((16000,ah.mk false 5 1 (cn (fz z.1++z.2)))::q_6))) fun z=>bif F.iO z.2.1&&decide (ae z.2.1<=15)&&decide (z.2.2.2.2<=ae z.2.1)&&decide (aJ z.2.2.2.1<=100000000)&&true then ai (ac eO (q_3,(901,ah.mk false 5 1 (cn (F.iE (bn z.2.2.2.2 z.2.1) z.2.2.2.1)))::q_5)) fun z_5=>bif fL z_5.1 z_5.2 then bif match z_5.1 with | some val=>false | none=>true then none else some (Ex.normal,St.mk ((18,(vI (am.wrap ((↑z.2.2.1:Int)+1))))::(17,(vI (↑(ae z.1):Int)))::(16,AV.sl (ab aq z.1))::q_2) ((16000,ah.mk false 5 1 (cn (fz z_5.1++z_5.2)))::q_6)) else none else none else none else none else ai (ac eO (q_3,q_13)) fun z=>bif fL z.1 z.2 then bif match z.1 with | some val=>false | none=>true then none else ai (ac mq (St.mk q ((16000,ah.mk false 5 1 (cn (fz z.1++z.2)))::q_6))) fun z=>bif F.iO z.2.1&&decide (ae z.2.1<=15)&&decide (z.2.2.2.2<=ae z.2.1)&&decide (aJ z.2.2.2.1<=100000000)&&true then ai (ac eO (q_3,(901,ah.mk false 5 1 (cn (F.iE (bn z.2.2.2.2 z.2.1) z.2.2.2.1)))::q_5)) fun z_5=>bif fL z_5.1 z_5.2 then bif match z_5.1 with | some val=>false | none=>true then none else some (Ex.normal,St.mk ((18,(vI (am.wrap ((↑z.2.2.1:Int)+1))))::(17,(vI (↑(ae z.1):Int)))::(16,AV.sl (ab aq z.1))::q_2) ((16000,ah.mk false 5 1 (cn (fz z_5.1++z_5.2)))::q_6)) else none else none else none else none) ((901,ah.mk false 5 1 (cn (fz z.1++z.2)))::q_5) else bif q_10 then ai (ac eO (q_7,q_12)) fun z=>bif fL z.1 z.2 then bif match z.1 with | some val=>false | none=>true then none else ai (ac eO (q_3,(901,ah.mk false 5 1 (cn (fz z.1++z.2)))::q_5)) fun z=>bif fL z.1 z.2 then bif match z.1 with | some val=>false | none=>true then none else ai (ac mq (St.mk q ((16000,ah.mk false 5 1 (cn (fz z.1++z.2)))::q_6))) fun z=>bif F.iO z.2.1&&decide (ae z.2.1<=15)&&decide (z.2.2.2.2<=ae z.2.1)&&decide (aJ z.2.2.2.1<=100000000)&&true then ai (ac eO (q_3,(901,ah.mk false 5 1 (cn (F.iE (bn z.2.2.2.2 z.2.1) z.2.2.2.1)))::q_5)) fun z_5=>bif fL z_5.1 z_5.2 then bif match z_5.1 with | some val=>false | none=>true then none else some (Ex.normal,St.mk ((18,(vI (am.wrap ((↑z.2.2.1:Int)+1))))::(17,(vI (↑(ae z.1):Int)))::(16,AV.sl (ab aq z.1))::q_2) ((16000,ah.mk false 5 1 (cn (fz z_5.1++z_5.2)))::q_6)) else none else none else none else none else ai (ac eO (q_3,q_12)) fun z=>bif fL z.1 z.2 then bif match z.1 with | some val=>false | none=>true then none else ai (ac mq (St.mk q ((16000,ah.mk false 5 1 (cn (fz z.1++z.2)))::q_6))) fun z=>bif F.iO z.2.1&&decide (ae z.2.1<=15)&&decide (z.2.2.2.2<=ae z.2.1)&&decide (aJ z.2.2.2.1<=100000000)&&true then ai (ac eO (q_3,(901,ah.mk false 5 1 (cn (F.iE (bn z.2.2.2.2 z.2.1) z.2.2.2.1)))::q_5)) fun z_5=>bif fL z_5.1 z_5.2 then bif match z_5.1 with | some val=>false | none=>true then none else some (Ex.normal,St.mk ((18,(vI (am.wrap ((↑z.2.2.1:Int)+1))))::(17,(vI (↑(ae z.1):Int)))::(16,AV.sl (ab aq z.1))::q_2) ((16000,ah.mk false 5 1 (cn (fz z_5.1++z_5.2)))::q_6)) else none else none else none else none) ((901,ah.mk false 5 1 (cn (fz z_4.1++z_4.2)))::q_5) else none else none else bif (al z k q_1).cZ then ai (ac eO (q_8,q_11)) fun z=>(fun(q_12:List (Nat×ah))=>bif fL z.1 z.2 then bif match z.1 with | some val=>false | none=>true then none else bif q_10 then ai (ac eO (q_7,q_12)) fun z=>bif fL z.1 z.2 then bif match z.1 with | some val=>false | none=>true then none else ai (ac eO (q_3,(901,ah.mk false 5 1 (cn (fz z.1++z.2)))::q_5)) fun z=>bif fL z.1 z.2 then bif match z.1 with | some val=>false | none=>true then none else ai (ac mq (St.mk q ((16000,ah.mk false 5 1 (cn (fz z.1++z.2)))::q_6))) fun z=>bif F.iO z.2.1&&decide (ae z.2.1<=15)&&decide (z.2.2.2.2<=ae z.2.1)&&decide (aJ z.2.2.2.1<=100000000)&&true then ai (ac eO (q_3,(901,ah.mk false 5 1 (cn (F.iE (bn z.2.2.2.2 z.2.1) z.2.2.2.1)))::q_5)) fun z_3=>bif fL z_3.1 z_3.2 then bif match z_3.1 with | some val=>false | none=>true then none else some (Ex.normal,St.mk ((18,(vI (am.wrap ((↑z.2.2.1:Int)+1))))::(17,(vI (↑(ae z.1):Int)))::(16,AV.sl (ab aq z.1))::q_2) ((16000,ah.mk false 5 1 (cn (fz z_3.1++z_3.2)))::q_6)) else none else none else none else none else ai (ac eO (q_3,q_12)) fun z=>bif fL z.1 z.2 then bif match z.1 with | some val=>false | none=>true then none else ai (ac mq (St.mk q ((16000,ah.mk false 5 1 (cn (fz z.1++z.2)))::q_6))) fun z=>bif F.iO z.2.1&&decide (ae z.2.1<=15)&&decide (z.2.2.2.2<=ae z.2.1)&&decide (aJ z.2.2.2.1<=100000000)&&true then ai (ac eO (q_3,(901,ah.mk false 5 1 (cn (F.iE (bn z.2.2.2.2 z.2.1) z.2.2.2.1)))::q_5)) fun z_3=>bif fL z_3.1 z_3.2 then bif match z_3.1 with | some val=>false | none=>true then none else some (Ex.normal,St.mk ((18,(vI (am.wrap ((↑z.2.2.1:Int)+1))))::(17,(vI (↑(ae z.1):Int)))::(16,AV.sl (ab aq z.1))::q_2) ((16000,ah.mk false 5 1 (cn (fz z_3.1++z_3.2)))::q_6)) else none else none else none else none) ((901,ah.mk false 5 1 (cn (fz z.1++z.2)))::q_5) else bif q_10 then ai (ac eO (q_7,q_11)) fun z=>bif fL z.1 z.2 then bif match z.1 with | some val=>false | none=>true then none else ai (ac eO (q_3,(901,ah.mk false 5 1 (cn (fz z.1++z.2)))::q_5)) fun z=>bif fL z.1 z.2 then bif match z.1 with | some val=>false | none=>true then none else ai (ac mq (St.mk q ((16000,ah.mk false 5 1 (cn (fz z.1++z.2)))::q_6))) fun z=>bif F.iO z.2.1&&decide (ae z.2.1<=15)&&decide (z.2.2.2.2<=ae z.2.1)&&decide (aJ z.2.2.2.1<=100000000)&&true then ai (ac eO (q_3,(901,ah.mk false 5 1 (cn (F.iE (bn z.2.2.2.2 z.2.1) z.2.2.2.1)))::q_5)) fun z_3=>bif fL z_3.1 z_3.2 then bif match z_3.1 with | some val=>false | none=>true then none else some (Ex.normal,St.mk ((18,(vI (am.wrap ((↑z.2.2.1:Int)+1))))::(17,(vI (↑(ae z.1):Int)))::(16,AV.sl (ab aq z.1))::q_2) ((16000,ah.mk false 5 1 (cn (fz z_3.1++z_3.2)))::q_6)) else none else none else none else none else ai (ac eO (q_3,q_11)) fun z=>bif fL z.1 z.2 then bif match z.1 with | some val=>false | none=>true then none else ai (ac mq (St.mk q ((16000,ah.mk false 5 1 (cn (fz z.1++z.2)))::q_6))) fun z=>bif F.iO z.2.1&&decide (ae z.2.1<=15)&&decide (z.2.2.2.2<=ae z.2.1)&&decide (aJ z.2.2.2.1<=100000000)&&true then ai (ac eO (q_3,(901,ah.mk false 5 1 (cn (F.iE (bn z.2.2.2.2 z.2.1) z.2.2.2.1)))::q_5)) fun z_3=>bif fL z_3.1 z_3.2 then bif match z_3.1 with | some val=>false | none=>true then none else some (Ex.normal,St.mk ((18,(vI (am.wrap ((↑z.2.2.1:Int)+1))))::(17,(vI (↑(ae z.1):Int)))::(16,AV.sl (ab aq z.1))::q_2) ((16000,ah.mk false 5 1 (cn (fz z_3.1++z_3.2)))::q_6)) else none else none else none else none) ((901,ah.mk false 5 1 (cn (fz z_2.1++z_2.2)))::q_5) else none else none) (q::(42,(vI (↑(ae (ab aC (al z k q_1).lines)):Int)))::(41,AV.sl (ab aC (al z k q_1).lines))::q_9)) (al z k q_1).dl else some (Ex.exit (0:Nat),St.mk q_2 ((16000,ah.mk false 5 1 (cn s))::q_6))) ((18,(vI (↑k:Int)))::(17,(vI (↑(ae l):Int)))::(16,AV.sl (ab aq l))::q_2)) [.ptr 900 0 0,(vS ⟨⟨[32,98,101,102,111,114,101]⟩⟩)]) [.ptr 900 0 0,(vS ⟨⟨[32,97,102,116,101,114]⟩⟩)]) [(5,ah.mk true 146 0 [[.ptr 5 0 0, .own 16000]])]) [(900,ah.mk true 146 0 [[.ptr 900 0 0, .own 901]])]) (az (aA [(32:UInt8),(108:UInt8),(105:UInt8),(110:UInt8),(101:UInt8),(58:UInt8)]))) [.ptr 900 0 0,(vS ⟨⟨[10]⟩⟩)]) [(5, .ptr 5 0 0)]) (ay.mk (0:Int) (0:Int) [] (0:Int) false false)) (43,(vI 0)):=(cr _ _ _).symm.trans (by kernel_rfl)
theorem aC0 (k:Nat) (hp:T0 l s k=true) : ∀ex s',(Fc l s k).val=some (ex,s')->ba vk (aw f33 0) (Fb l s k) ex s':=by
 simp only[T0,aG,aM]at hp
 obtain⟨⟨⟨h1,h2⟩,h3⟩,h4⟩:=hp
 have hw:=bP.1 (h1:l.all F.kg=true)
 have hx:l.length<=9223372036854775807:=by omega
 refine cE (st:=fun b:ByteArray×Nat=>Fb l b.1 b.2) (out:=fun b=>Fc l b.1 b.2) (I:=fun b=>b.2<=l.length/\b.1.size<=100+16000*b.2) (n:=([18,17,16,5],[16000,5])) (e:=([5],[16000,5])) (r:=([],[])) (fun b=>l.length - b.2) ?_ (s,k) ⟨h3,h4⟩
 rintro⟨s,k⟩ ⟨i1,i2⟩
 simp only at i1 i2
 by_cases hlt:k<l.length
 .have hy:l[k]? = some l[k]:=bC hlt
  generalize l[k]=y at hy
  have hd:=AM hy
  have hc:=hw y (cL hy)
  obtain⟨c1,c2,c3,c4,c5,c6,c7,c8,c9⟩:=F.ve hc
  have hall:F.iO y.lines=true:=bP.2 c9
  have z1:=F.HP (n:=y.row) (by omega) (by omega)
  have z2:=F.TL hc (show(az (aA [46])).size=1 from rfl)
  have z3:(az (aA [46])).size=1:=rfl
  have z4:(az (aA [10])).size=1:=rfl
  have z5:(az (aA [32,108,105,110,101,58])).size=6:=rfl
  have z6:(az (aA [32,98,101,102,111,114,101])).size=7:=rfl
  have z7:(az (aA [32,97,102,116,101,114])).size=6:=rfl
  have y1:=F.ae0 s hc
  have y2:=F.aeZ s hc
  have y3:=F.TX y.lines (F.nk y s) fun x hx=>F.TK (c9 x hx)
  have hC:F.iE y.lines (F.nk y s)++az (aA [10])=F.r6 y s:=rfl
  right
  refine⟨(F.r6 y s,k+1),?_,rfl,⟨by simp only;omega,by simp only;omega⟩,by simp only;omega,?_⟩
  .rw[ae9]
   cases ha:y.dl<;>cases hb:y.cZ<;>cases hr:(y.row != 0)
   all_goals
    have hH:F.nk y s=F.nk y s:=rfl
    conv at hH=>lhs;unfold F.nk
    simp only[ha,hb,hr,ak,ap,F.da,F.nl,F.iv,F.nf,F.rX]at hH
    simp only[Df,ZO,ae6,jg,ar,aN,iM,ak,ap,aS,fM,Kf,Fw,KD,bA hlt,aj hlt,getD_at hy,ch hlt hx,ha,hb,hr,aj c1,aj c2,aj c3,aj c4,z3,decide_true,hall,df]
    simp only[hH]
    simp only[gE,z2,z4,z5,z6,z7]
    simp (disch:=omega) only [aj,cg,ak,bT]
    rfl
  .simp only[Fc,hd,F.kR]
 .have hd:l.drop k=[]:=qr (by omega)
  left
  refine⟨(.exit 0,⟨[(5, .ptr 5 0 0)],[(16000,⟨false,5,1,cn s⟩),(5,⟨true,146,0,[[.ptr 5 0 0, .own 16000]]⟩)]⟩),?_,?_,by simp,rfl⟩
  .rw[ae9]
   simp only[Df,ZO,ae6,jg,ar,aN,iM,ap,aS,Kf,Fw,KD,aH (show ¬(k:Int)<(l.length:Int) by omega)]
   try rfl
  .simp only[Fc,hd,F.kR]
   rfl
end
end M
theorem afE : ∀(m:List ay) (s:ByteArray),(∀c∈m,F.kg c=true)->s.size<=(F.kR m s).size
 | [],s,_=>bR _
 | c::r,s,h=>by
  have h1:=afE r (F.r6 c s) fun d hd=>h d (iH _ hd)
  have h2:=(F.ae0 s (h c (dN ..))).2
  rw[F.kR]
  omega
namespace M
section
variable (l:List ay)
theorem aC1:(aB vk false f33 [.sl (l.map aq)]).val =
 ai (ac pG [AV.sl (ab aq l)]) fun z=>bif F.gh z then bif F.dY z != 0 then some (AV.aF [(vS ⟨⟨[]⟩⟩),(vI (F.dY z))],[]) else ai (ac eO ([.ptr 900 0 0,(vS ⟨⟨[87,69,66,86,84,84,10,10]⟩⟩)],[(900,ah.mk true 146 0 [[AV.v (Value.pointer none),AV.v (Value.slice none (0:Nat) (0:Nat))]])])) fun z=>bif fL z.1 z.2 then bif match z.1 with | some val=>false | none=>true then ai (ac r7 (St.mk [(18,(vI 0)),(17,(vI (↑(ae (ab aq l)):Int))),(16,AV.sl (ab aq l)),(5, .ptr 5 0 0)] [(16000,ah.mk false 5 1 (cn z.2)),(5,ah.mk true 146 0 [[.ptr 5 0 0, .own 16000]])])) fun z=>bif List.all z.1 F.kg&&decide (ae z.1<=500)&&decide (z.2.2<=ae z.1)&&decide (aJ z.2.1<=100+16000*z.2.2)&&true then ai (ac vh ([.ptr 900 0 0],[(901,ah.mk false 5 1 (cn (F.kR (bn z.2.2 z.1) z.2.1))),(900,ah.mk true 146 0 [[.ptr 900 0 0, .own 901]])])) fun z=>bif Uz z then bif match z with | some val=>false | none=>true then none else ai (ac Bk [(vS (fz z))]) fun z=>some (AV.aF [(vS (F.vd z)),(vI (F.E5 z))],[]) else none else none else none else none else none:=(cm).symm.trans (by kernel_rfl)
def Ki:List AV:=[.sl (l.map aq)]
def Bl (a:(List ay)):List AV:=Ki a
theorem aC2 a a' (h:Bl a=Bl a'):a=a':=by
 simp only[Bl,Ki]at h
 try simp[dT]at h
 grind
theorem T1:ac Bl ([AV.sl (ab aq l)])=some (l):=ax aC2 (l) rfl
def T2:AV×Heap:=(.aF [vS (F.kS l),vI (F.iw l)],[])
def afa:Bool:=F.gh l
end
def afb:aW:=aY 33 false Bl afa T2
theorem aC3:aX Tryz.prog au afb:=by
 refine cQ f33 aCY (md (x0:=aw f33 0) (x1:=aw f33 1) (by kernel_rfl) (bS ?_) (bS ?_)) ?_
 .rintro⟨l,s,k⟩ hp
  exact aC0 l s k hp
 .rintro⟨l,ls,k,s,j⟩ hp
  exact aCZ l ls k s j hp
 rintro l hpre hok
 show(aB vk false _ (Ki _)).val=some (T2 _)
 unfold Ki T2
 rw[aC1]
 simp only[afa]at hpre
 simp only[HB,aCN,aCA,aCW,ar,aN,ak,ap,aS,aeX,Fw,hpre,F.kS,F.iw]
 cases hc:F.dY l != 0
 .have hc0:F.dY l=0:=by simpa using hc
  obtain⟨g1,g2⟩:=F.aeF hc0
  have hp:=afE l F.Kg (bP.1 g2)
  have w8:F.Kg.size=8:=rfl
  have e0:fL none (az (aA [87,69,66,86,84,84,10,10]))=true:=rfl
  have e1:decide ((az (aA [87,69,66,86,84,84,10,10])).size<=100+16000*0)=true:=rfl
  have u1:ac r7 (St.mk [(18,vI 0),(17,vI (l.length:Int)),(16, .sl (l.map aq)),(5, .ptr 5 0 0)] [(16000,ah.mk false 5 1 (cn (az (aA [87,69,66,86,84,84,10,10])))),(5,ah.mk true 146 0 [[.ptr 5 0 0, .own 16000]])])=some (l,az (aA [87,69,66,86,84,84,10,10]),0):=aCV l _ 0
  have u2:ac vh ([.ptr 900 0 0],[(901,⟨false,5,1,cn (F.kR l (az (aA [87,69,66,86,84,84,10,10])))⟩),(900,⟨true,146,0,[[.ptr 900 0 0, .own 901]]⟩)])=some (some (F.kR l (az (aA [87,69,66,86,84,84,10,10])))):=aeX _
  have p2:decide (0<(F.kR l (az (aA [87,69,66,86,84,84,10,10]))).size)=true:=aj (by show 0<(F.kR l F.Kg).size;omega)
  rw[e0]
  simp only[g2,aj g1,aj (cf l.length),e1,df,bT,ak,ap,aFj,p2]
  rfl
 .rfl
end M
namespace M
end M
namespace K
end K
namespace Jn
def key (u v:ay):Bool:=(u.row==v.row)&&aEx u.lines v.lines
def tr (b:Int) (c:ay):ay:=bif F.lt b c.tqq then ⟨c.fr,b,c.lines,c.row,c.cZ,true⟩ else c
def cut (a b:Int) (c:ay):ay:=⟨max c.fr a,min c.tqq b,c.lines,c.row,c.cZ||F.lt c.fr (max c.fr a),c.dl||F.lt (min c.tqq b) c.tqq⟩
open Classical in
def st (b0 b1:Int) (P done:List ay):List ay:=
 P.map (fun c=>if c∈done then tr b1 c else tr b0 c)++(done.filter fun c=>decide (b0<=c.fr)).map (tr b1)
end Jn
namespace M
end M
namespace Jn
end Jn
namespace M
end M
namespace Jn
theorem afc {l:List ay} : ∀ {bs:List Int} {p:List ay},p∈iS l bs -> ∃a∈bs,∃b∈bs,p=K.bB aV (l.filterMap (nm a b))
 | [],p,h=>absurd h B9
 | [_],p,h=>absurd h B9
 | a::b::r,p,h=>by
  rw[iS]at h
  rcases cK.1 h with rfl | h
  .exact⟨a,by simp,b,by simp,rfl⟩
  .obtain⟨a',h1,b',h2,h3⟩:=afc h
   exact⟨a',iH _ h1,b',iH _ h2,h3⟩
theorem C7 {l:List ay} : ∀ {bs:List Int},bs≠[]->(iS l bs).length+1=bs.length
 | [],h=>absurd rfl h
 | [_],_=>rfl
 | a::b::r,_=>by
  have:=C7 (l:=l) (bs:=b::r) (by simp)
  rw[iS,gq,this]
  rfl
theorem aC4 {l:List ay} {a b:Int} {q:ay} (h:q∈K.bB aV (l.filterMap (nm a b))) : ∃c∈l,F.le (min c.tqq b) (max c.fr a)=false/\q=cut a b c:=by
 have h:=(K.lJ gC _).perm.mem_iff.1 h
 rw[List.mem_filterMap]at h
 obtain⟨c,hc,hq⟩:=h
 unfold nm at hq
 cases hh:F.le (min c.tqq b) (max c.fr a)
 .rw[hh,ap]at hq
  exact⟨c,hc,hh,(jC hq).symm⟩
 .rw[hh]at hq;cases hq
theorem aC5 {l:List ay} (h:F.gh l=true) (bs:List Int):Kv (iS l bs)=true:=by
 refine bP.2 fun p hp=>bP.2 fun q hq=>?_
 obtain⟨a,_,b,_,rfl⟩:=afc hp
 obtain⟨c,hcl, -,rfl⟩:=aC4 hq
 exact bP.1 h c hcl
end Jn
def BO (n:Int) (by_:Int) (tt:Int) (way:Int):Int×Int:=
 bif bV n||bW by_||bW tt then (0,1) else bif F.out way 1 3 then (0,4) else
 bif bV (F.gW n tt by_ way) then (0,1) else (F.gW n tt by_ way,0)
namespace M
def T3:Env:=bq ty au bp [jJ] [] [] []
theorem aC6:aZ Tryz.prog T3:=bG (aI jZ bF)
section
variable (n:Int)
theorem aC7:(aB T3 false f50 [vI n]).val =
 ai (ac eT [(vI n),(vI 1),(vI 3)]) fun z=>some ((vB (F.out z.1 z.2.1 z.2.2)),[]):=by kernel_rfl
def Kj:List AV:=[vI n]
def Bm (a:Int):List AV:=Kj a
theorem aC8 a a' (h:Bm a=Bm a'):a=a':=by
 simp only[Bm,Kj]at h
 try simp at h
 grind
theorem aC9:ac Bm ([(vI n)])=some (n):=ax aC8 (n) rfl
def T4:AV×Heap:=(vB (F.out n 1 3),[])
def aDa (n:Int):Bool:=true
def afd:aW:=aY 50 true Bm aDa T4
theorem aDb:aX Tryz.prog au afd:=by
 refine cx f50 aC6 ?_
 rintro n hpre hok
 show(aB T3 false _ (Kj _)).val=some (T4 _)
 unfold Kj T4
 rw[aC7]
 simp only[jk,ar]
 done
def T5:Env:=bq ty au bp [rE,tS,afd,Hp] [] [] []
theorem aDc:aZ Tryz.prog T5:=bG (aI tW (aI xR (aI aDb (aI Ny bF))))
theorem aDd (by_:Int) (tt:Int) (way:Int):(aB T5 false Tryz.f20 [vI n,vI by_,vI tt,vI way]).val =
 ai (ac iB [(vI n)]) fun z=>bif !bV z then ai (ac m8 [(vI by_)]) fun z_1=>bif !bif bV z then true else
 bW z_1 then ai (ac m8 [(vI tt)]) fun z_2=>bif bif bif bV z then true else bW z_1 then true else bW z_2 then some (AV.aF
 [(vI 0),(vI 1)],[]) else ai (ac Bm [(vI way)]) fun z=>bif F.out z (1:Int) (3:Int) then some (AV.aF [(vI 0),(vI 4)],[]) else ai (ac pE [(vI n),(vI tt),(vI by_),(vI way)]) fun z=>bif bz z.1&&decide ((0:Int)<=z.2.1)
 && decide (z.2.1<=1000000)&&decide ((1:Int)<=z.2.2.1)&&decide (z.2.2.1<=9223372036854775807)&&decide (qA z.1 *
 qA z.2.1<9223372036854775808) then ai (ac iB [(vI (F.gW z.1 z.2.1 z.2.2.1 z.2.2.2))]) fun z_3=>bif
 bV z_3 then some (AV.aF [(vI 0),(vI 1)],[]) else some (AV.aF [(vI (F.gW z.1 z.2.1 z.2.2.1 z.2.2.2)),(vI 0)],[]) else
 none else some (AV.aF [(vI 0),(vI 1)],[]) else some (AV.aF [(vI 0),(vI 1)],[]):=by kernel_rfl
def Kk (by_:Int) (tt:Int) (way:Int):List AV:=[vI n,vI by_,vI tt,vI way]
def Bn (a:Int×Int×Int×Int):List AV:=Kk a.1 a.2.1 a.2.2.1 a.2.2.2
theorem aDe a a' (h:Bn a=Bn a'):a=a':=by
 simp only[Bn,Kk]at h
 try simp at h
 grind
theorem aDf (by_:Int) (tt:Int) (way:Int):ac Bn ([(vI n),(vI by_),(vI tt),(vI way)])=some (n,by_,tt,way):=ax aDe (n,by_,tt,way) rfl
def T6 (by_:Int) (tt:Int) (way:Int):AV×Heap:=(.aF [vI (BO n by_ tt way).1,vI (BO n by_ tt way).2],[])
end
def afe (n:Int) (by_:Int) (tt:Int) (way:Int):Bool:=F.le tt 1000
def aff:aW:=aY 20 true Bn (cD afe) (cD T6)
theorem aDg:aX Tryz.prog au aff:=by
 refine cx Tryz.f20 aDc ?_
 rintro⟨n,by_,tt,way⟩ hpre hok
 show(aB T5 false _ (Kk _ _ _ _)).val=some (T6 _ _ _ _)
 unfold Kk T6
 rw[aDd]
 simp only[afe,cD,F.le,aM]at hpre
 simp only[lI,xQ,aC9,xr,ar,BO]
 cases h1:bV n
 .cases h2:bW by_
  .cases h3:bW tt
   .simp only[bV,bW,F.out,jQ,decide_eq_false_iff_not]at h1 h2 h3
    have a1:bz n=true:=by simp only[bz,aG,aM];omega
    have a2:n.natAbs*tt.natAbs<9223372036854775808:=by
     have:n.natAbs*tt.natAbs<=1000000000000000*1000:=vP (by omega) (by omega)
     omega
    have a3:(1:Int)<=by_:=by omega
    have a4:by_<=(9223372036854775807:Int):=by omega
    have a5:(0:Int)<=tt:=by omega
    have a6:tt<=(1000000:Int):=by omega
    cases F.out way 1 3
    .simp only[a1,aj a2,aj a3,aj a4,aj a5,aj a6,bT,Bool.or_false,ak,ap]
     cases bV (F.gW n tt by_ way)<;>rfl
    .rfl
   .rfl
  .rfl
 .rfl
def T7:Env:=bq ty au bp [aff] [] [] []
theorem aDh:aZ Tryz.prog T7:=bG (aI aDg bF)
theorem aDi:BO 1 3 2 3=(1,0):=by kernel_rfl
theorem aDj  : (aB T7 false f5 []).val =
 ai (ac Bn [(vI 1),(vI 3),(vI 2),(vI 3)]) fun z=>bif F.le z.2.2.1 (1000:Int) then
 some ((vB (bif (BO z.1 z.2.1 z.2.2.1 z.2.2.2).snd==0 then (BO z.1 z.2.1 z.2.2.1 z.2.2.2).fst==1 else
 false)),[]) else none:=by kernel_rfl
def T8  : List AV:=[]
def Bo (a:Unit):List AV:=T8
theorem aDk a a' (h:Bo a=Bo a'):a=a':=rfl
theorem aDl  : ac Bo ([])=some ():=ax aDk () rfl
def T9  : AV×Heap:=(vB true,[])
def aDm  : Bool:=true
def afg:aW:=aY 5 true Bo (fun a=>aDm) fun a=>T9
theorem aDn:aX Tryz.prog au afg:=by
 refine cx f5 aDh ?_
 rintro⟨⟩ hpre hok
 show(aB T7 false _ (T8 )).val=some (T9 )
 unfold T8 T9
 rw[aDj]
 have e:F.le 2 1000=true:=rfl
 simp only[aDf,ar,F.le,aDi]
 try rfl
end M
def nq (s:aK):Bool:=bV s.begin||bV s.lead||bV s.length||bV (s.begin+s.lead+s.length)
def Kz (n sc:Int):Int:=F.gW n 1000 sc 2
def qe (f:Int->Int):List aK->List Int
 | []=>[]
 | [s]=>[f (s.begin+s.lead),f (s.begin+s.lead+s.length)]
 | s::t::r=>f (s.begin+s.lead)::qe f (t::r)
def fw (sc:Int) (g:List aK):List Int:=qe (fun n=>Kz n sc) g
def KE (ps:List (List ay)):List ByteArray×Int:=bif M.bN F.iw ps != 0 then ([],M.bN F.iw ps) else (ps.map F.kS,0)
def gB (l:List ay) (g:List aK) (sc:Int):List ByteArray×Int:=
 bif F.dY l != 0 then ([],F.dY l) else bif decide (g.length=0) then ([],9) else bif bW sc then ([],1) else bif g.any nq then ([],1) else
 bif (gA l (fw sc g)).2 != 0 then ([],(gA l (fw sc g)).2) else KE (gA l (fw sc g)).1
theorem aE4 {s:aK} (h:nq s=false):(-1000000000000000<=s.begin/\s.begin<=1000000000000000)/\(-1000000000000000<=s.lead/\s.lead<=1000000000000000)/\(-1000000000000000<=s.length/\s.length<=1000000000000000)/\(-1000000000000000<=s.begin+s.lead+s.length/\s.begin+s.lead+s.length<=1000000000000000):=by
 unfold nq bV F.out at h
 simp only[jQ,decide_eq_false_iff_not]at h
 omega
def UB (s:aK):Bool:=bV s.begin||(bV s.lead||(bV s.length||bV (am.wrap (am.wrap (s.begin+s.lead)+s.length))))
theorem aE5 (s:aK):UB s=nq s:=by
 unfold UB nq
 cases h1:bV s.begin
 .cases h2:bV s.lead
  .cases h3:bV s.length
   .unfold bV F.out at h1 h2 h3
    simp only[jQ,decide_eq_false_iff_not]at h1 h2 h3
    rw[M.cA (n:=s.begin+s.lead) (by omega) (by omega),M.cA (by omega) (by omega)]
    rfl
   .rfl
  .rfl
 .rfl
theorem afI {n sc:Int} (hn : -2000000000000000<=n/\n<=2000000000000000) (hs:bW sc=false):bz n=true/\n.natAbs*(1000:Int).natAbs<9223372036854775808/\1<=sc/\sc<=1000000000:=by
 unfold bW F.out at hs
 simp only[jQ,decide_eq_false_iff_not]at hs
 have h3:(1000:Int).natAbs=1000:=rfl
 refine⟨?_,by rw[h3];omega,by omega,by omega⟩
 unfold bz
 rw[aj (by omega),aj (by omega)]
 rfl
theorem aFb (f:Int->Int) (s:aK):qe f [s]=[f (s.begin+s.lead),f (s.begin+s.lead+s.length)]:=rfl
theorem aE6 (f:Int->Int) (s:aK) {r:List aK} (h:r≠[]):qe f (s::r)=f (s.begin+s.lead)::qe f r:=by
 cases r with
 | nil=>exact absurd rfl h
 | cons t r=>rfl
namespace M
section
variable (l:List ay) (g:List aK) (sc:Int) (acc:List Int) (k:Nat)
def Fe:St:=⟨[(33,vI k),(32,vI g.length),(31, .sl (g.map bj)),(9, .own 9),(2,vI sc),(1, .sl (g.map bj)),(0, .sl (l.map aq))],[(9,⟨false,3,1,acc.map eI⟩)]⟩
def Bp (a:(List ay)×(List aK)×Int×(List Int)×Nat):St:=Fe a.1 a.2.1 a.2.2.1 a.2.2.2.1 a.2.2.2.2
theorem aDo a a' (h:Bp a=Bp a'):a=a':=by
 simp only[Bp,Fe]at h
 try simp[cY,dT,jW]at h
 grind
theorem aDp: ac Bp (St.mk [(33,(vI (0:Int))),(32,(vI (↑(ae g):Int))),(31,AV.sl (ab bj g)),(9, .own 9),(2,(vI sc)),(1,AV.sl (ab bj g)),(0,AV.sl
 (ab aq l))] [(9,ah.mk false 3 1 [])])=some (l,g,sc,[],0):=ax aDo (l,g,sc,[],0) rfl
def vl:T (Ex×St):= .bM (!((g.drop k).any nq)) (.ret (.exit 1,⟨[(9, .own 9),(0, .sl (l.map aq))],[(9,⟨false,3,1,(acc++fw sc (g.drop k)).map eI⟩)]⟩)) (.ret (.ret,⟨[(7,vI 1),(6, .own 6)],[(6,⟨false,9,1,[]⟩)]⟩))
def Ua (l:List ay) (g:List aK) (sc:Int) (acc:List Int) (k:Nat):Bool:=decide (g.length<=1048576)&&decide (k<=g.length)&&decide (acc.length<=k\/k=g.length) && !bW sc
def aDq:Nat×(St->T (Ex×St)):=(10,lpo [33,32,31,9,2,1,0] [9] Bp (fa Ua) (fa vl))
def Ff (ps:List (List ay)) (acc:List ByteArray) (k:Nat):St:=⟨[(102,vI k),(101,vI ps.length),(100, .sl (ps.map fm)),(14, .own 14)],[(14,⟨false,9,1,acc.map aC⟩)]⟩
def Bq (a:(List (List ay))×(List ByteArray)×Nat):St:=Ff a.1 a.2.1 a.2.2
theorem aDr a a' (h:Bq a=Bq a'):a=a':=by
 simp only[Bq,Ff]at h
 try simp[iL,GO]at h
 grind
theorem aDs (ps:List (List ay))  : ac Bq (St.mk [(102,(vI (0:Int))),(101,(vI (↑(ae ps):Int))),(100,AV.sl (ab fm ps)),(14, .own 14)] [(14,ah.mk false 9 1 [])])=some (ps,[],0):=ax aDr (ps,[],0) rfl
def Br (ps:List (List ay)) (acc:List ByteArray) (k:Nat):T (Ex×St):= .bM (decide (M.bN F.iw (ps.drop k)=0)) (.ret (.exit 3,⟨[(14, .own 14)],[(14,⟨false,9,1,(acc++(ps.drop k).map F.kS).map aC⟩)]⟩)) (.ret (.ret,⟨[(7,vI (M.bN F.iw (ps.drop k))),(6, .own 6)],[(6,⟨false,9,1,[]⟩)]⟩))
def Ub (ps:List (List ay)) (acc:List ByteArray) (k:Nat):Bool:=Kv ps&&decide (ps.length<=1000)&&decide (k<=ps.length)&&decide (acc.length<=k)
def aDt:Nat×(St->T (Ex×St)):=(23,lpo [102,101,100,14] [14] Bq (bU Ub) (bU Br))
def vm:Env:=bq ty au bp [C6,tS,rE,Hp,oSp,afb] [] [] [aDq,aDt]
theorem aDu:aZ Tryz.prog vm:=bG (aI HC (aI xR (aI tW (aI Ny (aI arf (aI aC3 bF))))))
theorem Kl:((exec vm (aw f9 0) (Fe l g sc acc k)).bind (bE ([33,32,31,9,2,1,0],[9]) ([9,0],[9]) ([7,6],[6]))).val =
 (fun(q:aK)=>(fun(q_1:List AV)=>(fun(q_2:Option (Ex×St))=>(fun(q_3:List (Nat×AV))=>bif decide ((↑k:Int)<(↑(ae g):Int)) then
 ai (ac (ab bj) (ab bj g)) fun z=>(fun(q_4:Int)=>(fun(q_5:AV)=>bif decide (k<ae z) then ai (ac
 iB [(vI (al z k q).begin)]) fun z_1=>bif !bV z_1 then ai (ac iB [(vI (al z k q).lead)]) fun z_2=>bif !bV
 z_2 then ai (ac iB [(vI (al z k q).length)]) fun z=>bif !bV z then ai (ac iB [q_5]) fun z=>bif bV z
 then q_2 else ai (ac pE ((vI q_4)::q_1)) fun z=>(fun(q:List Row)=>bif bz z.1&&decide ((0:Int)<=z.2.1) &&
 decide (z.2.1<=1000000)&&decide ((1:Int)<=z.2.2.1)&&decide (z.2.2.1<=9223372036854775807)&&decide (qA z.1*qA
 z.2.1<9223372036854775808) then bif aP ((ae (ab eI acc)+1)*8) 140737488355328&&true then bif (↑k:Int) ==
 am.wrap ((↑(ae (ab bj g)):Int) - (1:Int)) then ai (ac pE (q_5::q_1)) fun z=>bif bz
 z.1&&decide ((0:Int)<=z.2.1)&&decide (z.2.1<=1000000)&&decide ((1:Int)<=z.2.2.1)&&decide (z.2.2.1<=9223372036854775807)&&decide (qA z.1*qA z.2.1<9223372036854775808) then bif aP ((ae q+1)*8) 140737488355328
 && true then some (Ex.normal,St.mk q_3 [(9,ah.mk false 3 1 (q++[[(vI (F.gW z.1 z.2.1 z.2.2.1 z.2.2.2))]]))]) else none else none else some
 (Ex.normal,St.mk q_3 [(9,ah.mk false 3 1 q)]) else none else none) (ab eI acc++[[(vI (F.gW z.1 z.2.1 z.2.2.1 z.2.2.2))]]) else q_2 else q_2
 else q_2 else none) ((vI (am.wrap (q_4+(al z k q).length))))) (am.wrap ((al z k q).begin+(al z k q).lead)) else
 some (Ex.exit (1:Nat),St.mk [(9, .own 9),(0,AV.sl (ab aq l))] [(9,ah.mk false 3 1 (ab eI acc))])) [(33,(vI (am.wrap ((↑k:Int)+1)))),(32,(vI (↑(ae g):Int))),(31,AV.sl (ab bj g)),(9, .own 9),(2,(vI sc)),(1,AV.sl (ab bj g)),(0,AV.sl (ab aq l))])
 (some (Ex.ret,St.mk [(7,(vI 1)),(6, .own 6)] [(6,ah.mk false 9 1 [])]))) [(vI 1000),(vI sc),(vI 2)]) (aK.mk (0:Int) (0:Int) (0:Int)
 (0:Int) (0:Int) (0:Int) (0:Int)):=(cr _ _ _).symm.trans (by kernel_rfl)
theorem aDv (l:List ay) (g:List aK) (sc:Int) (acc:List Int) (k:Nat) (hp:Ua l g sc acc k=true) : ∀ex s',(vl l g sc acc k).val=some (ex,s')->ba vm (aw f9 0) (Fe l g sc acc k) ex s':=by
 simp only[Ua,aG,aM]at hp
 obtain⟨⟨⟨h1,h2⟩,h3⟩,h4⟩:=hp
 have h4:bW sc=false:=by simpa using h4
 refine cE (st:=fun a:List Int×Nat=>Fe l g sc a.1 a.2) (out:=fun a=>vl l g sc a.1 a.2) (I:=fun a=>a.2<=g.length/\(a.1.length<=a.2\/a.2=g.length)) (n:=([33,32,31,9,2,1,0],[9])) (e:=([9,0],[9])) (r:=([7,6],[6])) (fun a=>g.length - a.2) ?_ (acc,k) ⟨h2,h3⟩
 clear h2 h3 acc k
 rintro⟨acc,k⟩ ⟨h2,h3⟩
 simp only at h2 h3
 by_cases hlt:k<g.length
 .have hy:g[k]? = some g[k]:=bC hlt
  have hd:g.drop k=g[k]::g.drop (k+1):=pe hlt
  generalize g[k]=s at hy hd
  have hN:=ch hlt (by omega:g.length<=9223372036854775807)
  have hW:=aE5 s
  have h3:acc.length<=k:=h3.resolve_right (by omega)
  have z1:decide ((0:Int)<=1000)=true:=rfl
  have z2:decide ((1000:Int)<=1000000)=true:=rfl
  cases hb:nq s
  .obtain⟨a1,a2,a3,a4⟩:=aE4 hb
   have w1:am.wrap (s.begin+s.lead)=s.begin+s.lead:=cA (by omega) (by omega)
   have w2:am.wrap (s.begin+s.lead+s.length)=s.begin+s.lead+s.length:=cA (by omega) (by omega)
   have w3:am.wrap ((g.length:Int) - 1)=(g.length:Int) - 1:=cA (by omega) (by omega)
   obtain⟨p1,p2,p3,p4⟩:=afI (n:=s.begin+s.lead) (by omega) h4
   obtain⟨q1,q2,q3,q4⟩:=afI (n:=s.begin+s.lead+s.length) (by omega) h4
   have n1:bV s.begin=false:=by unfold bV F.out;rw[aH (by omega),aH (by omega)];rfl
   have n2:bV s.lead=false:=by unfold bV F.out;rw[aH (by omega),aH (by omega)];rfl
   have n3:bV s.length=false:=by unfold bV F.out;rw[aH (by omega),aH (by omega)];rfl
   have n4:bV (s.begin+s.lead+s.length)=false:=by unfold bV F.out;rw[aH (by omega),aH (by omega)];rfl
   have b1:aP ((acc.length+1)*8) 140737488355328=true:=cg (by omega)
   have b2:aP ((acc.length+1+1)*8) 140737488355328=true:=cg (by omega)
   have b3:decide (sc<=9223372036854775807)=true:=aj (by omega)
   right
   by_cases hlast:k+1=g.length
   .have hdn:g.drop (k+1)=[]:=qr (by omega)
    have hi:((k:Int)==(g.length:Int) - 1)=true:=by rw[beq_iff_eq];omega
    refine⟨(acc++[Kz (s.begin+s.lead) sc,Kz (s.begin+s.lead+s.length) sc],k+1),?_,rfl,⟨hlt, .inr hlast⟩,by simp only;omega,?_⟩
    .rw[Kl]
     simp only[lI,xr,ar,aN,jh,ak,ap,aS,bA hlt,aj hlt,getD_at hy,hN,w1,w2,w3,n1,n2,n3,n4,p1,q1,aj p2,aj q2,aj p3,hi,z1,z2,b3,bT,dt,ck,ou,b1,b2,MM,cq,mF]
     try rfl
    .simp only[vl,hd,hdn,fw,aFb,Lp,List.any_nil,hb,Bool.or_false,qe,gH]
   .have hdn:g.drop (k+1)≠[]:=fun e=>by
     have:=congrArg ae e
     rw[fe]at this
     simp at this
     omega
    have hi:((k:Int)==(g.length:Int) - 1)=false:=by rw[beq_eq_false_iff_ne];omega
    refine⟨(acc++[Kz (s.begin+s.lead) sc],k+1),?_,rfl,⟨hlt, .inl (by simp only[ck,ou];omega)⟩,by simp only;omega,?_⟩
    .rw[Kl]
     simp only[lI,xr,ar,aN,jh,ak,ap,aS,bA hlt,aj hlt,getD_at hy,hN,w1,w2,w3,n1,n2,n3,n4,p1,aj p2,aj p3,hi,z1,z2,b3,bT,dt,ck,ou,b1,b2,MM]
     try rfl
    .simp only[vl,hd,fw,aE6 _ s hdn,Lp,hb,nF,cq,mF]
  .left
   refine⟨(.ret,⟨[(7,vI 1),(6, .own 6)],[(6,⟨false,9,1,[]⟩)]⟩),?_,?_,by simp,rfl⟩
   .rw[hb]at hW
    unfold UB at hW
    rw[Kl]
    simp only[lI,xr,ar,aN,jh,ak,aS,bA hlt,aj hlt,getD_at hy]
    cases c1:bV s.begin
    .rw[c1,nF]at hW
     cases c2:bV s.lead
     .rw[c2,nF]at hW
      cases c3:bV s.length
      .rw[c3,nF]at hW
       simp only[hW,ak,dt]
       try rfl
      .rfl
     .rfl
    .rfl
   .simp only[vl,hd,Lp,hb,Bool.true_or,dC]
    rfl
 .have:k=g.length:=by omega
  subst this
  left
  refine⟨(.exit 1,⟨[(9, .own 9),(0, .sl (l.map aq))],[(9,⟨false,3,1,acc.map eI⟩)]⟩),?_,?_,by simp,rfl⟩
  .rw[Kl]
   simp only[lI,xr,ar,aN,jh,ap,aS,gJ]
   try rfl
  .simp only[vl,mA,fw,qe,List.any_nil,gH]
   rfl
theorem Uc (ps:List (List ay)) (acc:List ByteArray) (k:Nat):((exec vm (aw f9 1) (Ff ps acc k)).bind (bE ([102,101,100,14],[14]) ([14],[14]) ([7,6],[6]))).val =
 bif decide ((↑k:Int)<(↑(ae ps):Int)) then ai (ac (ab fm) (ab fm ps)) fun z=>bif decide (k <
 ae z) then ai (ac Bl [AV.sl (ab aq (al z k []))]) fun z=>bif F.gh z then bif F.iw z != 0 then some
 (Ex.ret,St.mk [(7,(vI (F.iw z))),(6, .own 6)] [(6,ah.mk false 9 1 [])]) else bif aP ((ae (ab aC acc)+1)*16)
 (140737488355328:Nat)&&true then some (Ex.normal,St.mk [(102,(vI (am.wrap ((↑k:Int)+1)))),(101,(vI (↑(ae ps):Int))),(100,
 AV.sl (ab fm ps)),(14, .own 14)] [(14,ah.mk false 9 1 (ab aC acc++[[(vS (F.kS z))]]))]) else none else none else none else some (Ex.exit (3 :
 Nat),St.mk [(14, .own 14)] [(14,ah.mk false 9 1 (ab aC acc))]):=(cr _ _ _).symm.trans (by kernel_rfl)
theorem aDw (ps:List (List ay)) (acc:List ByteArray) (k:Nat) (hp:Ub ps acc k=true) : ∀ex s',(Br ps acc k).val=some (ex,s')->ba vm (aw f9 1) (Ff ps acc k) ex s':=by
 simp only[Ub,aG,aM]at hp
 obtain⟨⟨⟨h1,h2⟩,h3⟩,h4⟩:=hp
 refine cE (st:=fun a:List ByteArray×Nat=>Ff ps a.1 a.2) (out:=fun a=>Br ps a.1 a.2) (I:=fun a=>a.2<=ps.length/\a.1.length<=a.2) (n:=([102,101,100,14],[14])) (e:=([14],[14])) (r:=([7,6],[6])) (fun a=>ps.length - a.2) ?_ (acc,k) ⟨h3,h4⟩
 clear h3 h4 acc k
 rintro⟨acc,k⟩ ⟨h3,h4⟩
 simp only at h3 h4
 by_cases hlt:k<ps.length
 .have hy:ps[k]? = some ps[k]:=bC hlt
  have hd:ps.drop k=ps[k]::ps.drop (k+1):=pe hlt
  generalize ps[k]=p at hy hd
  have hN:=ch hlt (by omega:ps.length<=9223372036854775807)
  have iu:F.gh p=true:=bP.1 h1 p (cL hy)
  have b1:aP ((acc.length+1)*16) 140737488355328=true:=cg (by omega)
  by_cases h0:F.iw p=0
  .right
   have hb:(F.iw p != 0)=false:=by simp[h0]
   refine⟨(acc++[F.kS p],k+1),?_,rfl,⟨hlt,by simp only[ck,ou];omega⟩,by simp only;omega,?_⟩
   .rw[Uc]
    simp only[T1,ar,aN,MP,ak,ap,aS,bA hlt,aj hlt,getD_at hy,hN,iu,hb,b1,ai9]
    try rfl
   .simp only[Br,hd,M.bN,h0,if_true,gP,cq,mF]
  .left
   have hb:(F.iw p != 0)=true:=by simp[h0]
   refine⟨(.ret,⟨[(7,vI (F.iw p)),(6, .own 6)],[(6,⟨false,9,1,[]⟩)]⟩),?_,?_,by simp,rfl⟩
   .rw[Uc]
    simp only[T1,ar,aN,MP,ak,aS,bA hlt,aj hlt,getD_at hy,hN,iu,hb]
    try rfl
   .simp only[Br,hd,M.bN,h0,if_false,decide_false]
    rfl
 .have:k=ps.length:=by omega
  subst this
  left
  refine⟨(.exit 3,⟨[(14, .own 14)],[(14,⟨false,9,1,acc.map aC⟩)]⟩),?_,?_,by simp,rfl⟩
  .rw[Uc]
   simp only[T1,ar,aN,MP,ap,aS,gJ]
   try rfl
  .simp only[Br,mA,M.bN,sD,gH,decide_true]
   rfl
theorem aDx:(aB vm false f9 [.sl (l.map aq), .sl (g.map bj),vI sc]).val =
 ai (ac pG [AV.sl (ab aq l)]) fun z=>bif F.gh z then bif F.dY z != 0 then some (AV.aF [AV.sl [],(vI (F.dY z))],[])
 else bif (↑(ae (ab bj g)):Int)==0 then some (AV.aF [AV.sl [],(vI 9)],[]) else ai (ac m8 [(vI sc)]) fun z=>
 bif bW z then some (AV.aF [AV.sl [],(vI 1)],[]) else ai (ac Bp (St.mk [(33,(vI 0)),(32,(vI (↑(ae (ab bj g)) :
 Int))),(31,AV.sl (ab bj g)),(9, .own 9),(2,(vI sc)),(1,AV.sl (ab bj g)),(0,AV.sl (ab aq l))] [(9,ah.mk false 3 1 [])])) fun z=>(fun(q:Nat)=>bif decide (ae z.2.1<=1048576)&&decide (q<=ae z.2.1)&&decide
 (ae z.2.2.2.1<=q\/q=ae z.2.1) && !bW z.2.2.1&&true then bif !List.any (bn q z.2.1) nq then ai
 (ac yJ [AV.sl (ab aq z.1),AV.sl (ab eI (z.2.2.2.1++fw z.2.2.1 (bn q z.2.1)))]) fun z=>bif
 F.gh z.1 then bif (gA z.1 z.2).snd != 0 then some (AV.aF [AV.sl [],(vI (gA z.1 z.2).snd)],[]) else ai (ac Bq (St.mk [(102,
 (vI 0)),(101,(vI (↑(ae (ab fm (gA z.1 z.2).fst)):Int))),(100,AV.sl (ab fm (gA z.1 z.2).fst)),(14, .own 14)]
 [(14,ah.mk false 9 1 [])])) fun z=>(fun(q:Int)=>bif Kv z.1&&decide (ae z.1<=1000)&&decide
 (z.2.2<=ae z.1)&&decide (ae z.2.1<=z.2.2)&&true then bif decide (q=(0:Int)) then some (AV.aF [AV.sl (ab aC (z.2.1 ++
 ab F.kS (bn z.2.2 z.1))),(vI 0)],[]) else some (AV.aF [AV.sl [],(vI q)],[]) else none) (bN F.iw (bn z.2.2 z.1)) else
 none else some (AV.aF [AV.sl [],(vI 1)],[]) else none) z.2.2.2.2 else none:=(cm).symm.trans (by kernel_rfl)
def Km:List AV:=[.sl (l.map aq), .sl (g.map bj),vI sc]
def Bs (a:(List ay)×(List aK)×Int):List AV:=Km a.1 a.2.1 a.2.2
theorem aDy a a' (h:Bs a=Bs a'):a=a':=by
 simp only[Bs,Km]at h
 try simp[dT,jW]at h
 grind
theorem aDz:ac Bs ([AV.sl (ab aq l),AV.sl (ab bj g),(vI sc)])=some (l,g,sc):=ax aDy (l,g,sc) rfl
def Ud:AV×Heap:=(.aF [.sl ((gB l g sc).1.map aC),vI (gB l g sc).2],[])
def afh (sc:Int):Bool:=F.gh l&&decide (g.length<=1048576)
end
def oSb:aW:=aY 9 false Bs (bU afh) (bU Ud)
theorem aDA:aX Tryz.prog au oSb:=by
 refine cQ f9 aDu (md (x0:=aw f9 0) (x1:=aw f9 1) (by kernel_rfl) (bS ?_) (bS ?_)) ?_
 .rintro⟨l,g,sc,acc,k⟩ hp
  exact aDv l g sc acc k hp
 .rintro⟨ps,acc,k⟩ hp
  exact aDw ps acc k hp
 rintro⟨l,g,sc⟩ hpre hok
 show(aB vm false _ (Km _ _ _)).val=some (Ud _ _ _)
 unfold Km Ud
 rw[aDx]
 simp only[afh,bU,aG,aM]at hpre
 obtain⟨iu,hlen⟩:=hpre
 simp only
 simp only[HB,xQ,are,aDp,aDs,ar,aN,ak,aS,iu,df,eh]
 unfold gB KE
 by_cases hc:F.dY l=0
 case neg=>
  rw[cP hc]
  rfl
 rw[cR hc]
 simp only[ap]
 have hg0:(((g.length:Nat):Int)==0)=decide (g.length=0):=by
  by_cases h:g.length=0
  .rw[h];rfl
  .rw[aH h,beq_eq_false_iff_ne];omega
 rw[hg0]
 cases hg:decide (g.length=0)
 case true=>rfl
 simp only[ap]
 cases hs:bW sc
 case true=>rfl
 simp only[ap,dt,aj hlen,aj (cf g.length),i6,bR,true_or,decide_true,bT,ak]
 cases ha:g.any nq
 case true=>rfl
 simp only[dt,ak,ap]
 by_cases hk:(gA l (fw sc g)).2=0
 case neg=>
  rw[cP hk]
  rfl
 rw[cR hk]
 have e:(gA l (fw sc g)).1=iS l (fw sc g):=by
  unfold gA at hk ⊢
  rw[cR hc]at hk ⊢
  by_cases hb:lP (fw sc g)=0
  .rw[cR hb];rfl
  .rw[cP hb]at hk;exact absurd hk hb
 have hsl:Kv (gA l (fw sc g)).1=true:=by rw[e];exact Jn.aC5 iu _
 have hln:(gA l (fw sc g)).1.length<=1000:=by
  have hb:lP (fw sc g)=0:=by
   unfold gA at hk
   rw[cR hc]at hk
   by_cases hb:lP (fw sc g)=0
   .exact hb
   .rw[cP hb]at hk;exact absurd hk hb
  obtain⟨b1,b2⟩:=age hb
  rw[e]
  have:=Jn.C7 (l:=l) (bs:=fw sc g) (by intro e;rw[e]at b1;simp at b1)
  omega
 simp only[ap,hsl,aj hln,aj (cf (gA l (fw sc g)).1.length),bT,ak]
 by_cases h0:M.bN F.iw (gA l (fw sc g)).1=0
 .rw[h0]
  rfl
 .rw[aH h0,cP h0]
  rfl
end M
namespace F
def gx:List ay->List ByteArray
 | []=>[]
 | c::r=>(ir c da++p9 c.row c.cZ c.dl)::(c.lines.map iD++⟨⟨[]⟩⟩::gx r)
theorem afj : ∀(m:List ByteArray) (s:ByteArray),bs (iE m s)=bs s++jM (m.map iD)
 | [],s=>by rw[iE];simp[jM]
 | x::r,s=>by
  rw[iE,afj r,lH,lH,gP,E6]
  simp only[cq]
  rfl
theorem aDB (c:ay) (s:ByteArray):bs (nk c s)=bs s++(bs (ir c da++p9 c.row c.cZ c.dl)++[10]):=by
 unfold nk p9
 have e:bs (⟨⟨[]⟩⟩:ByteArray)=[]:=rfl
 cases c.dl<;>cases c.cZ<;>cases(c.row != 0)<;>simp only[ak,ap,lH,e,gH,eh,cq]<;>rfl
theorem afk : ∀(m:List ay) (s:ByteArray),bs (kR m s)=bs s++jM (gx m)
 | [],s=>by rw[kR];simp[gx,jM]
 | c::r,s=>by
  rw[kR,afk r,gx,E6,aCg,E6]
  unfold r6
  rw[lH,afj,aDB]
  simp only[cq,show bs nl=[10] from rfl,show bs (⟨⟨[]⟩⟩:ByteArray)=[] from rfl,eh,k6]
theorem aDC {k:Nat} (h:k<16) (b a:Bool) : ∀x∈oX k b a,x≠10:=by
 have key : ∀(k:Fin 16) (b a:Bool),((oX k.val b a).all fun x=>x != 10)=true:=by decide +kernel
 intro x hx
 have:=bP.1 (key ⟨k,h⟩ b a) x hx
 simpa using this
theorem afl : ∀(m:List ay),(∀c∈m,kg c=true) -> ∀x∈gx m,∀b∈bs x,b≠10
 | [],_,x,hx=>by cases hx
 | c::r,h,x,hx=>by
  have hc:=h c (dN ..)
  obtain⟨h1,h2,h3,h4,h5,h6,h7,h8,h9⟩:=ve hc
  obtain⟨k,hk⟩:=nG h5
  rw[gx,cK,dn,cK]at hx
  rcases hx with rfl | hx | rfl | hx
  .intro b hb
   rw[lH,dn,hk,aeO (by omega)]at hb
   rcases hb with hb | hb
   .exact aCi rfl (by decide) hc b hb
   .exact aDC (by omega) _ _ b hb
  .obtain⟨y,hy,rfl⟩:=List.mem_map.1 hx
   exact aCl (aeJ (h9 y hy)).1
  .intro b hb;cases hb
  .exact afl r (fun d hd=>h d (iH _ hd)) x hx
theorem afm (E:ByteArray) (hE:emp E=true) (M:List ByteArray) : ∀(ls acc:List ByteArray) (a:Nat),(∀x∈ls,line x=true)->acc++ls≠[]->cj (ls.map iD++E::M) acc a=(true,acc++ls,a+ls.length)
 | [],acc,a,_,h=>by
  have he:acc.isEmpty=false:=by cases acc;exact absurd rfl h;rfl
  rw[sD,eh,cj,hE,he]
  simp
 | x::r,acc,a,hl,h=>by
  have hx:=hl x (dN ..)
  obtain⟨p1,p2⟩:=aCm hx
  have he:emp (iD x)=false:=by rw[lG,decide_eq_false_iff_not];have:=(aeJ hx).2;have:=(TP x).1;omega
  rw[gP,k6,cj,he,Bool.false_and,ap,p1,ak,p2,afm E hE M r (acc++[x]) (a+1) (fun y hy=>hl y (iH _ hy)) (by simp)]
  rw[cq,mF,gq]
  congr 2
  omega
theorem afn (m:List ay) (h : ∀c∈m,kg c=true):lead (gx m)=0:=by
 cases m with
 | nil=>rfl
 | cons c r=>
  have h1:=TL (h c (dN ..)) (show da.size=1 from rfl)
  rw[gx,lead,lG,aH (by rw[gE];omega)]
  rfl
theorem afo : ∀(m:List ay) (L:List ByteArray) (out:List ay) (a f:Nat),L.drop a=gx m->a<=L.length->m.length<=f->(∀c∈m,kg c=true) ->
  fv L f out a=(true,out++m,L.length)
 | [],L,out,a,f,hd,ha,_,_=>by
  have he:a=L.length:=by
   have:=congrArg ae hd
   rw[fe]at this
   simp[gx]at this
   omega
  have ht:eM L a=false:=aH (by omega)
  cases f with
  | zero=>rw[fv,gH,he]
  | succ f=>rw[fv,ht,ap,gH,he]
 | c::r,L,out,a,0,hd,ha,hf,_=>by simp at hf
 | c::r,L,out,a,f+1,hd,ha,hf,hw=>by
  have hc:=hw c (dN ..)
  obtain⟨h1,h2,h3,h4,h5,h6,h7,h8,h9⟩:=ve hc
  rw[gx]at hd
  obtain⟨a1,a2,a3,a4⟩:=take_at hd
  rw[gq]at hf
  obtain⟨x,hx⟩:=nG h1
  obtain⟨y,hy⟩:=nG h3
  obtain⟨z,hz⟩:=nG h5
  obtain⟨r1,r2,r3,r4⟩:=anW (a:=x) (b:=y) (s:=ir c da++p9 c.row c.cZ c.dl) (p:=da) (q:=46) rfl (by decide) (by omega) (by omega) (r:=oX z c.cZ c.dl) (by rw[lH,hz,aeO (by omega)];unfold ir;rw[hx,hy])
  have hr:(gi (ir c da++p9 c.row c.cZ c.dl) da).2.2.1=⟨⟨oX z c.cZ c.dl⟩⟩:=rC r3
  obtain⟨m1,m2,m3,m4⟩:=aCo ⟨z,by omega⟩ c.cZ c.dl
  have hok:p8 (ir c da++p9 c.row c.cZ c.dl)=true:=by
   unfold p8
   rw[r4,hr,m1]
   rfl
  have hcap:oW (ir c da++p9 c.row c.cZ c.dl) c.lines=c:=by
   unfold oW
   rw[r1,r2,hr,m2,m3,m4,<-hx,<-hy]
   show(⟨c.fr,c.tqq,c.lines,(z:Int),c.cZ,c.dl⟩:ay)=c
   rw[<-hz]
  have hbd:=afm (⟨⟨[]⟩⟩:ByteArray) (by simp[emp]) (gx r) c.lines [] (a+1) h9 (by simpa using h8)
  rw[<-a3,eh]at hbd
  have ni:L.drop (a+1+c.lines.length)=⟨⟨[]⟩⟩::gx r:=by
   rw[<-List.drop_drop,a3,List.drop_left' (by rw[aN])]
  obtain⟨d1,d2,d3,d4⟩:=take_at ni
  have hlead:lead (L.drop (a+1+c.lines.length))=1:=by
   rw[ni,lead,afn r fun d hd=>hw d (iH _ hd),show emp (⟨⟨[]⟩⟩:ByteArray)=true from by simp[emp]]
   rfl
  have ih:=afo r L (out++[c]) (a+1+c.lines.length+1) f d3 (by omega) (by omega) (fun d hd=>hw d (iH _ hd))
  rw[fv,a1,ak,a2,hok,ak,hbd]
  simp only[ak,hlead,hcap]
  rw[ih,cq]
  rfl
theorem afp : ∀(m:List ay),m.length<=(gx m).length
 | []=>bR _
 | c::r=>by
  have:=afp r
  rw[gx]
  simp only[gq,ck]
  omega
theorem aDD {l:List ay} (h:iw l=0):ju (kS l)=(l,0,0):=by
 unfold iw at h
 cases hc:dY l != 0
 .have hc0:dY l=0:=by simpa using hc
  obtain⟨g1,g2⟩:=aeF hc0
  have hw:=bP.1 g2
  rw[hc,ap]at h
  unfold E5 at h
  cases hb:decide (200000<(vi l).size)
  .have e1:kS l=vi l:=by unfold kS vd;rw[hc,hb];rfl
   have hT:bs (vi l)=jM (nh::⟨⟨[]⟩⟩::gx l):=by
    unfold vi
    rw[afk,E6,E6]
    rfl
   have hne : ∀x∈nh::⟨⟨[]⟩⟩::gx l,∀b∈bs x,b≠10:=by
    intro x hx
    rw[cK,cK]at hx
    rcases hx with rfl | rfl | hx
    .intro b hb
     have hb:b∈([87,69,66,86,84,84]:List UInt8):=hb
     simp only[cK,B9,or_false]at hb
     rcases hb with rfl | rfl | rfl | rfl | rfl | rfl<;>decide
    .intro b hb;cases hb
    .exact afl l hw x hx
   have hL:kN (vi l)=nh::⟨⟨[]⟩⟩::gx l:=aCf hne hT
   have hlead:lead ((nh::⟨⟨[]⟩⟩::gx l).drop 1)=1:=by
    rw[List.drop_succ_cons,df,lead,afn l hw,show emp (⟨⟨[]⟩⟩:ByteArray)=true from by simp[emp]]
    rfl
   have hA:ga (nh::⟨⟨[]⟩⟩::gx l)=(true,l,(nh::⟨⟨[]⟩⟩::gx l).length):=by
    obtain⟨t1,t2,_,_⟩:=take_at (L:=nh::⟨⟨[]⟩⟩::gx l) (a:=0) (x:=nh) (t:=⟨⟨[]⟩⟩::gx l) rfl
    unfold ga EZ ni
    rw[t1,t2,aka,hlead]
    have:=afp l
    exact afo l (nh::⟨⟨[]⟩⟩::gx l) [] (1+1) _ rfl (by simp) (by simp only[gq];omega) hw
   rw[e1]
   unfold ju
   rw[hb,hL,hA]
   unfold TC
   simp only[ak,ap,hc]
  .rw[hb]at h;cases h
 .rw[hc,ak]at h
  rw[h]at hc;simp at hc
end F
theorem aEH (l : List ay) : F.small (F.kS l) = true := by
  have e0 : F.small (⟨⟨[]⟩⟩ : ByteArray) = true := rfl
  have hb : ∀ s, F.small (F.vd s) = true := fun s => by
    unfold F.vd
    cases h : decide (200000 < s.size)
    . exact aj (by have : ¬ 200000 < s.size := of_decide_eq_false h; simp only [ap]; omega)
    . exact e0
  unfold F.kS
  cases F.dY l != 0
  . exact hb _
  . exact e0
namespace M
end M
def agn (ts:List ByteArray):Bool:=ts.all fun s=>F.small s&&((F.ju s).2.2==0&&(F.ju s).2.1==0)
theorem aEw {ps:List (List ay)} (h:M.bN F.iw ps=0):agn (ps.map F.kS)=true/\(ps.map F.kS).map (fun s=>(F.ju s).1)=ps:=by
 induction ps with
 | nil=>exact⟨rfl,rfl⟩
 | cons p ps ih=>
  rw[M.bN]at h
  by_cases h0:F.iw p=0
  .rw[if_pos h0]at h
   obtain⟨i1,i2⟩:=ih h
   have hb:=F.aDD h0
   refine⟨?_,?_⟩
   .unfold agn at i1 ⊢
    rw[gP,List.all_cons,i1,aEH,hb]
    rfl
   .rw[gP,gP,i2,hb]
  .rw[if_neg h0]at h
   exact absurd h h0
theorem aET {l:List ay} {g:List aK} {sc:Int} (h:(gB l g sc).2≠0):(gB l g sc).1=[]:=by
 revert h
 unfold gB KE
 cases F.dY l != 0
 case true=>exact fun _=>rfl
 cases decide (g.length=0)
 case true=>exact fun _=>rfl
 cases bW sc
 case true=>exact fun _=>rfl
 cases g.any nq
 case true=>exact fun _=>rfl
 cases(gA l (fw sc g)).2 != 0
 case true=>exact fun _=>rfl
 cases M.bN F.iw (gA l (fw sc g)).1 != 0
 case true=>exact fun _=>rfl
 exact fun h=>absurd rfl h
theorem aFt {l:List ay} {g:List aK} {sc:Int} (h:(gB l g sc).2=0):F.dY l=0/\bW sc=false/\g.any nq=false/\lP (fw sc g)=0/\M.bN F.iw (iS l (fw sc g))=0/\(gB l g sc).1=(iS l (fw sc g)).map F.kS:=by
 unfold gB KE at h ⊢
 by_cases hc:F.dY l=0
 case neg=>rw[M.cP hc]at h;exact absurd h hc
 rw[M.cR hc,ap]at h ⊢
 cases hg:decide (g.length=0)
 case true=>rw[hg]at h;cases h
 rw[hg,ap]at h
 cases hs:bW sc
 case true=>rw[hs]at h;cases h
 rw[hs,ap]at h
 cases ha:g.any nq
 case true=>rw[ha]at h;cases h
 rw[ha,ap]at h
 by_cases hk:(gA l (fw sc g)).2=0
 case neg=>rw[M.cP hk]at h;exact absurd h hk
 rw[M.cR hk,ap]at h
 have hb:lP (fw sc g)=0:=by
  unfold gA at hk
  rw[M.cR hc]at hk
  by_cases hb:lP (fw sc g)=0
  .exact hb
  .rw[M.cP hb]at hk;exact absurd hk hb
 have e:(gA l (fw sc g)).1=iS l (fw sc g):=by
  unfold gA
  rw[M.cR hc,M.cR hb]
  rfl
 rw[e]at h ⊢
 by_cases h0:M.bN F.iw (iS l (fw sc g))=0
 case neg=>rw[M.cP h0]at h;exact absurd h h0
 refine⟨hc,rfl,rfl,hb,h0,?_⟩
 rw[M.cR hk,M.cR h0]
 rfl
theorem agf (l:List ay) : ∀bs:List Int,(iS l bs).length=bs.length - 1
 | []=>rfl
 | [_]=>rfl
 | a::b::r=>by
  have:=agf l (b::r)
  simp only[iS,gq]at this ⊢
  omega
theorem af0 (f:Int->Int) : ∀l:List aK,l≠[]->(qe f l).length=l.length+1
 | [],h=>absurd rfl h
 | [s],_=>rfl
 | s::t::r,_=>by
  have:=af0 f (t::r) (by simp)
  simp only[qe,gq]at this ⊢
  omega
theorem aEN {l:List ay} {g:List aK} {sc:Int} (h:(gB l g sc).2=0) (hg:g≠[]) :
  (gB l g sc).1.length=g.length /\ ∀s∈(gB l g sc).1,F.small s=true/\(F.ju s).2.2=0:=by
 obtain⟨_,_,_,_,h1,h2⟩:=aFt h
 have hr:=(aEw h1).1
 rw[h2]
 refine⟨?_,fun s hs=>?_⟩
 .rw[aN,agf,fw,af0 _ _ hg];omega
 .have:=bP.1 hr s hs
  simp only[aG,beq_iff_eq]at this
  exact⟨this.1,this.2.1⟩
def agr (ss:List (List aK)) (ls:List bH):Prop:=ss.length=ls.length/\ls.length<=12 /\ ∀(i:Nat) (x:bH) (S:List aK),ls[i]? = some x->ss[i]? = some S->KM x S
def BJ (ss:List (List aK)) (ls:List bH):Bool:=@decide (agr ss ls) (B8 _)
theorem Uu {ss:List (List aK)} {ls:List bH}:BJ ss ls=true↔agr ss ls:=by
 unfold BJ
 exact @decide_eq_true_iff _ (B8 _)
def Fp (x:bH) (S:List aK) (cl:dQ) (k:Nat):Bool:=@decide (KM x S/\cl=ki x k/\k<=S.length) (B8 _)
theorem afF {x:bH} {S:List aK} {cl:dQ} {k:Nat}:Fp x S cl k=true↔(KM x S/\cl=ki x k/\k<=S.length):=by
 unfold Fp
 exact @decide_eq_true_iff _ (B8 _)
def KQ (ts:List ByteArray):Bool:=ts.all fun s=>F.small s&&(F.ju s).2.2==0
theorem agc (f:Int) : ∀(l:List cb) (k:Nat) (y:dK),y∈F.q0 f k l->y.entry∈l
 | [],_,_,h=>by simp[F.q0]at h
 | e::l,k,y,h=>by
  rw[F.q0,cK]at h
  rcases h with rfl | h
  .exact dN ..
  .exact iH _ (agc f l _ y h)
theorem aEA {x:bH} (h:gm x=0) (k:Nat):Ku (ki x k)=true:=by
 have hr:=afK h
 rw[aG]at hr
 have hq:qh ((F.q0 x.first 0 x.entries).drop k)=true:=
  bP.2 fun y hy=>bP.1 hr.2 _ (agc _ _ _ _ (List.mem_of_mem_drop hy))
 show(decide (x.entries.length*88<=140737488355328)&&(x.entries.all fun e=>decide (e.dz.length*16<=140737488355328))&&qh ((F.q0 x.first 0 x.entries).drop k))=true
 rw[hr.1,hr.2,hq]
 rfl
def Ft (l:List Std) (cs:List cv) (w:b9) (n:Int) (c:List ay):Bool:=
 bif (eE l cs w n).2==0 then
  decide ((eE l cs w n).1.lists.length=l.length)&&(decide (1<=l.length)&&(BJ (eE l cs w n).1.lK (eE l cs w n).1.lists &&
   bif (gB c ((eE l cs w n).1.lK.getD 0 []) (eD l)).2==0 then KQ (gB c ((eE l cs w n).1.lK.getD 0 []) (eD l)).1&&decide ((gB c ((eE l cs w n).1.lK.getD 0 []) (eD l)).1.length=((eE l cs w n).1.lK.getD 0 []).length)
   else (gB c ((eE l cs w n).1.lK.getD 0 []) (eD l)).1.length==0))
 else (eE l cs w n).1.lists.length==0
namespace M
section
variable (l:List Std) (c:List ay) (bd:List Int) (ss:List (List aK)) (ls:List bH) (st:List bu) (sn:List aR) (i:Nat)
def Bt:St:=⟨[(69,vI i),(68,vI ls.length),(67, .sl (ls.map cd)),(11, .ptr 11 0 0),(4, .sl (c.map aq)),(0, .sl (l.map aE))],[(11,⟨true,0,0,[[.sl (bd.map eI), .sl (ss.map b8), .sl (ls.map cd), .sl (st.map bO), .sl (sn.map bg)]]⟩)]⟩
def Bu (a:(List Std)×(List ay)×(List Int)×(List (List aK))×(List bH)×(List bu)×(List aR)×Nat):St:=Bt a.1 a.2.1 a.2.2.1 a.2.2.2.1 a.2.2.2.2.1 a.2.2.2.2.2.1 a.2.2.2.2.2.2.1 a.2.2.2.2.2.2.2
theorem aDE a a' (h:Bu a=Bu a'):a=a':=by
 simp only[Bu,Bt]at h
 try simp[cY,pv,GP,oJ,iN,dT,gT]at h
 grind
theorem aDF: ac Bu (St.mk [(69,(vI (0:Int))),(68,(vI (↑(ae ls):Int))),(67,AV.sl (ab cd ls)),(11, .ptr 11 0 0),(4,AV.sl (ab aq c)),(0,AV.sl (ab
 aE l))] [(11,ah.mk true 0 0 [[AV.sl (ab eI bd),AV.sl (ab b8 ss),AV.sl (ab cd ls),AV.sl (ab bO st),AV.sl (ab bg sn)]])])=some (l,c,bd,ss,ls,st,sn,0):=ax aDE (l,c,bd,ss,ls,st,sn,0) rfl
def Ue (i:Nat):T (Ex×St):= .ret (.exit 0,⟨[(11, .ptr 11 0 0),(4, .sl (c.map aq)),(0, .sl (l.map aE))],[(11,⟨true,0,0,[[.sl (bd.map eI), .sl (ss.map b8), .sl (ls.map cd), .sl (st.map bO), .sl (sn.map bg)]]⟩)]⟩)
def Uf (l:List Std) (c:List ay) (bd:List Int) (ss:List (List aK)) (ls:List bH) (st:List bu) (sn:List aR) (i:Nat):Bool:=BJ ss ls&&decide (i<=ls.length)
def aDG:Nat×(St->T (Ex×St)):=(7,lpo [69,68,67,11,4,0] [11] Bu (XJ Uf) (XJ Ue))
def Bv (x:bH) (S:List aK) (cl:dQ) (i:Nat) (sum:Int) (k:Nat):St:=⟨[(105,vI k),(104,vI S.length),(103, .sl (S.map bj)),(69,vI i),(68,vI ls.length),(67, .sl (ls.map cd)),(17,vI sum),(15, .ptr 15 0 0),(14, .ptr 14 0 0),(13,vI i),(11, .ptr 11 0 0),(4, .sl (c.map aq)),(0, .sl (l.map aE))],[(15,⟨true,0,0,[lB cl]⟩),(14,⟨true,0,0,[cd x]⟩),(11,⟨true,0,0,[[.sl (bd.map eI), .sl (ss.map b8), .sl (ls.map cd), .sl (st.map bO), .sl (sn.map bg)]]⟩)]⟩
def Bw (a:(List Std)×(List ay)×(List Int)×(List (List aK))×(List bH)×(List bu)×(List aR)×bH×(List aK)×dQ×Nat×Int×Nat):St:=Bv a.1 a.2.1 a.2.2.1 a.2.2.2.1 a.2.2.2.2.1 a.2.2.2.2.2.1 a.2.2.2.2.2.2.1 a.2.2.2.2.2.2.2.1 a.2.2.2.2.2.2.2.2.1 a.2.2.2.2.2.2.2.2.2.1 a.2.2.2.2.2.2.2.2.2.2.1 a.2.2.2.2.2.2.2.2.2.2.2.1 a.2.2.2.2.2.2.2.2.2.2.2.2
theorem aDH a a' (h:Bw a=Bw a'):a=a':=by
 simp only[Bw,Bv]at h
 try simp[cY,pv,jW,GP,nT,GS,oJ,iN,dT,gT]at h
 grind
theorem aDI (x:bH) (S:List aK) (cl:dQ) (i:Nat)  : ac Bw (St.mk [(105,(vI (0:Int))),(104,(vI (↑(ae S):Int))),(103,AV.sl (ab bj S)),(69,(vI (↑i:Int))),(68,(vI (↑(ae ls):Int))),(67,AV.sl
 (ab cd ls)),(17,(vI (0:Int))),(15, .ptr 15 0 0),(14, .ptr 14 0 0),(13,(vI (↑i:Int))),(11, .ptr 11 0 0),(4,AV.sl (ab aq c)),(0,AV.sl
 (ab aE l))] [(15,ah.mk true 0 0 [[(vB cl.begun),(vI cl.next),(vI cl.last.target),(vI cl.last.first),(vI cl.last.breaks),AV.sl (ab bm
 cl.last.entries),(vB cl.last.ended),AV.sl (ab cw cl.queue),(vI cl.lost)]]),(14,ah.mk true 0 0 [[(vI x.target),(vI x.first),(vI x.breaks),AV.sl (ab
 bm x.entries),(vB x.ended)]]),(11,ah.mk true 0 0 [[AV.sl (ab eI bd),AV.sl (ab b8 ss),AV.sl (ab cd ls),AV.sl (ab bO st),AV.sl
 (ab bg sn)]])])=some (l,c,bd,ss,ls,st,sn,x,S,cl,i,0,0):=ax aDH (l,c,bd,ss,ls,st,sn,x,S,cl,i,0,0) rfl
def Kn (x:bH) (S:List aK) (cl:dQ) (i:Nat) (sum:Int) (k:Nat):T (Ex×St):= .ret (.exit 2,⟨[(69,vI i),(68,vI ls.length),(67, .sl (ls.map cd)),(17,vI (qc sum (x.entries.drop k))),(14, .ptr 14 0 0),(13,vI i),(11, .ptr 11 0 0),(4, .sl (c.map aq)),(0, .sl (l.map aE))],[(14,⟨true,0,0,[cd x]⟩),(11,⟨true,0,0,[[.sl (bd.map eI), .sl (ss.map b8), .sl (ls.map cd), .sl (st.map bO), .sl (sn.map bg)]]⟩)]⟩)
def Ug (l:List Std) (c:List ay) (bd:List Int) (ss:List (List aK)) (ls:List bH) (st:List bu) (sn:List aR) (x:bH) (S:List aK) (cl:dQ) (i:Nat) (sum:Int) (k:Nat):Bool:=Fp x S cl k
def aDJ:Nat×(St->T (Ex×St)):=(14,lpo [105,104,103,69,68,67,17,15,14,13,11,4,0] [15,14,11] Bw (fun a=>Ug a.1 a.2.1 a.2.2.1 a.2.2.2.1 a.2.2.2.2.1 a.2.2.2.2.2.1 a.2.2.2.2.2.2.1 a.2.2.2.2.2.2.2.1 a.2.2.2.2.2.2.2.2.1 a.2.2.2.2.2.2.2.2.2.1 a.2.2.2.2.2.2.2.2.2.2.1 a.2.2.2.2.2.2.2.2.2.2.2.1 a.2.2.2.2.2.2.2.2.2.2.2.2) fun a=>Kn a.1 a.2.1 a.2.2.1 a.2.2.2.1 a.2.2.2.2.1 a.2.2.2.2.2.1 a.2.2.2.2.2.2.1 a.2.2.2.2.2.2.2.1 a.2.2.2.2.2.2.2.2.1 a.2.2.2.2.2.2.2.2.2.1 a.2.2.2.2.2.2.2.2.2.2.1 a.2.2.2.2.2.2.2.2.2.2.2.1 a.2.2.2.2.2.2.2.2.2.2.2.2)
def Bx (ts:List ByteArray) (bd:List Int) (ss:List (List aK)) (ls:List bH) (st:List bu) (sn:List aR) (k:Nat):St:=⟨[(164,vI k),(163,vI ts.length),(162, .sl (ts.map aC)),(25, .sl (ts.map aC)),(11, .ptr 11 0 0)],[(11,⟨true,0,0,[[.sl (bd.map eI), .sl (ss.map b8), .sl (ls.map cd), .sl (st.map bO), .sl (sn.map bg)]]⟩)]⟩
def By (a:(List ByteArray)×(List Int)×(List (List aK))×(List bH)×(List bu)×(List aR)×Nat):St:=Bx a.1 a.2.1 a.2.2.1 a.2.2.2.1 a.2.2.2.2.1 a.2.2.2.2.2.1 a.2.2.2.2.2.2
theorem aDK a a' (h:By a=By a'):a=a':=by
 simp only[By,Bx]at h
 try simp[iL,cY,pv,GP,oJ,iN]at h
 grind
theorem aDL (ts:List ByteArray) (bd:List Int) (ss:List (List aK)) (ls:List bH) (st:List bu) (sn:List aR)  : ac By (St.mk [(164,(vI (0:Int))),(163,(vI (↑(ae ts):Int))),(162,AV.sl (ab aC ts)),(25,AV.sl (ab aC ts)),(11, .ptr 11 0 0)] [(11,ah.mk true
 0 0 [[AV.sl (ab eI bd),AV.sl (ab b8 ss),AV.sl (ab cd ls),AV.sl (ab bO st),AV.sl (ab bg sn)]])])=some (ts,bd,ss,ls,st,sn,0):=ax aDK (ts,bd,ss,ls,st,sn,0) rfl
def Uh (ts:List ByteArray) (bd:List Int) (ss:List (List aK)) (ls:List bH) (st:List bu) (sn:List aR) (k:Nat):T (Ex×St):= .ret (.exit 4,⟨[(25, .sl (ts.map aC)),(11, .ptr 11 0 0)],[(11,⟨true,0,0,[[.sl (bd.map eI), .sl (ss.map b8), .sl (ls.map cd), .sl (st.map bO), .sl (sn.map bg)]]⟩)]⟩)
def Ui (ts:List ByteArray) (bd:List Int) (ss:List (List aK)) (ls:List bH) (st:List bu) (sn:List aR) (k:Nat):Bool:=KQ ts&&decide (ts.length<=9223372036854775807)&&decide (k<=ts.length)
def aDM:Nat×(St->T (Ex×St)):=(29,lpo [164,163,162,25,11] [11] By (G6 Ui) (G6 Uh))
def qa:Env:=bq ty au bp [ac8,afg,adE,adt,adj,oSb,aeD] [] [] [aDG,aDJ,aDM]
theorem aDN:aZ Tryz.prog qa:=bG (aI ayZ (aI aDn (aI aAd (aI azE (aI azo (aI aDA (aI aCd bF)))))))
theorem afq (ts:List ByteArray) (bd:List Int) (ss:List (List aK)) (ls:List bH) (st:List bu) (sn:List aR) (k:Nat):((exec qa (aw Tryz.f3 2) (Bx ts bd ss ls st sn k)).bind (bE ([164,163,162,25,11],[11]) ([25,11],[11]) ([10],[]))).val =
 bif decide ((↑k:Int)<(↑(ae ts):Int)) then ai (ac (ab aC) (ab aC ts)) fun z=>bif decide (k<ae z)
 then ai (ac Bh [(vS (al z k (az (aA []))))]) fun z=>bif F.small z then bif (F.ju z).snd.snd != 0 then some
 (Ex.ret,St.mk [(10,(vB false))] []) else some (Ex.normal,St.mk [(164,(vI (am.wrap ((↑k:Int)+1)))),(163,(vI (↑(ae ts):Int))),
 (162,AV.sl (ab aC ts)),(25,AV.sl (ab aC ts)),(11, .ptr 11 0 0)] [(11,ah.mk true 0 0 [[AV.sl (ab eI bd),AV.sl (ab b8 ss),AV.sl
 (ab cd ls),AV.sl (ab bO st),AV.sl (ab bg sn)]])]) else none else none else some (Ex.exit (4:Nat),St.mk [(25,AV.sl (ab aC ts)),(11,
 .ptr 11 0 0)] [(11,ah.mk true 0 0 [[AV.sl (ab eI bd),AV.sl (ab b8 ss),AV.sl (ab cd ls),AV.sl (ab bO st),AV.sl (ab bg
 sn)]])]):=by kernel_rfl
theorem aDO (ts:List ByteArray) (bd:List Int) (ss:List (List aK)) (ls:List bH) (st:List bu) (sn:List aR) (k:Nat) (hp:Ui ts bd ss ls st sn k=true) : ∀ex s',(Uh ts bd ss ls st sn k).val=some (ex,s')->ba qa (aw Tryz.f3 2) (Bx ts bd ss ls st sn k) ex s':=by
 simp only[Ui,aG,aM]at hp
 obtain⟨⟨h1,h2⟩,h3⟩:=hp
 refine cE (st:=fun k:Nat=>Bx ts bd ss ls st sn k) (out:=fun k=>Uh ts bd ss ls st sn k) (I:=fun k=>k<=ts.length) (n:=([164,163,162,25,11],[11])) (e:=([25,11],[11])) (r:=([10],[])) (fun k=>ts.length - k) ?_ k h3
 clear h3
 intro k hk
 by_cases hlt:k<ts.length
 .obtain⟨s,hs⟩ : ∃s,ts[k]? = some s:=⟨ts[k],bC hlt⟩
  have hr:=bP.1 h1 s (cL hs)
  simp only[aG,beq_iff_eq]at hr
  right
  refine⟨k+1,?_,rfl,hlt,by omega,rfl⟩
  rw[afq]
  simp only[aCc,ar,jV,ak,ap,bA hlt,aj hlt,ch hlt h2,getD_at hs,Bx,hr.1,hr.2,bne_self_eq_false]
  try rfl
 .have:k=ts.length:=by omega
  subst this
  left
  refine⟨_,?_,rfl,by simp,rfl⟩
  rw[afq];simp
theorem afr (x:bH) (S:List aK) (cl:dQ) (i:Nat) (sum:Int) (k:Nat):((exec qa (aw Tryz.f3 1) (Bv l c bd ss ls st sn x S cl i sum k)).bind (bE ([105,104,103,69,68,67,17,15,14,13,11,4,0],[15,14,11]) ([69,68,67,17,14,13,11,4,0],[14,11]) ([10],[]))).val =
 (fun(q:AV)=>(fun(q_1:List (Nat×AV))=>(fun(q_2:List (Nat×ah))=>bif decide ((↑k:Int)<(↑(ae S):Int)) then ai (ac (ab
 bj) (ab bj S)) fun z=>bif decide (k<ae z) then ai (ac AF [AV.agg [(vB cl.begun),(vI cl.next),(vI cl.last.target),(vI
 cl.last.first),(vI cl.last.breaks),AV.sl (ab bm cl.last.entries),(vB cl.last.ended),AV.sl (ab cw cl.queue),(vI cl.lost)]]) fun z_1=>bif
 Ku z_1 then bif bif (jA z_1).snd.snd != 0 then true else (jA z_1).snd.fst.number != (al z k (aK.mk (0:Int) (0:Int) (0:Int) (0:Int) (0 :
 Int) (0:Int) (0:Int))).number then some (Ex.ret,St.mk [(10,(vB false))] []) else some (Ex.normal,St.mk ((105,(vI (am.wrap ((↑k:Int)+1))))::(104,(vI (↑(ae S):Int)))::(103,AV.sl (ab bj S))::(69,q)::(68,(vI (↑(ae ls):Int)))::(67,AV.sl (ab cd ls)) ::
 (17,(vI (am.wrap (sum+(jA z_1).snd.fst.entry.eK))))::(15, .ptr 15 0 0)::q_1) ((15,ah.mk true 0 0 [[(vB (jA z_1).fst.begun),(vI
 (jA z_1).fst.next),(vI (jA z_1).fst.last.target),(vI (jA z_1).fst.last.first),(vI (jA z_1).fst.last.breaks),AV.sl (ab bm (jA
 z_1).fst.last.entries),(vB (jA z_1).fst.last.ended),AV.sl (ab cw (jA z_1).fst.queue),(vI (jA z_1).fst.lost)]])::q_2)) else none else none else
 some (Ex.exit (2:Nat),St.mk ((69,q)::(68,(vI (↑(ae ls):Int)))::(67,AV.sl (ab cd ls))::(17,(vI sum))::q_1) q_2)) [(14,ah.mk true 0 0
 [[(vI x.target),(vI x.first),(vI x.breaks),AV.sl (ab bm x.entries),(vB x.ended)]]),(11,ah.mk true 0 0 [[AV.sl (ab eI bd),AV.sl (ab b8 ss),
 AV.sl (ab cd ls),AV.sl (ab bO st),AV.sl (ab bg sn)]])]) [(14, .ptr 14 0 0),(13,q),(11, .ptr 11 0 0),(4,AV.sl (ab aq c)),(0,AV.sl
 (ab aE l))]) ((vI (↑i:Int))):=by kernel_rfl
theorem aDP (l:List Std) (c:List ay) (bd:List Int) (ss:List (List aK)) (ls:List bH) (st:List bu) (sn:List aR) (x:bH) (S:List aK) (cl:dQ) (i:Nat) (sum:Int) (k:Nat) (hp:Ug l c bd ss ls st sn x S cl i sum k=true) : ∀ex s',(Kn l c bd ss ls st sn x S cl i sum k).val=some (ex,s')->ba qa (aw Tryz.f3 1) (Bv l c bd ss ls st sn x S cl i sum k) ex s':=by
 simp only[Ug]at hp
 obtain⟨⟨h1,h0,h2,h3,h4⟩,rfl,hk⟩:=afF.1 hp
 refine cE (st:=fun a:Int×Nat=>Bv l c bd ss ls st sn x S (ki x a.2) i a.1 a.2) (out:=fun a=>Kn l c bd ss ls st sn x S (ki x a.2) i a.1 a.2) (I:=fun a=>a.2<=S.length) (n:=([105,104,103,69,68,67,17,15,14,13,11,4,0],[15,14,11])) (e:=([69,68,67,17,14,13,11,4,0],[14,11])) (r:=([10],[])) (fun a=>S.length - a.2) ?_ (sum,k) hk
 clear hk hp
 rintro⟨sum,k⟩ hk
 simp only at hk
 have hl1:=(vA h1).1
 by_cases hlt:k<S.length
 .obtain⟨s,hs⟩ : ∃s,S[k]? = some s:=⟨S[k],bC hlt⟩
  obtain⟨e,he⟩ : ∃e,x.entries[k]? = some e:=⟨x.entries[k]'(by omega),bC (by omega)⟩
  have hd:x.entries.drop k=e::x.entries.drop (k+1):=by
   have hj:=cy he
   rw[bC hj]at he
   rw[pe hj,jC he]
  have hP:=aEV h1 he
  have hn:=h4 k s hs
  have hr:=aEA h1 k
  right
  refine⟨(am.wrap (sum+e.eK),k+1),?_,rfl,hlt,by simp only;omega,?_⟩
  .rw[afr]
   simp only[adr,MR,ar,jh,ak,ap,bA hlt,aj hlt,ch hlt (by omega:S.length<=9223372036854775807),getD_at hs,Bv,hr,hP,hn,bne_self_eq_false]
   try rfl
  .simp only[Kn,hd]
   rfl
 .have:k=S.length:=by omega
  subst this
  left
  refine⟨_,?_,rfl,by simp,rfl⟩
  have hd:x.entries.drop S.length=[]:=by rw[<-h2,mA]
  rw[afr]
  simp only[adr,MR,ar,jh,ap,gJ,hd]
  try rfl
theorem afs:((exec qa (aw Tryz.f3 0) (Bt l c bd ss ls st sn i)).bind (bE ([69,68,67,11,4,0],[11]) ([11,4,0],[11]) ([10],[]))).val =
 (fun(q:bH)=>(fun(q_1:Option (Ex×St))=>(fun(q_2:List (Nat×AV))=>(fun(q_3:List (Nat×ah))=>bif decide ((↑i:Int)<(↑(ae ls):Int))
 then ai (ac (ab cd) (ab cd ls)) fun z=>(fun(q:List AV)=>bif decide (i<ae z) then ai (ac AK
 [AV.agg [(vB false),(vI 0),(vI 0),(vI 0),(vI 0),AV.sl [],(vB false),AV.sl [],(vI 0)],AV.agg q,(vI 0)]) fun(z :
 bH)=>(fun(q_4:Bool)=>bif z.ended then bif q_4 then ai (ac (ab b8) (ab b8 ss)) fun z_1=>bif decide (i <
 ae z_1) then bif bif bif (iT z).snd != 0 then true else (↑(ae (ab cw (iT z).fst.queue)):Int) != (↑(ae (ab bj
 (al z_1 i []))):Int) then true else (iT z).fst.lost != 0 then q_1 else ai (ac (ab b8) (ab b8 ss)) fun z_2=>bif decide (i<ae z_2) then ai (ac Bw (St.mk ((105,(vI 0))::(104,(vI (↑(ae (ab bj (al z_2 i
 []))):Int)))::(103,AV.sl (ab bj (al z_2 i [])))::(69,(vI (↑i:Int)))::(68,(vI (↑(ae ls):Int)))::(67,AV.sl (ab cd ls)) ::
 (17,(vI 0))::(15, .ptr 15 0 0)::(14, .ptr 14 0 0)::(13,(vI (↑i:Int)))::q_2) ((15,ah.mk true 0 0 [[(vB (iT z).fst.begun),(vI (iT
 z).fst.next),(vI (iT z).fst.last.target),(vI (iT z).fst.last.first),(vI (iT z).fst.last.breaks),AV.sl (ab bm (iT z).fst.last.entries),(vB
 (iT z).fst.last.ended),AV.sl (ab cw (iT z).fst.queue),(vI (iT z).fst.lost)]])::(14,ah.mk true 0 0 [q])::q_3))) fun z=>(fun(q:bH)=>(fun(q_5:Int×Nat)=>bif Fp q
 z.2.2.2.2.2.2.2.2.1 z.2.2.2.2.2.2.2.2.2.1 q_5.snd&&true then ai (ac AC [AV.agg [(vI q.target),(vI q.first),(vI
 q.breaks),AV.sl (ab bm q.entries),(vB q.ended)]]) fun z_3=>bif bif (F.length z_3).snd != 0 then true else (F.length z_3).fst != qc q_5.fst
 (bn q_5.snd q.entries) then q_1 else some (Ex.normal,St.mk [(69,(vI (am.wrap ((↑z.2.2.2.2.2.2.2.2.2.2.1:Int)+1)))),(68,(vI (↑(ae z.2.2.2.2.1):Int))),(67,AV.sl (ab cd z.2.2.2.2.1)),(11, .ptr 11 0 0),(4,AV.sl (ab aq
 z.2.1)),(0,AV.sl (ab aE z.1))] [(11,ah.mk true 0 0 [[AV.sl (ab eI z.2.2.1),AV.sl (ab b8 z.2.2.2.1),AV.sl (ab cd
 z.2.2.2.2.1),AV.sl (ab bO z.2.2.2.2.2.1),AV.sl (ab bg z.2.2.2.2.2.2.1)]])]) else none)
 z.2.2.2.2.2.2.2.2.2.2.2) z.2.2.2.2.2.2.2.1 else none else none else bif q_4 then none else bif q_4 then none else bif q_4 then none
 else q_1 else none) !(iT z).snd != 0 else none) [(vI (al z i q).target),(vI (al z i q).first),(vI (al z i q).breaks),AV.sl (ab
 bm (al z i q).entries),(vB (al z i q).ended)] else some (Ex.exit (0:Nat),St.mk q_2 q_3)) [(11,ah.mk true 0 0 [[AV.sl (ab eI bd),AV.sl
 (ab b8 ss),AV.sl (ab cd ls),AV.sl (ab bO st),AV.sl (ab bg sn)]])]) [(11, .ptr 11 0 0),(4,AV.sl (ab aq c)),(0,AV.sl
 (ab aE l))]) (some (Ex.ret,St.mk [(10,(vB false))] []))) (bH.mk (0:Int) (0:Int) (0:Int) [] false):=by kernel_rfl
theorem aDQ (l:List Std) (c:List ay) (bd:List Int) (ss:List (List aK)) (ls:List bH) (st:List bu) (sn:List aR) (i:Nat) (hp:Uf l c bd ss ls st sn i=true) : ∀ex s',(Ue l c bd ss ls st sn i).val=some (ex,s')->ba qa (aw Tryz.f3 0) (Bt l c bd ss ls st sn i) ex s':=by
 simp only[Uf,aG,aM]at hp
 obtain⟨h1,h2⟩:=hp
 obtain⟨t1,t2,t3⟩:=Uu.1 h1
 refine cE (st:=fun i:Nat=>Bt l c bd ss ls st sn i) (out:=fun i=>Ue l c bd ss ls st sn i) (I:=fun i=>i<=ls.length) (n:=([69,68,67,11,4,0],[11])) (e:=([11,4,0],[11])) (r:=([10],[])) (fun i=>ls.length - i) ?_ i h2
 clear h2
 intro i h2
 by_cases hlt:i<ls.length
 .have hlt2:i<ss.length:=by omega
  obtain⟨x,hx⟩ : ∃x,ls[i]? = some x:=⟨ls[i],bC hlt⟩
  obtain⟨S,hS⟩ : ∃S,ss[i]? = some S:=⟨ss[i],bC hlt2⟩
  have hply:=t3 i x S hx hS
  obtain⟨c1,c2,c3,c4,c5⟩:=hply
  have hne:x.entries≠[]:=fun h=>c4 (sI (by rw[<-c3,h];rfl))
  have hld:=aFv c1 hne
  have hpc:Fp x S (ki x 0) 0=true:=afF.2 ⟨⟨c1,c2,c3,c4,c5⟩,rfl,cf _⟩
  have hq:(ki x 0).queue.length=S.length:=by simp only[ki,df,KS,c3]
  have hl:(ki x 0).lost=0:=rfl
  have hln:F.length x=(qc 0 x.entries,0):=by simp[F.length,c1]
  right
  refine⟨i+1,?_,rfl,hlt,by omega,rfl⟩
  rw[afs]
  simp only[aAc,azm,aDI,MQ,ar,aN,tz,ajf,ak,ap,aS,bA hlt,aj hlt,ch hlt (by omega:ls.length<=9223372036854775807),getD_at hx,getD_at hS,aj hlt2,Bt,c2,hld,hq,hl,hln,hpc,df,bne_self_eq_false]
  try rfl
 .have:i=ls.length:=by omega
  subst this
  left
  refine⟨_,?_,rfl,by simp,rfl⟩
  rw[afs];simp
theorem aDR (cs:List cv) (w:b9) (n:Int) (c:List ay):(aB qa false Tryz.f3 [.sl (l.map aE), .sl (cs.map cp), .agg (gU w),vI n, .sl (c.map aq)]).val =
 (fun(q:Int)=>ai (ac Aw [AV.sl (ab aE l),AV.sl (ab cp cs),AV.agg [(vI w.aU),(vI w.target),(vI w.gv)],(vI n)]) fun z=>(fun(q_1:Et)=>(fun(q_2:AV)=>(fun(q_3:Int)=>(fun(q_4:Bool)=>(fun(q:Bool)=>(fun(q_5:Bool)=>bif (eE z.1
 z.2.1 z.2.2.1 z.2.2.2).snd != 0 then bif q_4 then ai (ac Bo []) fun z=>some ((vB (bif q_4 then true else false)),[])
 else some ((vB false),[]) else bif q_5 then ai (ac Bo []) fun z=>bif bif q then true else false then some ((vB false),[]) else ai
 (ac Bu (St.mk [(69,(vI 0)),(68,(vI q_3)),(67,q_2),(11, .ptr 11 0 0),(4,AV.sl (ab aq c)),(0,AV.sl (ab aE l))] [(11,ah.mk true 0 0
 [[AV.sl (ab eI q_1.bounds),AV.sl (ab b8 q_1.lK),q_2,AV.sl (ab bO q_1.Kd.streams),AV.sl (ab bg q_1.Kd.cG)]])])) fun z=>bif BJ z.2.2.2.1 z.2.2.2.2.1&&decide
 (z.2.2.2.2.2.2.2<=ae z.2.2.2.2.1)&&true then ai (ac (ab b8) (ab b8 z.2.2.2.1)) fun(z_1 :
 List (List aK))=>bif decide ((0:Nat)<ae z_1) then ai (ac (ab aE) (ab aE z.1)) fun z_2=>bif decide ((0:Nat) <
 ae z_2) then ai (ac Bs [AV.sl (ab aq z.2.1),AV.sl (ab bj (al z_1 (0:Nat) [])),(vI (al z_2 (0:Nat) (Std.mk
 (az (aA [])) (0:Int) false [])).aU)]) fun z_3=>(fun(q:List (List AV))=>(fun(q_6:Int)=>bif F.gh z_3.1 &&
 decide (ae z_3.2.1<=1048576) then bif (gB z_3.1 z_3.2.1 z_3.2.2).snd != 0 then some ((vB (q_6==0)),[]) else
 ai (ac By (St.mk [(164,(vI 0)),(163,(vI q_6)),(162,AV.sl q),(25,AV.sl q),(11, .ptr 11 0 0)] [(11,ah.mk true 0 0 [[AV.sl (ab eI
 z.2.2.1),AV.sl (ab b8 z.2.2.2.1),AV.sl (ab cd z.2.2.2.2.1),AV.sl (ab bO z.2.2.2.2.2.1),AV.sl (ab
 bg z.2.2.2.2.2.2.1)]])])) fun z=>bif KQ z.1&&decide
 (ae z.1<=9223372036854775807)&&decide (z.2.2.2.2.2.2<=ae z.1)&&true then ai (ac (ab b8) (ab
 b8 z.2.2.1)) fun z_4=>bif decide ((0:Nat)<ae z_4) then some ((vB ((↑(ae (ab aC z.1)):Int) ==
 (↑(ae (ab bj (al z_4 (0:Nat) []))):Int))),[]) else none else none else none) (↑(ae q):Int)) (ab aC (gB z_3.1
 z_3.2.1 z_3.2.2).fst) else none else none else none else bif q_5 then none else some ((vB false),[])) !q) (bif q_3 != q then true else (↑(ae (ab
 b8 q_1.lK)):Int) != q)) (q_3==0)) (↑(ae (ab cd q_1.lists)):Int)) (AV.sl (ab cd q_1.lists))) (eE z.1 z.2.1
 z.2.2.1 z.2.2.2).fst) (↑(ae (ab aE l)):Int):=by kernel_rfl
def Ko (cs:List cv) (w:b9) (n:Int) (c:List ay):List AV:=[.sl (l.map aE), .sl (cs.map cp), .agg (gU w),vI n, .sl (c.map aq)]
def Kp (a:(List Std)×(List cv)×b9×Int×(List ay)):List AV:=Ko a.1 a.2.1 a.2.2.1 a.2.2.2.1 a.2.2.2.2
theorem aDS a a' (h:Kp a=Kp a'):a=a':=by
 simp only[Kp,Ko]at h
 try simp[dT,gT,nU,pw]at h
 grind
def Uj (l:List Std) (cs:List cv) (w:b9) (n:Int) (c:List ay):AV×Heap:=(vB true,[])
def Uk (cs:List cv) (w:b9) (n:Int) (c:List ay):Bool:=F.gh c&&Ft l cs w n c
end
def oTP:aW:=aY 3 false Kp (fa Uk) (fa Uj)
theorem aDU:aX Tryz.prog au oTP:=by
 refine cQ Tryz.f3 aDN (MK (x0:=aw Tryz.f3 0) (x1:=aw Tryz.f3 1) (x2:=aw Tryz.f3 2) (by kernel_rfl) (bS ?_) (bS ?_) (bS ?_)) ?_
 .rintro⟨l,c,bd,ss,ls,st,sn,i⟩ hp
  exact aDQ l c bd ss ls st sn i hp
 .rintro⟨l,c,bd,ss,ls,st,sn,x,S,cl,i,sum,k⟩ hp
  exact aDP l c bd ss ls st sn x S cl i sum k hp
 .rintro⟨ts,bd,ss,ls,st,sn,k⟩ hp
  exact aDO ts bd ss ls st sn k hp
 rintro⟨l,cs,w,n,c⟩ hpre hok
 show(aB qa false _ (Ko _ _ _ _ _)).val=some (Uj _ _ _ _ _)
 unfold Ko Uj
 rw[aDR]
 simp only[Uk,fa,aG]at hpre
 obtain⟨iu,hpre⟩:=hpre
 simp only[aDl,aDz,ayX,aDF,aDL,px,ar,aN,tz,gK,aS,fM,iu]
 unfold Ft at hpre
 have hb:((eE l cs w n).2 != 0) = !((eE l cs w n).2==0):=rfl
 rw[hb]
 cases h:(eE l cs w n).2==0 with
 | false=>
  rw[h]at hpre
  simp only[ap,beq_iff_eq]at hpre
  rw[hpre]
  rfl
 | true=>
  rw[h]at hpre
  simp only[ak,aG,aM]at hpre
  obtain⟨p1,p2,p3,p4⟩:=hpre
  obtain⟨t1,t2,t3⟩:=Uu.1 p3
  have hk:eD l=(l.getD 0 ⟨⟨#[]⟩,0,false,[]⟩).aU:=rfl
  rw[hk]at p4
  generalize (l.getD 0 ⟨⟨#[]⟩,0,false,[]⟩).aU=sc at p4 ⊢
  generalize (eE l cs w n).1.lK=ss at *
  generalize (eE l cs w n).1.lists=ls at *
  have e1:((ls.length:Int) != (l.length:Int))=false:=by rw[p1];exact bne_self_eq_false _
  have e2:((ss.length:Int) != (l.length:Int))=false:=by rw[t1,p1];exact bne_self_eq_false _
  have h0:0<ss.length:=by omega
  have hl0:0<l.length:=by omega
  have hq:(ss.getD 0 []).length<=1000:=by
   obtain⟨c1,_,c3,_⟩:=t3 0 _ _ (bC (show 0<ls.length by omega)) (bC h0)
   have:=(vA c1).1
   rw[vL,bC h0]
   simp only[Option.getD_some]
   omega
  generalize ss.getD 0 []=S at *
  simp only[e1,e2,p3,aj h0,aj hl0,aj (show S.length<=1048576 by omega),aj (cf ls.length),aj (cf (gB c S sc).1.length),aS,dC,dt,ak,ap]
  cases hs:(gB c S sc).2==0 with
  | false=>
   have hb2:((gB c S sc).2 != 0)=true:=by rw[bne,hs];rfl
   rw[hs]at p4
   simp only[ap,beq_iff_eq]at p4
   rw[hb2,p4]
   rfl
  | true=>
   have hb2:((gB c S sc).2 != 0)=false:=by rw[bne,hs];rfl
   rw[hs]at p4
   simp only[ak,aG,aM]at p4
   rw[hb2,p4.1,p4.2,aj (show S.length<=9223372036854775807 by omega)]
   simp only[ak,ap,bT,beq_self_eq_true]
end M
theorem aEq (l:List Std) (cs:List cv) (w:b9) (n:Int) (c:List ay):Ft l cs w n c=true:=by
 unfold Ft
 by_cases h:(eE l cs w n).2=0
 .obtain⟨q1,q2,q3,q4,q5⟩:=aES h
  rw[h]
  generalize (eE l cs w n).1.lK=ss at *
  generalize (eE l cs w n).1.lists=ls at *
  have hp:BJ ss ls=true:=Uu.2 ⟨by omega,by omega,q5⟩
  obtain⟨S,hS⟩ : ∃S,ss[0]? = some S:=⟨ss[0]'(by omega),bC _⟩
  obtain⟨x,hx⟩ : ∃x,ls[0]? = some x:=⟨ls[0]'(by omega),bC _⟩
  have hg:ss.getD 0 []=S:=by rw[vL,hS];rfl
  have hne:S≠[]:=(q5 0 x S hx hS).2.2.2.1
  rw[hp,hg,aj q1,aj q3]
  by_cases hs:(gB c S (eD l)).2=0
  .obtain⟨r1,r2⟩:=aEN hs hne
   have hr:KQ (gB c S (eD l)).1=true:=bP.2 fun s hm=>by
    obtain⟨a,b⟩:=r2 s hm
    rw[a,b]
    rfl
   rw[hs,hr,r1]
   simp
  .rw[beq_eq_false_iff_ne.2 hs,aET hs]
   rfl
 .rw[beq_eq_false_iff_ne.2 h,aFe h]
  rfl
end Go.Proofs.YtaobkfpnebbohaaGreatDoor
namespace Go.Proofs.YtaobkfpnebbohaaGreatDoor.M
open Go.ChangeShapes Go.WideShapes Go.ChangeAt Go.RowKit Go.Deep
set_option linter.unusedVariables false
theorem own:ownKnob Tryz.prog.godebug=none:=by kernel_rfl
theorem laidOut:laidOutB Tryz.prog=true:=by kernel_rfl
theorem mr:ji Tryz.prog 3 (cI) (fun _=>True):=(ajv underlying3).small
theorem mu:Tryz.prog.cellsOf 3=1:=by kernel_rfl
theorem afu:ji Tryz.prog 9 (cS) (rn):=ajC underlying9
theorem afv:Tryz.prog.cellsOf 9=1:=by kernel_rfl
theorem aDV:Tryz.prog.bytesOf 9=16:=by kernel_rfl
theorem aDW:Tryz.prog.cellsOf 51=1:=by kernel_rfl
theorem aDX:ji Tryz.prog 51 (oK (cS)) (KU (rn)):=CT underlying51 afv aDV (by decide) (fun _=>rfl) afu
theorem Kq:ji Tryz.prog 4 (cB) (fun _=>True):=(ajw underlying4).small
theorem Kr:Tryz.prog.cellsOf 4=1:=by kernel_rfl
def afw (x:ay):Prop:=(KU (rn)) x.lines
theorem afx:Tryz.prog.cellsOf 129=6:=by kernel_rfl
set_option maxRecDepth 100000 in
theorem aDY:ji Tryz.prog 129 aq afw:=by
 intro H enc w fuel cs d p h hw hbk
 obtain⟨hl,hf⟩:=CU underlying129 h hw hbk
 obtain⟨x0,r0,k0⟩ : ∃x,RL (R0 w (dU w)) ((cI) x) ((cs.drop 0).take (Tryz.prog.cellsOf 3))/\(fun _=>True) x:=hf 0 _ rfl mr
 rw[mu]at r0
 obtain⟨x1,r1,k1⟩ : ∃x,RL (R0 w (dU w)) ((cI) x) ((cs.drop 1).take (Tryz.prog.cellsOf 3))/\(fun _=>True) x:=hf 1 _ rfl mr
 rw[mu]at r1
 obtain⟨x2,r2,k2⟩ : ∃x,RL (R0 w (dU w)) ((oK (cS)) x) ((cs.drop 2).take (Tryz.prog.cellsOf 51))/\(KU (rn)) x:=hf 2 _ rfl aDX
 rw[aDW]at r2
 obtain⟨x3,r3,k3⟩ : ∃x,RL (R0 w (dU w)) ((cI) x) ((cs.drop 3).take (Tryz.prog.cellsOf 3))/\(fun _=>True) x:=hf 3 _ rfl mr
 rw[mu]at r3
 obtain⟨x4,r4,k4⟩ : ∃x,RL (R0 w (dU w)) ((cB) x) ((cs.drop 4).take (Tryz.prog.cellsOf 4))/\(fun _=>True) x:=hf 4 _ rfl Kq
 rw[Kr]at r4
 obtain⟨x5,r5,k5⟩ : ∃x,RL (R0 w (dU w)) ((cB) x) ((cs.drop 5).take (Tryz.prog.cellsOf 4))/\(fun _=>True) x:=hf 5 _ rfl Kq
 rw[Kr]at r5
 rw[afx]at hl
 match cs,hl with
 | [c0,c1,c2,c3,c4,c5],_=>
  refine⟨⟨x0,x1,x2,x3,x4,x5⟩,?_,k2⟩
  show RL (R0 w (dU w)) (((cI) x0)++(((cI) x1)++(((oK (cS)) x2)++(((cI) x3)++(((cB) x4)++(((cB) x5))))))) ([c0]++([c1]++([c2]++([c3]++([c4]++([c5]))))))
  exact RL.append r0 (RL.append r1 (RL.append r2 (RL.append r3 (RL.append r4 (r5)))))
def Ks (x:bI):Prop:=True
theorem afy:Tryz.prog.cellsOf 214=5:=by kernel_rfl
set_option maxRecDepth 100000 in
theorem aDZ:ji Tryz.prog 214 aQ Ks:=by
 intro H enc w fuel cs d p h hw hbk
 obtain⟨hl,hf⟩:=CU underlying214 h hw hbk
 obtain⟨x0,r0,k0⟩ : ∃x,RL (R0 w (dU w)) ((cI) x) ((cs.drop 0).take (Tryz.prog.cellsOf 3))/\(fun _=>True) x:=hf 0 _ rfl mr
 rw[mu]at r0
 obtain⟨x1,r1,k1⟩ : ∃x,RL (R0 w (dU w)) ((cI) x) ((cs.drop 1).take (Tryz.prog.cellsOf 3))/\(fun _=>True) x:=hf 1 _ rfl mr
 rw[mu]at r1
 obtain⟨x2,r2,k2⟩ : ∃x,RL (R0 w (dU w)) ((cI) x) ((cs.drop 2).take (Tryz.prog.cellsOf 3))/\(fun _=>True) x:=hf 2 _ rfl mr
 rw[mu]at r2
 obtain⟨x3,r3,k3⟩ : ∃x,RL (R0 w (dU w)) ((cI) x) ((cs.drop 3).take (Tryz.prog.cellsOf 3))/\(fun _=>True) x:=hf 3 _ rfl mr
 rw[mu]at r3
 obtain⟨x4,r4,k4⟩ : ∃x,RL (R0 w (dU w)) ((cB) x) ((cs.drop 4).take (Tryz.prog.cellsOf 4))/\(fun _=>True) x:=hf 4 _ rfl Kq
 rw[Kr]at r4
 rw[afy]at hl
 match cs,hl with
 | [c0,c1,c2,c3,c4],_=>
  refine⟨⟨x0,x1,x2,x3,x4⟩,?_,trivial⟩
  show RL (R0 w (dU w)) (((cI) x0)++(((cI) x1)++(((cI) x2)++(((cI) x3)++(((cB) x4)))))) ([c0]++([c1]++([c2]++([c3]++([c4])))))
  exact RL.append r0 (RL.append r1 (RL.append r2 (RL.append r3 (r4))))
theorem aD0:Tryz.prog.bytesOf 214=40:=by kernel_rfl
theorem aD1:Tryz.prog.cellsOf 62=1:=by kernel_rfl
theorem aD2:ji Tryz.prog 62 (oK (aQ)) (KU (Ks)):=CT underlying62 afy aD0 (by decide) (fun _=>rfl) aDZ
def afz (x:Std):Prop:=(rn) x.name/\(KU (Ks)) x.aL
theorem afA:Tryz.prog.cellsOf 64=4:=by kernel_rfl
set_option maxRecDepth 100000 in
theorem aD3:ji Tryz.prog 64 aE afz:=by
 intro H enc w fuel cs d p h hw hbk
 obtain⟨hl,hf⟩:=CU underlying64 h hw hbk
 obtain⟨x0,r0,k0⟩ : ∃x,RL (R0 w (dU w)) ((cS) x) ((cs.drop 0).take (Tryz.prog.cellsOf 9))/\(rn) x:=hf 0 _ rfl afu
 rw[afv]at r0
 obtain⟨x1,r1,k1⟩ : ∃x,RL (R0 w (dU w)) ((cI) x) ((cs.drop 1).take (Tryz.prog.cellsOf 3))/\(fun _=>True) x:=hf 1 _ rfl mr
 rw[mu]at r1
 obtain⟨x2,r2,k2⟩ : ∃x,RL (R0 w (dU w)) ((cB) x) ((cs.drop 2).take (Tryz.prog.cellsOf 4))/\(fun _=>True) x:=hf 2 _ rfl Kq
 rw[Kr]at r2
 obtain⟨x3,r3,k3⟩ : ∃x,RL (R0 w (dU w)) ((oK (aQ)) x) ((cs.drop 3).take (Tryz.prog.cellsOf 62))/\(KU (Ks)) x:=hf 3 _ rfl aD2
 rw[aD1]at r3
 rw[afA]at hl
 match cs,hl with
 | [c0,c1,c2,c3],_=>
  refine⟨⟨x0,x1,x2,x3⟩,?_,k0,k3⟩
  show RL (R0 w (dU w)) (((cS) x0)++(((cI) x1)++(((cB) x2)++(((oK (aQ)) x3))))) ([c0]++([c1]++([c2]++([c3]))))
  exact RL.append r0 (RL.append r1 (RL.append r2 (r3)))
def afB (x:cv):Prop:=True
theorem afC:Tryz.prog.cellsOf 103=2:=by kernel_rfl
set_option maxRecDepth 100000 in
theorem aD4:ji Tryz.prog 103 cp afB:=by
 intro H enc w fuel cs d p h hw hbk
 obtain⟨hl,hf⟩:=CU underlying103 h hw hbk
 obtain⟨x0,r0,k0⟩ : ∃x,RL (R0 w (dU w)) ((cI) x) ((cs.drop 0).take (Tryz.prog.cellsOf 3))/\(fun _=>True) x:=hf 0 _ rfl mr
 rw[mu]at r0
 obtain⟨x1,r1,k1⟩ : ∃x,RL (R0 w (dU w)) ((cI) x) ((cs.drop 1).take (Tryz.prog.cellsOf 3))/\(fun _=>True) x:=hf 1 _ rfl mr
 rw[mu]at r1
 rw[afC]at hl
 match cs,hl with
 | [c0,c1],_=>
  refine⟨⟨x0,x1⟩,?_,trivial⟩
  show RL (R0 w (dU w)) (((cI) x0)++(((cI) x1))) ([c0]++([c1]))
  exact RL.append r0 (r1)
def aD5 (x:b9):Prop:=True
theorem aD6:Tryz.prog.cellsOf 25=3:=by kernel_rfl
set_option maxRecDepth 100000 in
theorem aD7:ji Tryz.prog 25 gU aD5:=by
 intro H enc w fuel cs d p h hw hbk
 obtain⟨hl,hf⟩:=CU underlying25 h hw hbk
 obtain⟨x0,r0,k0⟩ : ∃x,RL (R0 w (dU w)) ((cI) x) ((cs.drop 0).take (Tryz.prog.cellsOf 3))/\(fun _=>True) x:=hf 0 _ rfl mr
 rw[mu]at r0
 obtain⟨x1,r1,k1⟩ : ∃x,RL (R0 w (dU w)) ((cI) x) ((cs.drop 1).take (Tryz.prog.cellsOf 3))/\(fun _=>True) x:=hf 1 _ rfl mr
 rw[mu]at r1
 obtain⟨x2,r2,k2⟩ : ∃x,RL (R0 w (dU w)) ((cI) x) ((cs.drop 2).take (Tryz.prog.cellsOf 3))/\(fun _=>True) x:=hf 2 _ rfl mr
 rw[mu]at r2
 rw[aD6]at hl
 match cs,hl with
 | [c0,c1,c2],_=>
  refine⟨⟨x0,x1,x2⟩,?_,trivial⟩
  show RL (R0 w (dU w)) (((cI) x0)++(((cI) x1)++(((cI) x2)))) ([c0]++([c1]++([c2])))
  exact RL.append r0 (RL.append r1 (r2))
theorem aD8:Tryz.prog.bytesOf 129=56:=by kernel_rfl
theorem aD9:ji Tryz.prog 26 (oK (aq)) (KU (afw)):=CT underlying26 afx aD8 (by decide) (fun _=>rfl) aDY
theorem aEa:Tryz.prog.bytesOf 64=56:=by kernel_rfl
theorem aEb:ji Tryz.prog 22 (oK (aE)) (KU (afz)):=CT underlying22 afA aEa (by decide) (fun _=>rfl) aD3
theorem aEc:Tryz.prog.bytesOf 103=16:=by kernel_rfl
theorem aEd:ji Tryz.prog 23 (oK (cp)) (KU (afB)):=CT underlying23 afC aEc (by decide) (fun _=>rfl) aD4
end Go.Proofs.YtaobkfpnebbohaaGreatDoor.M
namespace Go.Proofs.YtaobkfpnebbohaaGreatDoor.M
open Go.ChangeShapes Go.WideShapes Go.ChangeAt Go.RowKit Go.Deep
set_option linter.unusedVariables false
theorem aEe:U8Extra Tryz.prog XG:=⟨by kernel_rfl,by kernel_rfl,by kernel_rfl,by kernel_rfl,by kernel_rfl,by kernel_rfl,by kernel_rfl⟩
theorem aEf {W:World} {laid:List (String×DataW Unit)} (hsh:W.ShapedOpen Tryz.prog) (hL:laidMetH Tryz.prog laid W)
  (hp:(laid.all fun x=>x.2.handleName?.isNone)=true:=by kernel_rfl)
  (m1 : ∃ i : Nat, laid[i]? = some ("unicode/utf8.acceptRanges", Rows.laid_unicode_utf8_acceptRanges) := by first | exact ⟨0, rfl⟩ | exact ⟨1, rfl⟩ | exact ⟨2, rfl⟩ | exact ⟨3, rfl⟩ | exact ⟨4, rfl⟩ | exact ⟨5, rfl⟩ | exact ⟨6, rfl⟩ | exact ⟨7, rfl⟩)
  (m2 : ∃ i : Nat, laid[i]? = some ("unicode/utf8.first", Rows.laid_unicode_utf8_first) := by first | exact ⟨0, rfl⟩ | exact ⟨1, rfl⟩ | exact ⟨2, rfl⟩ | exact ⟨3, rfl⟩ | exact ⟨4, rfl⟩ | exact ⟨5, rfl⟩ | exact ⟨6, rfl⟩ | exact ⟨7, rfl⟩)
  (m3 : ∃ i : Nat, laid[i]? = some ("internal/strconv.uint64pow10", Rows.laid_internal_strconv_uint64pow10) := by first | exact ⟨0, rfl⟩ | exact ⟨1, rfl⟩ | exact ⟨2, rfl⟩ | exact ⟨3, rfl⟩ | exact ⟨4, rfl⟩ | exact ⟨5, rfl⟩ | exact ⟨6, rfl⟩ | exact ⟨7, rfl⟩) :
  ∀g r,au g=some r->iJ W (dU W) g r:=by
 obtain⟨_,m1⟩:=m1
 obtain⟨_,m2⟩:=m2
 obtain⟨_,m3⟩:=m3
 rw[MakeChecks.laidMetH_plain _ _ _ hp]at hL
 have hr : agW Tryz.prog W "internal/strconv.uint64pow10" Rows.laid_internal_strconv_uint64pow10 := agX hL (cL m3)
 have h3 : agW Tryz.prog W "unicode/utf8.first" Lib.firstData := by
  have := agX (n := "unicode/utf8.first") (d := Rows.laid_unicode_utf8_first) hL (cL m2)
  have hd:(Rows.laid_unicode_utf8_first:DataW Unit)=Lib.firstData:=by kernel_rfl
  rw[hd]at this;exact this
 have h4 : agW Tryz.prog W "unicode/utf8.acceptRanges" Lib.acceptData := by
  have := agX (n := "unicode/utf8.acceptRanges") (d := Rows.laid_unicode_utf8_acceptRanges) hL (cL m1)
  have hd:(Rows.laid_unicode_utf8_acceptRanges:DataW Unit)=Lib.acceptData:=by kernel_rfl
  rw[hd]at this;exact this
 obtain⟨u1,u2⟩:=utf8Tabs_of_reads aj6 aEe h3 h4
 have cellAt : ∀ {g:Nat} {cs:Array Value} {ty:TypeId} {o:Nat×Nat} (_:W.heap[g]? = some (.cells cs ty o)) (j:Nat),W.cell? ⟨g,j,none⟩=cs[j]?:=fun h j=>by simp[lW,h]
 intro g r hg
 unfold au at hg
 split at hg
 .rename_i hb
  have e:g=2:=beq_true.1 hb
  subst e
  cases hg
  obtain⟨g',t,cs,fuel,p,q1,q2,q3,q4⟩:=h3
  have hn : Tryz.prog.globalNamed "unicode/utf8.first" = some 2 := by kernel_rfl
  obtain⟨ty,o,hh⟩:=MZ hn q3
  exact GZ hh fun c hc=>by rw[<-cellAt hh c];exact u1 c hc
 .split at hg
  .rename_i hb
   have e:g=3:=beq_true.1 hb
   subst e
   cases hg
   obtain⟨g',t,cs,fuel,p,q1,q2,q3,q4⟩:=h4
   have hn : Tryz.prog.globalNamed "unicode/utf8.acceptRanges" = some 3 := by kernel_rfl
   obtain⟨ty,o,hh⟩:=MZ hn q3
   exact GZ hh fun c hc=>by rw[<-cellAt hh _,<-cellAt hh _];exact u2 c hc
  .split at hg
   .rename_i hb
    have e:g=5:=beq_true.1 hb
    subst e
    cases hg
    have hz:((begin Tryz.prog (fun _ _=>0) default).world.heap[5]?).bind Obj.row? = some (#[.int .i64 0],3):=by kernel_rfl
    obtain⟨cs,hh,hs,hr⟩:=hsh.1 5 _ _ (of_decide_eq_true (by kernel_rfl)) hz
    obtain⟨m,hm⟩:=cell_of_shapedOpen_int hsh (g:=5) (of_decide_eq_true (by kernel_rfl)) hz rfl (by kernel_rfl) (by kernel_rfl) underlying3
    exact GZ hh ⟨m,by rw[<-cellAt hh 0];exact hm⟩
   .split at hg
    .rename_i hb
     have e:g=4:=beq_true.1 hb
     subst e
     cases hg
     obtain⟨g',t,cs,fuel,p,h1,h2,h3,h4⟩:=hr
     have hn : Tryz.prog.globalNamed "internal/strconv.uint64pow10" = some 4 := by kernel_rfl
     obtain rfl:=jC (hn.symm.trans h1)
     obtain rfl:=jC ((show(Tryz.prog.globals[4]?).map (·.type)=some 278 by kernel_rfl).symm.trans h2)
     have hd:(Rows.laid_internal_strconv_uint64pow10:DataW Unit)=Lib.tabData .u64 Lib.pow10Tab:=by kernel_rfl
     rw[hd]at h4
     have hcs:=Lib.cells_of_tab underlying278 underlying132 (by kernel_rfl) (by kernel_rfl) h4
     obtain⟨ty,o,hh⟩:=MZ hn h3
     exact GZ hh (by rw[<-hcs])
    .cases hg
end Go.Proofs.YtaobkfpnebbohaaGreatDoor.M
namespace Go.Proofs.YtaobkfpnebbohaaGreatDoor
open Go.ChangeShapes Go.WideShapes Go.ChangeAt Go.RowKit Go.Deep M
open Go.ChangeMaps (open_string shut_string)
set_option linter.unusedVariables false
set_option maxRecDepth 100000 in
theorem aEg (H:Type) (enc:TypeId×Value->H) (W:World) (base:Nat) (args:Array Value) (ds gs:List (DataW H)) (before:List MemPlace)
  (hval0 : ∀(j:Nat) t v,Tryz.f3.params[j]? = some t->args[j]? = some v->Value.okWide Tryz.prog W .any base t v)
  (hW:DataW.Whole enc Tryz.prog Tryz.f3.params.toList Rows.topPublishedFilmsPlaySpec.vars false W args.toList ds gs before) (hbulk:Rows.uptoBulkAll (ds++gs)<=1048576)
  (hsz0:(agC Tryz.prog (Tryz.f3.params.toList++Rows.topPublishedFilmsPlaySpec.plain.varTypes Tryz.prog) (ds++gs)).all (· <= reachBytes)=true)
  (hL:laidMetH Tryz.prog Rows.topPublishedFilmsPlayUptoRow.laid W) (hsh:W.ShapedOpen Tryz.prog) :
  Calls Tryz.prog 3 args W fun e W'=>∃v,e = .returned v/\Rows.topPublishedFilmsPlaySpec.post enc Tryz.prog Tryz.f3 false true false false W args v W':=by
 have hval : ∀(j:Nat) t v,Tryz.f3.params[j]? = some t->args[j]? = some v->Value.okWide Tryz.prog W .any base t v:=hval0
 have hW':=hW
 obtain⟨p,q,hA0,hV,rfl,hfz,hnd⟩:=hW
 have hA:DataW.TrodAll enc Tryz.prog W 0 (fun _=>true) true Tryz.f3.params.toList args.toList ds p:=hA0
 have hsz : ∀n∈agC Tryz.prog (Tryz.f3.params.toList++Rows.topPublishedFilmsPlaySpec.plain.varTypes Tryz.prog) (ds++gs),n<=reachBytes:=by
  intro n hn;have:=bP.1 hsz0 n hn;simpa using this
 rw[params3]at hA hval hsz
 obtain⟨v0,vs0,d0,ds0,p0,q0,hargs,rfl,rfl,h0,r0⟩:=trodAll_cons hA
 obtain⟨v1,vs1,d1,ds1,p1,q1,rfl,rfl,rfl,h1,r1⟩:=trodAll_cons r0
 obtain⟨v2,vs2,d2,ds2,p2,q2,rfl,rfl,rfl,h2,r2⟩:=trodAll_cons r1
 obtain⟨v3,vs3,d3,ds3,p3,q3,rfl,rfl,rfl,h3,r3⟩:=trodAll_cons r2
 obtain⟨v4,vs4,d4,ds4,p4,q4,rfl,rfl,rfl,h4,r4⟩:=trodAll_cons r3
 obtain⟨rfl,rfl,rfl⟩:=trodAll_nil r4
 obtain rfl:args = #[v0,v1,v2,v3,v4]:=by cases args;simp_all
 obtain⟨rfl,rfl⟩:=trodVars_none hV
 have bk0:Rows.uptoBulk d0<=1048576:=iW (lC.rm (by simp)) hbulk
 obtain⟨A0,len0,cap0,rfl⟩:=okWide_slice underlying22 (hval 0 22 v0 rfl rfl)
 have b0:=h0
 have lt0 : ∀x∈p0,x.block<W.heap.size:=by obtain⟨m,hm⟩:=b0;exact Vb m _ _ _ hm
 obtain⟨fuel0,hf0⟩:=h0
 obtain⟨x0,e0,k0⟩:=aEb H enc W fuel0 (KX (.slice A0 len0 cap0)).toList _ _ hf0 (fun n hn=>hsz n (CS (j:=0) rfl rfl n hn)) bk0
 have bk1:Rows.uptoBulk d1<=1048576:=iW (lC.rm (by simp)) hbulk
 obtain⟨A1,len1,cap1,rfl⟩:=okWide_slice underlying23 (hval 1 23 v1 rfl rfl)
 have b1:=h1
 have lt1 : ∀x∈p1,x.block<W.heap.size:=by obtain⟨m,hm⟩:=b1;exact Vb m _ _ _ hm
 obtain⟨fuel1,hf1⟩:=h1
 obtain⟨x1,e1,k1⟩:=aEd H enc W fuel1 (KX (.slice A1 len1 cap1)).toList _ _ hf1 (fun n hn=>hsz n (CS (j:=1) rfl rfl n hn)) bk1
 have bk2:Rows.uptoBulk d2<=1048576:=iW (lC.rm (by simp)) hbulk
 obtain⟨cs2,rfl,_⟩:=okWide_struct underlying25 (hval 2 25 v2 rfl rfl)
 have b2:=h2
 have lt2 : ∀x∈p2,x.block<W.heap.size:=by obtain⟨m,hm⟩:=b2;exact Vb m _ _ _ hm
 obtain⟨fuel2,hf2⟩:=h2
 obtain⟨x2,e2,k2⟩:=aD7 H enc W fuel2 (KX (.agg cs2)).toList _ _ hf2 (fun n hn=>hsz n (CS (j:=2) rfl rfl n hn)) bk2
 have bk3:Rows.uptoBulk d3<=1048576:=iW (lC.rm (by simp)) hbulk
 obtain⟨x3,rfl,rfl,rfl,w3⟩:=open_int underlying3 (hval 3 3 v3 rfl rfl) h3
 have bk4:Rows.uptoBulk d4<=1048576:=iW (lC.rm (by simp)) hbulk
 obtain⟨A4,len4,cap4,rfl⟩:=okWide_slice underlying26 (hval 4 26 v4 rfl rfl)
 have b4:=h4
 have nc : ∀x∈p4,x.block<W.heap.size:=by obtain⟨m,hm⟩:=b4;exact Vb m _ _ _ hm
 obtain⟨fuel4,hf4⟩:=h4
 obtain⟨x4,e4,k4⟩:=aD9 H enc W fuel4 (KX (.slice A4 len4 cap4)).toList _ _ hf4 (fun n hn=>hsz n (CS (j:=4) rfl rfl n hn)) bk4
 clear hA0 hval0
 have hpre:Uk x0 x1 x2 x3 x4=true:=by exact(by have h1:F.gh x4=true:=bP.2 fun c hc=>bP.2 fun s hs=>(aj (iW ((k4.2 c hc).2 s hs) (by decide)):F.small s=true);show(F.gh x4&&Ft x0 x1 x2 x3 x4)=true;rw[h1,aEq];rfl)
 have hspec:=MX aDU aDS (x0,x1,x2,x3,x4) hpre
 refine(ajy (W:=W) (cargs:=[.slice A0 len0 cap0, .slice A1 len1 cap1, .agg cs2, .int .i64 x3, .slice A4 len4 cap4]) hspec (aEf hsh hL) ⟨MY e0,MY e1,ajz e2,ajA w3,MY e4,trivial⟩).mono fun e W1 ⟨he,bel⟩=>?_
 subst he
 exact⟨_,rfl,_,_,_,[],_,[],hW',trodAll_mk1 (shut_bool underlying4 _),(trodAll_cons_mk (Vc laidOut (by kernel_rfl) (of_decide_eq_true (by kernel_rfl)) b0 bel lt0) (trodAll_cons_mk (Vc laidOut (by kernel_rfl) (of_decide_eq_true (by kernel_rfl)) b1 bel lt1) (trodAll_cons_mk (Vc laidOut (by kernel_rfl) (of_decide_eq_true (by kernel_rfl)) b2 bel lt2) (trodAll_cons_mk (shut_int underlying3 w3) (trodAll_cons_mk (Vc laidOut (by kernel_rfl) (of_decide_eq_true (by kernel_rfl)) b4 bel nc) trodAll_mk0))))),rfl,bel.frame _,fun h=>by cases h⟩
theorem aEh (os:Os) {H:Type} (enc:TypeId×Value->H) : ∃places,DataW.whole enc Tryz.prog ((agY Tryz.prog os Rows.topPublishedFilmsPlayUptoRow.laid).forCall (fun _ _=>0) ⟨#[], #[.slice none 0 0, .slice none 0 0, .agg #[.int .i64 0, .int .i64 0, .int .i64 0], .int .i64 0, .slice none 0 0],[]⟩).memory Tryz.f3.params.toList Rows.topPublishedFilmsPlaySpec.vars false (#[.slice none 0 0, .slice none 0 0, .agg #[.int .i64 0, .int .i64 0, .int .i64 0], .int .i64 0, .slice none 0 0]:Array Value).toList 8=some ([.nil, .nil, .agg [.lit (.int .i64 0), .lit (.int .i64 0), .lit (.int .i64 0)], .lit (.int .i64 0), .nil],[],places):=
 ⟨[],by kernel_rfl⟩
theorem aEi (os:Os):laidMet Tryz.prog Rows.topPublishedFilmsPlayUptoRow.laid ((agY Tryz.prog os Rows.topPublishedFilmsPlayUptoRow.laid).forCall (fun _ _=>0) ⟨#[], #[.slice none 0 0, .slice none 0 0, .agg #[.int .i64 0, .int .i64 0, .int .i64 0], .int .i64 0, .slice none 0 0],[]⟩).memory:=laidMet_laidAll _ (by kernel_rfl) (by kernel_rfl)
set_option maxRecDepth 100000 in
theorem aEj (os:Os) (started:os.Started) (H:Type) (enc:TypeId×Value->H) (F:Stop.Interp) :
  ReturnsInHanded {} Tryz.checked os 3 .any ((Rows.OpenSpec.upto Rows.topPublishedFilmsPlaySpec).preRow enc Tryz.prog Tryz.f3 Rows.topPublishedFilmsPlayUptoRow.domain false Rows.topPublishedFilmsPlayUptoRow.laid) (((Rows.OpenSpec.upto Rows.topPublishedFilmsPlaySpec).at F).post enc Tryz.prog Tryz.f3 false true false false):=by
 obtain⟨places,hx⟩:=aEh os enc
 refine returnsInHanded_of_row (C:=Tryz.checked) (s:=Rows.OpenSpec.upto Rows.topPublishedFilmsPlaySpec) own started (by kernel_rfl) func3
  (witness_row_at (enc:=enc) (C:=Tryz.checked) false (agY Tryz.prog os Rows.topPublishedFilmsPlayUptoRow.laid) #[.slice none 0 0, .slice none 0 0, .agg #[.int .i64 0, .int .i64 0, .int .i64 0], .int .i64 0, .slice none 0 0] (World.laidAll_os _ _ _) (by kernel_rfl) (by kernel_rfl) (by kernel_rfl)
   (OpenSpec.preRow_of_cond 8 hx (by kernel_rfl) (fun k hk=>by cases hk;kernel_rfl) (by kernel_rfl) (aEi os))) ?_
 intro W base args ds gs before hval hW _ hcond hsz hL hsh _
 exact aEg H enc W base args ds gs before hval hW (lC.ajB (hcond _ rfl)) hsz hL hsh
theorem topPublishedFilmsPlay_upto:Rows.TopPublishedFilmsPlayUptoSaid:=
 OpenClaim.holds_of_cond 3 Tryz.f3 rfl rfl rfl rfl rfl rfl rfl ⟨rfl,rfl,rfl,rfl,rfl⟩ rfl rfl rfl rfl rfl (by kernel_rfl) func3 (by kernel_rfl)
  (of_decide_eq_true (by kernel_rfl)) (by unfold Func.isWrapper;first | (rw[if_pos (by decide +kernel)];kernel_rfl) | (rw[if_neg (by decide +kernel)];exact⟨rfl,rfl⟩))
  (fun os started H enc _ F=>by rw[OpenClaim.pre_eq_preRow];exact aEj os started H enc F)
#print axioms topPublishedFilmsPlay_upto
theorem aEk (f : FuncId) (fn : Func) (hf : Tryz.pinned.checked.prog.funcNamed "headend/headendtop.TopPublishedFilmsPlay" = some f) (hfn : Tryz.pinned.checked.prog.funcs[f]? = some fn) :
  true=Tryz.pinned.checked.prog.looks [] /\ ∀(j:Nat) t,fn.params[j]? = some t->Tryz.pinned.checked.prog.wantsStandIn t=false:=by
 obtain rfl : f = 3 := jC ((show Tryz.prog.funcNamed "headend/headendtop.TopPublishedFilmsPlay" = some 3 by kernel_rfl).symm.trans hf) |>.symm
 obtain rfl:fn=Tryz.f3:=(jC (func3.symm.trans hfn)).symm
 refine⟨by kernel_rfl,fun j t ht=>?_⟩
 rw[params3]at ht
 have hm:t∈[22,23,25,3,26]:=by simpa using Array.mem_of_getElem? ht
 have hall:([22,23,25,3,26].all fun u=> !Tryz.prog.wantsStandIn u)=true:=by kernel_rfl
 exact(show Tryz.prog.wantsStandIn t=false by simpa using bP.1 hall t hm)
theorem topPublishedFilmsPlay_card : Rows.TopPublishedFilmsPlayUptoCardSaid :=
  Claim7.holds_tied_plain_at .later [] _ _ _ _ topPublishedFilmsPlay_upto (fun _ h => by cases h) (by kernel_rfl) (fun _ h => by cases h) topPublishedFilmsPlayUpto_row_tie rfl ⟨rfl, rfl⟩ (by kernel_rfl) rfl aEk (by kernel_rfl)
#print axioms topPublishedFilmsPlay_card
end Go.Proofs.YtaobkfpnebbohaaGreatDoor
