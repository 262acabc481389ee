/- What is proved here: the quotient of a number of 128 bits (no statement of the seat). -/
import Derived.Test.YtaobkfpnebbohaaGreatDoorProg
import Derived.Lib.LaidU8
import Derived.Lib.ItoaNum
import Derived.ProofKit
import Derived.Deep.Slices
import Derived.SizedLaws
import Derived.OpenShut
import Derived.ShutString
import Derived.ChangeOld
import Derived.JoinedTies
import Derived.Test.YtaobkfpnebbohaaGreatDoorRows
import Derived.Deep.DeepHandedRow
import Derived.Shelf.Vars
import Derived.Shelf.Strings.Builder1
import Derived.Shelf.Strings.Builder2
import Derived.Shelf.Strings.BuilderF
import Derived.Shelf.Utf8.RuneCount
import Derived.Shelf.Strconv.Atoi
import Derived.Shelf.Strconv.Itoa0
import Derived.Shelf.Strconv.Itoa1
import Derived.Shelf.LaysM
import Derived.Shelf.Strconv.Itoa2
import Derived.Shelf.Strconv.Itoa3
import Derived.Shelf.Strconv.AtoiErrFast
import Derived.Shelf.Strconv.ParseIntEmpty
import Derived.Shelf.Strconv.AtoiFail
import Derived.Shelf.Strconv.Clone
import Derived.Shelf.Strconv.SyntaxError
import Derived.Shelf.LaysC
import Derived.Shelf.Strconv.ToError
import Derived.Shelf.Strconv.Lower
import Derived.Shelf.Strconv.ParseUint10
import Derived.Shelf.Strconv.ParseUint10Empty
import Derived.Shelf.Strconv.ParseUint10Any
import Derived.Shelf.Strconv.ParseInt10
import Derived.Shelf.Strconv.AtoiLong
import Derived.Shelf.Strconv.AtoiInnerAll
import Derived.Shelf.Strconv.RangeError
import Derived.Shelf.Strconv.ToErrorRange
import Derived.Shelf.Strconv.AtoiAll
import Derived.Shelf.Strings.Search1
import Derived.Shelf.Strings.Search2
import Derived.Shelf.Strings.Search3
import Derived.Shelf.Strings.Cut
import Derived.Shelf.Strings.Count
import Derived.Shelf.Strings.Shaped
import Derived.Shelf.Sort.Plain
import Derived.Shelf.Strings.Prefix
import Derived.Shelf.Strings.Split
import Derived.Shelf.Strings.Replace
import Derived.Shelf.Bits.Mul64
import Derived.Shelf.Unicode.DecodeSlow
import Derived.Shelf.Unicode.DecodeAny
import Derived.Shelf.Slices.Equal
import Derived.Ground.Names2Prog
import Derived.Shelf.Slices.Clone
import Derived.Shelf.Slices.CompactI
import Derived.Shelf.Slices.SearchI
import Derived.Shelf.Slices.In.SortNone
import Derived.Shelf.Unicode.ValidAny
import Derived.Lib.Join
import Derived.Shelf.Spec.BitsCarry
import Derived.Handy
import Derived.Test.YtaobkfpnebbohaaGreatDoorRX1
open Go.Proofs.Tryz
open Array renaming getD_eq_getD_getElem?→k8,getElem?_eq_getElem→qv,getElem?_eq_some_iff→ph,getElem?_setIfInBounds→FC,mem_append→BZ,mem_of_getElem?→UW,mk→aA,replicate→agA
open Bool renaming and_eq_true→aG,false_eq_true→ij,not_eq_true'→mD,or_eq_false_iff→jQ,true_and→fM
open ByteArray renaming mk→az,size→aJ,toList→cU
open Classical renaming choose→La,choose_spec→Lb
open Go.ByteArray renaming toList_eq→aFH
open Go.Call renaming operands→nC
open Go.DataW renaming trod→agB,weights→agD
open Go.IntKind renaming bits→fA,i64→am,max→iX,min→jB,signed→ii,u64→aD,wrap→bQ,wrap_i64→FF,wrap_u64→gR
open Go.Lib renaming compact→vO,countB→vN,cut→qz,hasPrefix→B3,hasSuffix→Ld,splitB→Lf
open Go.Op renaming operands→cX
open Go.Region renaming binds→sM,wanted→sL
open Go.RowKit.Below renaming alloc→U2,refl→qw
open Go.Shelf renaming Ren→jS
open Go.Sort renaming ahead→Lc
open Go.Value renaming int→bh
open Go.World renaming cell?→lW,cells?_some→aFG
open Int renaming natAbs_of_nonneg→U1,natCast_mul→sJ,ofNat_natAbs_of_nonpos→U0
open List renaming all_cons→K7,all_eq_true→bP,any_eq_false→BW,any_eq_true→K8,drop→bn,eq_nil_of_length_eq_zero→sI,filter_cons→vM,filter_eq_self→agz,flatMap_def→vK,forall_mem_cons→gQ,getD→al,getElem?_append→KY,getElem?_cons_succ→qu,getElem?_eq_getElem→bC,getElem?_eq_none→UY,getElem?_eq_some_iff→cO,getElem?_map→dM,getElem?_of_mem→pg,getElem?_range→K3,length→ae,length_cons→gq,length_map→aN,length_range→sN,map→ab,map_append→l7,map_congr_left→k9,map_cons→gP,map_inj_right→jR,mem_append→dn,mem_cons→cK,mem_cons_self→dN,mem_filter→nD,mem_flatMap→eF,mem_map→eQ,mem_map_of_mem→BX,mem_of_getElem?→cL,pairwise_append→mE,pairwise_cons→l6,pairwise_lt_range→agy,range→gG,range_eq_range'→agw,reverse_cons→K5,reverse_reverse→K9
open List.cons renaming injEq→qq
open Nat renaming beq→bk,blt→lV,le_refl→bR,le_trans→iW,lt_of_lt_of_le→l5,mul_le_mul→vP,zero_add→gD,zero_le→cf
open Option renaming bind→ai,bind_eq_some_iff→UL,bind_some→ar,getD_some→k7,map_eq_some_iff→eZ,map_map→agx,map_some→lZ,none_or→kx,some_or→B0
open Option.some renaming inj→jC,injEq→eX
open Prod.mk renaming injEq→ny
open UInt8 renaming toNat→dF
noncomputable section
namespace Go.Proofs.YtaobkfpnebbohaaGreatDoor.M
open Go Go.RowKit
set_option linter.unusedVariables false
set_option linter.unusedSimpArgs false
section
variable {P : Program} {E : Env}
section
variable {B : Nat -> Prop} {N : Nat} {β0 : Nat -> Option BI} {o : Oper} {a : Act} {w w' w0 : World} {S S' S0 : Nat -> Prop} {β β' : Nat -> Option BI} {h : Heap} {av : AV} {v : Value} {t : dG} {s s' : St} {g : Option (Nat × Bool)}
def tj (S:Nat->Prop) (β:Nat->Option BI) (k:Nat):Nat->Prop:=fun b=>S b \/ ∃x,β k=some x/\x.real=true/\x.b=b
def nQ (β:Nat->Option BI) (k:Nat):Nat->Option BI:=fun j=>if j=k then none else β j
theorem ah8 (inv:Inv E B w S β h) {k:Nat} {bl:ah} (hbox:bl.box=false) (hk:an h k=some bl) (hv:RP w S β (.own k) v):R0 w (tj S β k) (.sl bl.rows) v:=by
 obtain⟨X,hX,h1,h2⟩:=hv
 obtain⟨bl',hb,h3,h4⟩:=inv.di k X hX
 rw[hk]at hb
 cases hb
 cases hr:X.real
 .obtain⟨A,rfl⟩:=h2 hr
  rw[(h4 hr).1]
  exact R0.sl (rows:=[]) (size:=0) (b:=0) (off:=0) (vals:=fun _ _=> .nilFunc) (by simp) (by simp) (by simp) (by simp) (by simp) (by simp)
 .obtain⟨cs,ty,c1,c2,c3,c4,c5,c6,c7,c8⟩:=h3 hr
  rw[h1 hr,<-c3]
  refine R0.sl (size:=X.size) (b:=X.b) (off:=0) (vals:=fun i j=>(cs[i*X.size+j]?).getD .nilFunc) (by omega) c5 (fun _=>⟨rfl, .inr ⟨X,hX,hr,rfl⟩⟩) (fun i row hi=>(c8 i row hi).1) (fun i j row x hi hj=>?_) (fun i j row x hi hj=>?_)
  .obtain⟨u,hu,_⟩:=(c8 i row hi).2 j x hj
   simp[lW,c1,hu]
  .obtain⟨u,hu,hru⟩:=(c8 i row hi).2 j x hj
   rw[hbox]at hru
   simp only[hu,k7]
   exact R0.mono (fun _ _=>rfl) (fun b hb=> .inl hb) (by simpa using hru)
theorem ah9 (inv:Inv E B w S β h) {k lo n:Nat} {bl:ah} (hbox:bl.box=false) (hk:an h k=some bl) (hv:RP w S β (.win k lo n) v):R0 w (tj S β k) (.sl ((bl.rows.drop lo).take n)) v:=by
 obtain⟨X,hX,A,c,rfl,hc,hm,hn⟩:=hv
 obtain⟨bl',hb,h3,h4⟩:=inv.di k X hX
 rw[hk]at hb
 cases hb
 exact VZ (k:=k) (fun b hb=> .inl hb) hbox (fun hr=> .inr ⟨X,hX,hr,rfl⟩) h3 hc hm hn
theorem Wr (inv:Inv E B w S β h) {k:Nat} {bl:ah} (hbox:bl.box=false) (hk:an h k=some bl) {x:AV} (hr:RP w S β x v):RP w (tj S β k) (nQ β k) (qL k bl x) v:=by
 have keep : ∀j,j≠k -> ∀y,β j=some y->nQ β k j=some y:=fun j hj y hy=>by simp[nQ,hj,hy]
 have h1:=hr.one
 cases x<;>simp only[qL]
 case own j=>
  split
  .rename_i hj
   obtain rfl:=beq_true.1 hj
   exact R0.rp (ah8 inv hbox hk hr)
  .rename_i hj
   obtain⟨y,hy,h2⟩:=hr
   exact⟨y,keep j (beq_false.1 hj) y hy,h2⟩
 case win j lo n=>
  split
  .rename_i hj
   obtain rfl:=beq_true.1 hj
   exact R0.rp (ah9 inv hbox hk hr)
  .rename_i hj
   obtain⟨y,hy,h2⟩:=hr
   exact⟨y,keep j (beq_false.1 hj) y hy,h2⟩
 case ptr j i o=>
  split
  .exact .bL h1
  .rename_i hj
   obtain⟨y,hy,h2⟩:=hr
   exact⟨y,keep j (beq_false.1 hj) y hy,h2⟩
 case gd=>exact .bL h1
 case e0=>exact hr
 case bD row off=>obtain⟨b,o,e1,e2⟩:=hr;exact⟨b,o,e1,e2.mono (fun _ _=>rfl) fun b hb=> .inl hb⟩
 case nz b rows=>exact⟨R0.mono (fun _ _=>rfl) (fun b hb=> .inl hb) hr.1,hr.2⟩
 all_goals exact R0.mono (fun _ _=>rfl) (fun b hb=> .inl hb) hr
theorem aia {k:Nat} {bl:ah} {x:AV} (hn : ∀f cs,x ≠ .fn f cs) : ∀f cs,qL k bl x ≠ .fn f cs:=by
 intro f cs e
 cases x<;>simp only[qL]at e<;>first | (split at e<;>cases e;done) | (cases e;done) | exact hn _ _ rfl
theorem Mo (inv:Inv E B w S β h) {k:Nat} {bl:ah} (hbox:bl.box=false) (hk:an h k=some bl) {x:AV} (hr:RC w S β x v):RC w (tj S β k) (nQ β k) (qM k bl x) v:=by
 by_cases hn : ∃f cs,x = .fn f cs
 .obtain⟨f,cs,rfl⟩:=hn
  obtain⟨vs,e1,e2⟩:=hr
  exact⟨vs,e1,e2.map fun b hb u hu=>Wr inv hbox hk hu⟩
 .have hn' : ∀f cs,x ≠ .fn f cs:=fun f cs e=>hn ⟨f,cs,e⟩
  rw[nM hn']at hr
  have e:qM k bl x=qL k bl x:=by cases x<;>first | rfl | exact absurd rfl (hn' _ _)
  rw[e,nM (aia hn')]
  exact Wr inv hbox hk hr
theorem Ws (inv:Inv E B w S β h) {k:Nat} {bl:ah} (hbox:bl.box=false) (hk:an h k=some bl) {x:AV} (hr:RT w S β x v):RT w (tj S β k) (nQ β k) (wA k bl x) v:=by
 by_cases hn : ∃cs,x = .agg cs
 .obtain⟨cs,rfl⟩:=hn
  obtain⟨vs,h1,h2⟩:=hr
  exact⟨vs,h1,h2.map fun b hb u hu=>Mo inv hbox hk hu⟩
 .have hn' : ∀cs,x ≠ .agg cs:=fun cs e=>hn ⟨cs,e⟩
  by_cases hu:x = .bL
  .subst hu;trivial
  .rw[wL hn' hu]at hr
   have e:wA k bl x=qM k bl x:=by cases x<;>first | rfl | exact absurd rfl (hn' _)
   rw[e]
   exact(Mo inv hbox hk hr).rt
theorem aib (inv:Inv E B w S β h) {k:Nat} {bl:ah} (hbox:bl.box=false) (hk:an h k=some bl) {x:AV} (hr:RV w S β x v):RV w (tj S β k) (nQ β k) (kA k bl x) v:=by
 by_cases hn : ∃cs,x = .aF cs
 .obtain⟨cs,rfl⟩:=hn
  obtain⟨vs,h1,h2⟩:=hr
  exact⟨vs,h1,h2.map fun b hb u hu=>Ws inv hbox hk hu⟩
 .by_cases hu : ∃j b want y,x = .gd j b want y
  .obtain⟨j,b,want,y,rfl⟩:=hu
   trivial
  .have hn' : ∀cs,x ≠ .aF cs:=fun cs e=>hn ⟨cs,e⟩
   have hu' : ∀j b w y,x ≠ .gd j b w y:=fun j b w y e=>hu ⟨j,b,w,y,e⟩
   rw[s7 hn' hu']at hr
   have e:kA k bl x=wA k bl x:=by cases x<;>first | rfl | exact absurd rfl (hn' _)
   rw[e]
   exact RT.rv (Ws inv hbox hk hr)
theorem aic {k:Nat} {bl:ah} {x:AV} {j:Nat} {b want:Bool} {y:AV}:kA k bl x ≠ .gd j b want y:=by
 intro e
 cases x<;>simp only[kA,wA,qM,qL]at e<;>first | (split at e<;>cases e;done) | (cases e;done)
theorem wX {α:Type} (f:Nat->Bool) (m:List (Nat×α)) (k:Nat):an (m.filter fun p=>f p.1) k=if f k=true then an m k else none:=by
 induction m with
 | nil=>simp[an]
 | cons p r ih=>
  obtain⟨j,x⟩:=p
  simp only[vM]
  cases hf:f j
  .simp only[ij,if_false,ih,an]
   cases hb:bk k j
   .rfl
   .rw[beq_true.1 hb,hf];rfl
  .simp only[if_true,an,ih]
   cases hb:bk k j
   .rfl
   .rw[beq_true.1 hb,hf];rfl
theorem aid (rel:Rel E B N w0 S0 β0 s a w S β) (k:Nat) : ∃S' β',Rel E B N w0 S0 β0 (s.freeze k) a w S' β':=by
 unfold St.freeze
 split
 .rename_i bl hbl
  split
  .exact⟨S,β,rel⟩
  .rename_i hbox
   have inv:=rel.inv
   refine⟨tj S β k,nQ β k,?_,fun n=>?_,fun n j b want x hn=>?_,rel.below,fun b hb=> .inl (rel.sub b hb),?_,fun j x hi hm hx=>rel.fix j x hi hm (by unfold nQ at hx;split at hx;cases hx;exact hx),rel.size,rel.defers⟩
   .have lk : ∀j x,nQ β k j=some x->j≠k/\β j=some x:=by
     intro j x hx
     unfold nQ at hx
     split at hx
     .cases hx
     .exact⟨‹_›,hx⟩
    refine⟨inv.base,?_,fun j j' x x' h1 h2=>inv.inj j j' x x' (lk j x h1).2 (lk j' x' h2).2,?_,?_,?_,fun gl row hg=>(inv.dH gl row hg).mono (fun _ _=>rfl) fun b hb=> .inl hb⟩
    .rintro b (hb | ⟨x,h1,h2,rfl⟩)
     .exact inv.lt b hb
     .exact(inv.new k x h1 h2).2.1
    .intro j x h1 r1
     obtain⟨hj,hx⟩:=lk j x h1
     obtain⟨n1,n2,n3⟩:=inv.new j x hx r1
     refine⟨n1,n2,?_⟩
     rintro(hs | ⟨y,h2,h3,e⟩)
     .exact n3 hs
     .exact hj (inv.inj j k x y hx h2 r1 h3 e.symm)
    .intro j x h1
     obtain⟨hj,hx⟩:=lk j x h1
     obtain⟨b1,a1,a2,a3⟩:=inv.di j x hx
     refine⟨b1.fP k bl,by show an ((s.h.filter fun p=> !bk p.1 k).map fun p=>(p.1,p.2.fP k bl)) j=_;rw[gf (fun c=>ah.fP k c bl),wX (fun q=> !bk q k),if_pos (by simp[beq_false.2 hj]),a1];rfl,fun hr=>?_,fun hr=>?_⟩
     .obtain⟨cs,ty,c1,c2,c3,c4,c5,c6,c7,c8⟩:=a2 hr
      unfold ah.fP
      split
      .rename_i hb1
       refine⟨cs,ty,c1,c2,by simpa using c3,c4,c5,c6,c7,fun i row hi=>?_⟩
       have hi:(b1.rows.map (·.map (qM k bl)))[i]? = some row:=hi
       simp only[dM,eZ]at hi
       obtain⟨row0,hi0,rfl⟩:=hi
       refine⟨by simpa using(c8 i row0 hi0).1,fun q y hq=>?_⟩
       simp only[dM,eZ]at hq
       obtain⟨y1,hq1,rfl⟩:=hq
       obtain⟨u,hu,hru⟩:=(c8 i row0 hi0).2 q y1 hq1
       rw[hb1]at hru
       exact⟨u,hu,by rw[hb1];simp only[if_true]at hru ⊢;exact Mo inv hbox hbl hru⟩
      .rename_i hb1
       refine⟨cs,ty,c1,c2,c3,c4,c5,c6,c7,fun i row hi=>?_⟩
       refine⟨(c8 i row hi).1,fun q y hq=>?_⟩
       obtain⟨u,hu,hru⟩:=(c8 i row hi).2 q y hq
       rw[hb1]at hru
       exact⟨u,hu,by rw[hb1];simp only[ij,if_false]at hru ⊢;exact hru.mono (fun _ _=>rfl) fun b hb=> .inl hb⟩
     .obtain⟨q1,q2⟩:=a3 hr
      unfold ah.fP
      rw[q2]
      exact⟨q1,q2⟩
    .intro j b1 h1
     have h1:an ((s.h.filter fun p=> !bk p.1 k).map fun p=>(p.1,p.2.fP k bl)) j=some b1:=h1
     rw[gf (fun c=>ah.fP k c bl),wX (fun q=> !bk q k)]at h1
     split at h1
     .rename_i hj
      have hj:j≠k:=beq_false.1 (by simpa using hj)
      cases hm:an s.h j with
      | none=>rw[hm]at h1;cases h1
      | some b2=>
       obtain⟨x,hx⟩:=inv.il j b2 hm
       exact⟨x,by simp[nQ,hj,hx]⟩
     .cases h1
   .show RV w _ _ (bJ (s.t.map fun p=>(p.1,kA k bl p.2)) n) _
    rw[ly s.t (kA k bl) rfl n]
    exact aib inv hbox hbl (rel.tok n)
   .have hn:bJ (s.t.map fun p=>(p.1,kA k bl p.2)) n = .gd j b want x:=hn
    rw[ly s.t (kA k bl) rfl n]at hn
    exact absurd hn aic
   .rintro b (hb | ⟨x,h1,h2,rfl⟩)
    .exact rel.news b hb
    .exact .inr (inv.new k x h1 h2).1
 .exact⟨S,β,rel⟩
theorem Gt : ∀(ks:List Nat) {s:St} {S:Nat->Prop} {β:Nat->Option BI},Rel E B N w0 S0 β0 s a w S β -> ∃S' β',Rel E B N w0 S0 β0 (s.oC ks) a w S' β'
 | [],s,S,β,rel=>⟨S,β,rel⟩
 | k::r,s,S,β,rel=>by
  obtain⟨S1,β1,rel1⟩:=aid rel k
  exact Gt r rel1
theorem Wt {op:Op} {x y:Operand} {ty:TypeId} (hi:isApp op=some (x,y,ty)):op = .call ⟨.builtin .append, #[x,y], #[ty,ty]⟩:=by
 unfold isApp at hi
 split at hi
 .rename_i c
  obtain⟨callee,args,ts⟩:=c
  split at hi
  .rename_i hc
   simp only at hc hi
   subst hc
   split at hi
   .rename_i x' y' t' t'' ha hts
    split at hi
    .rename_i htt
     obtain rfl:=beq_true.1 htt
     simp only[eX,ny]at hi
     obtain⟨rfl,rfl,rfl⟩:=hi
     obtain rfl:args = #[x',y']:=by cases args;simp at ha;simp[ha]
     obtain rfl:ts = #[t',t']:=by cases ts;simp at hts;simp[hts]
     rfl
    .cases hi
   .cases hi
  .cases hi
 .cases hi
theorem Wu {ρ:Operand->AV} {op:Op} {f:FuncId} {args:List AV} (hc:oE E ρ op=some (f,args)) : ∃c fo caps,op = .call c/\c.callee = .value fo/\ρ fo = .fn f caps/\args=c.args.toList.map ρ++caps:=by
 unfold oE at hc
 split at hc
 .rename_i c
  split at hc
  .rename_i fo hfo
   split at hc
   .rename_i f' caps hcap
    split at hc
    .simp only[eX,ny]at hc
     obtain⟨rfl,rfl⟩:=hc
     exact⟨c,fo,caps,rfl,hfo,hcap,rfl⟩
    .cases hc
   .cases hc
  .cases hc
 .cases hc
theorem Wv (ok:aZ P E) (rel:Rel E B N w0 S0 β0 s a w S β) (hg:CD a g) (hd : ∀d,o.dst=some d->d<N) {wr:Option (List Nat×List Nat)} (hn:(step1 E g s o).val=some (s',wr)):Mg P E B N w0 S0 β0 o a w s':=by
 unfold step1 at hn
 split at hn
 .rename_i x y ty hi
  have ho:=Wt hi
  split at hn
  .rename_i j hj
   rw[T.bind_some]at hn
   obtain⟨p,h1,h2⟩:=hn
   have hx:=rel.args hg (E:=E) x
   have hj':cM E g s.t x = .own j:=by unfold Ch at hj;split at hj<;>first | (cases hj;assumption) | (cases hj)
   rw[hj']at hx
   exact Mi rel hd (ah3 ok rel.inv hx (rel.args hg (E:=E) y) ho h1) h2
  .rw[T.bind_some]at hn
   obtain⟨⟨s1,ws⟩,h1,h2⟩:=hn
   rw[show oD (s1,ws) = .ret (s1,some (ws,[])) from rfl,T.bw]at h2
   cases h2
   exact Mh ok rel hg hd h1
 .split at hn
  .rename_i f uargs hc
   rw[T.bind_some]at hn
   obtain⟨p,h1,h2⟩:=hn
   obtain⟨c,fo,caps,c1,c2,c3,c4⟩:=Wu hc
   have hf:=rel.args hg (E:=E) fo
   rw[c3]at hf
   subst c4
   exact Mi rel hd (ah5 ok rel.inv c1 c2 hf (Gl (rel.args hg (E:=E)) _) h1) h2
  split at hn
  .rw[T.bind_some]at hn
   obtain⟨⟨s1,ws⟩,h1,h2⟩:=hn
   rw[show oD (s1,ws) = .ret (s1,some (ws,[])) from rfl,T.bw]at h2
   cases h2
   exact Mh ok rel hg hd h1
  .split at hn
   .rename_i hpl
    rw[T.bind_some]at hn
    obtain⟨⟨s1,ws⟩,h1,h2⟩:=hn
    rw[show FX (s1,ws) = .ret (s1,none) from rfl,T.bw]at h2
    cases h2
    obtain⟨S1,β1,rel1⟩:=Gt (fP E (cM E g s.t) o.dst o.op) rel
    refine Mh ok rel1 (fun d want hgd=>?_) hd h1
    exact hg d want hgd
   .rw[T.aO]at hn;exact hn.elim
def wY (P:Program) (E:Env) (B:Nat->Prop) (N:Nat) (w0:World) (S0:Nat->Prop) (β0:Nat->Option BI) (ops:Array Oper) (o:Oper) (a:Act) (w:World) (s':St):Prop:=
 ∀(K:Act->World->Prop) (Q:Exit->Act->World->Prop),(∀a' w',fj E B N w0 S0 β0 s' a' w'->K a' w') ->
  if sL o (yielded ops a.tmps) then o.wp P a w K Q else K (a.put o.dst undef) w
theorem Ww (rel:Rel E B N w0 S0 β0 s a w S β) (hd : ∀d,o.dst=some d->d<N) (x:AV) (hx:RV w S β x undef) (hg:oH (ff s.t o.dst x) (a.put o.dst undef)):fj E B N w0 S0 β0 ⟨ff s.t o.dst x,s.h⟩ (a.put o.dst undef) w:=
 ⟨S,β,rel.inv,rel.tok.put (fun d hdd=>by rw[rel.size];exact hd d hdd) hx,hg,rel.below,rel.sub,rel.news,rel.fix,by rw[Gn];exact rel.size,by rw[put_defers];exact rel.defers⟩
theorem aie {ρ:Operand->AV} {hg:Nat->Option ah} {p:AV×Heap} (hs:wC o.op=true) (hp:(lm E ρ hg o).val=some p):p.2=[]:=by
 have pl : ∀ {t:T AV} {p:AV×Heap},t.plain.val=some p->p.2=[]:=fun {t p} h=>by rw[T.L2]at h;obtain⟨a,_,rfl⟩:=h;rfl
 unfold lm at hp
 split at hp<;>first | (rw[T.aO]at hp;exact hp.elim) | skip
 all_goals rename_i ho
 all_goals rw[ho]at hs
 all_goals first | (simp[wC]at hs;done) | skip
 .rw[show plain _ = .ret _ from rfl,T.bw]at hp;subst hp;rfl
 .split at hp
  .split at hp
   .exact pl hp
   .rw[T.aO]at hp;exact hp.elim
  .rw[T.aO]at hp;exact hp.elim
 .split at hp<;>exact pl hp
 .exact pl hp
 .split at hp
  .exact pl hp
  .rw[T.aO]at hp;exact hp.elim
 .split at hp
  .exact pl hp
  .rw[T.aO]at hp;exact hp.elim
 .split at hp
  .exact pl hp
  .rw[T.aO]at hp;exact hp.elim
 .rename_i c
  split at hp
  .rename_i b hb
   simp only[wC,hb]at hs
   unfold FU at hp
   split at hp<;>first | (rw[T.aO]at hp;exact hp.elim) | (simp at hs;done) | skip
   split at hp
   .split at hp
    .exact pl hp
    .rw[T.aO]at hp;exact hp.elim
   .rw[T.aO]at hp;exact hp.elim
  .rename_i f hb
   simp only[wC,hb]at hs
   cases hs
  .rw[T.aO]at hp;exact hp.elim
theorem Wx (rel:Rel E B N w0 S0 β0 s a w S β) (hd : ∀d,o.dst=some d->d<N) {ops:Array Oper} {j d:Nat} {want:Bool} (hgu:o.guard=some (j,want)) (hno:sL o (yielded ops a.tmps)=false) (hm:an s.t d≠none) (hne:a.tmps.getD d undef ≠ .bool want)
  {wr:Option (List Nat×List Nat)} (hs:(iI s o d want).val=some (s',wr)):wY P E B N w0 S0 β0 ops o a w s':=by
 intro K Q hK
 rw[if_neg (by rw[hno];simp)]
 rw[show iI s o d want = .ret (⟨ff s.t o.dst (mN o s.t d want),s.h⟩,some ([],[])) from rfl,T.bw]at hs
 cases hs
 have hx:RV w S β (mN o s.t d want) undef/\oH (ff s.t o.dst (mN o s.t d want)) (a.put o.dst undef):=by
  unfold mN
  split
  .rename_i hnd
   refine⟨⟨(fun h=>by cases h),fun _=>rfl⟩,rel.gd.set _ _ fun d' j' b' want' x' hdst hx=>?_⟩
   cases hx
   unfold mM at hnd
   rw[hdst]at hnd
   simp only[aG,mD]at hnd
   exact⟨fun e=>(beq_false.1 hnd.1) e.symm,hm,⟨(fun h=>by cases h),fun h=>absurd h hne⟩⟩
  .exact⟨trivial,rel.gd.set _ _ fun d j b want x _ hx=>by cases hx⟩
 exact hK _ _ (Ww rel hd _ hx.1 hx.2)
theorem aif {d:Nat} {want:Bool} (h:lq E s o d want=true):wC o.op=true/\mM o s.t d=true:=by
 unfold lq at h
 split at h
 .rename_i h1
  simp only[aG]at h
  exact⟨h1,h.1⟩
 .cases h
theorem Wy (ok:aZ P E) (rel:Rel E B N w0 S0 β0 s a w S β) (hd : ∀d,o.dst=some d->d<N) {ops:Array Oper} {j d:Nat} {f want:Bool} (hgu:o.guard=some (j,want)) (hm:an s.t d≠none) (hf:f=true↔a.tmps.getD d undef = .bool want)
  (hw:sL o (yielded ops a.tmps)=true↔f=true) {wr:Option (List Nat×List Nat)} (hn:(guarded E s o d f want).val=some (s',wr)):wY P E B N w0 S0 β0 ops o a w s':=by
 have hskip:f=false->(iI s o d want).val=some (s',wr)->wY P E B N w0 S0 β0 ops o a w s':=by
  intro hne hs
  exact Wx rel hd hgu (by cases hq:sL o (yielded ops a.tmps)<;>simp_all) hm (fun e=>by rw[hf.2 e]at hne;cases hne) hs
 unfold guarded at hn
 split at hn
 .rename_i hsafe
  obtain⟨hsafe,hnd⟩:=aif hsafe
  split at hn
  .rename_i p hp
   split at hn
   .rename_i hfl
    rw[T.bw]at hn
    cases hn
    have hgd : ∀u,oH (ff s.t o.dst (.gd d f want p.1)) (a.put o.dst u):=fun u=>rel.gd.set _ _ fun d' j' b' want' x' hdst hx=>by
     cases hx
     unfold mM at hnd
     rw[hdst]at hnd
     simp only[aG,mD]at hnd
     exact⟨fun e=>(beq_false.1 hnd.1) e.symm,hm,hf⟩
    intro K Q hK
    cases hfv:f with
    | true=>
     rw[if_pos (hw.2 hfv)]
     have hg:CD a (some (d,want)):=fun d' want' e=>by cases e;exact hf.1 hfv
     refine Wc ok rel.inv (rel.args hg) (rel.We hg) hp K Q fun v w' S' β' inv' gr hv=>hK _ _ ⟨S',β',?_,?_,hgd v,rel.below.trans gr.below,fun q hq=>gr.sub q (rel.sub q hq),fun q hq=>(gr.news q hq).elim (rel.news q) .inr,fun k x hi hm hx=>rel.fix k x hi hm (gr.dS k x hi hx),by rw[Gn];exact rel.size,by rw[put_defers];exact rel.defers⟩
     .-- safe operations write no block
      have hws:p.2=[]:=aie hsafe hp
      rw[hws]at inv'
      exact inv'
     .refine s8.put (fun n=>gr.rv (rel.tok n)) (fun d hdd=>by rw[rel.size];exact hd d hdd) ⟨fun _=>?_,fun hne=>by rw[hfv]at hne;cases hne⟩
      have:RV w' S' β' p.1 v:=hv
      cases hp1:p.1<;>rw[hp1]at this hfl<;>first | exact this | (simp[LQ]at hfl)
    | false=>
     rw[if_neg (fun h=>by rw[hw.1 h]at hfv;cases hfv)]
     exact hK _ _ (Ww rel hd _ ⟨(fun e=>by rw[hfv]at e;cases e),fun _=>rfl⟩ (hgd _))
   .rw[T.aO]at hn;exact hn.elim
  .rw[T.dv]at hn
   rcases hn with ⟨_,hn⟩ | ⟨hq,hn⟩
   .rw[T.aO]at hn;exact hn.elim
   .exact hskip hq hn
 .rw[T.dv]at hn
  rcases hn with ⟨hq,hn⟩ | ⟨hq,hn⟩
  .intro K Q hK
   rw[if_pos (hw.2 hq)]
   exact Wv ok rel (fun d' want' e=>by cases e;exact hf.1 hq) hd hn K Q hK
  .exact hskip hq hn
theorem aig {ops:Array Oper} {j d:Nat} (hj:nK ops.toList j=some d) (hlt:d<a.tmps.size) (want:Bool):yielded ops a.tmps j=some want↔a.tmps.getD d undef = .bool want:=by
 unfold nK at hj
 split at hj
 .rename_i o ho
  simp only[Array.getElem?_toList]at ho
  simp only[yielded,ho,ar,hj]
  simp only[k8,qv hlt,k7]
  cases a.tmps[d]<;>simp
 .cases hj
theorem Wz (ok:aZ P E) (rel:Rel E B N w0 S0 β0 s a w S β) (hd : ∀d,o.dst=some d->d<N) {ops:Array Oper} (hdo : ∀j d,nK ops.toList j=some d->d<N) {wr:Option (List Nat×List Nat)} (hn:(stepG E ops.toList s o).val=some (s',wr)):wY P E B N w0 S0 β0 ops o a w s':=by
 unfold stepG at hn
 split at hn
 .rename_i hgu
  intro K Q hK
  rw[if_pos (by simp[sL,hgu])]
  exact Wv ok rel (fun d want e=>by cases e) hd hn K Q hK
 .rename_i j want hgu
  split at hn
  .rename_i d hj
   have hlt:d<a.tmps.size:=by rw[rel.size];exact hdo j d hj
   have ht:=rel.tok d
   have hya:=aig (a:=a) hj hlt want
   have hwa:sL o (yielded ops a.tmps)=true↔a.tmps.getD d undef = .bool want:=by
    rw[<-hya]
    simp only[sL,hgu]
    simp
   have hm:bJ s.t d ≠ .bL->an s.t d≠none:=fun hu hh=>hu (by unfold bJ;rw[hh])
   split at hn
   .rename_i b hb
    rw[hb]at ht
    have hv:=(dD ht).1
    have hf:asked b want=true↔a.tmps.getD d undef = .bool want:=by rw[hv,Gb];simp
    exact Wy ok rel hd hgu (hm (by rw[hb];simp)) hf (hwa.trans hf.symm) hn
   .rename_i j' f w' b hb
    rw[hb]at ht
    have hf:(f&&asked b want)=true↔a.tmps.getD d undef = .bool want:=by
     rw[aG]
     cases hfv:f with
     | true=>
      have hv:=(dD (RT.rv (ht.1 hfv))).1
      rw[hv,Gb];simp
     | false=>
      have hv:=ht.2 hfv
      rw[hv]
      constructor
      .rintro⟨h,_⟩;cases h
      .intro h;cases h
    exact Wy ok rel hd hgu (hm (by rw[hb];simp)) hf (hwa.trans hf.symm) hn
   .rename_i j' f w' x hnb hb
    rw[hb]at ht
    rw[T.dv]at hn
    rcases hn with ⟨_,hn⟩ | ⟨hq,hn⟩
    .rw[T.aO]at hn;exact hn.elim
    .have hv:=ht.2 hq
     have hne:a.tmps.getD d undef ≠ .bool want:=by rw[hv];intro h;cases h
     exact Wx rel hd hgu (by cases hq':sL o (yielded ops a.tmps)<;>simp_all) (hm (by rw[hb];simp)) hne hn
   .rw[T.aO]at hn;exact hn.elim
  .rw[T.aO]at hn;exact hn.elim
end
end
section
variable {P : Program} {E : Env}
section
variable {B : Nat -> Prop} {N : Nat} {β0 : Nat -> Option BI} {o : Oper} {a : Act} {w w' w0 : World} {S S' S0 : Nat -> Prop} {β β' : Nat -> Option BI} {h : Heap} {av : AV} {v : Value} {t : dG} {s s' : St} {g : Option (Nat × Bool)}
def tk (N:Nat) (ops:Array Oper):Prop:=∀o∈ops.toList,∀d,o.dst=some d->d<N
theorem tk.at {ops:Array Oper} (hd:tk N ops) {j d:Nat} (hj:nK ops.toList j=some d):d<N:=by
 unfold nK at hj
 split at hj
 .rename_i o ho;exact hd o (cL ho) d hj
 .cases hj
theorem WA {ops:Array Oper} {i:Nat} {Q:Exit->Act->World->Prop} {K:Act->World->Prop} (hi:ops[i]? = some o) (ho:wY P E B N w0 S0 β0 ops o a w s') (hK : ∀a' w',fj E B N w0 S0 β0 s' a' w'->K a' w'):wpOp P ops Q i K a w:=by
 have:=ho K Q hK
 unfold wpOp
 simp only[hi]
 split
 .rename_i hw;rw[if_pos hw]at this;exact .inl this
 .rename_i hw;rw[if_neg hw]at this;exact this
theorem aih (inv:Inv E B w S β h) {d:Nat} {x:Operand} (hx:RV w S β .e0 (a.eval x)) (ho:o.op = .assign x) {b:ah} (hb:an h d=some b) (e z:Nat):Cw P E B o a w S β h (.own d) [(d,⟨false,e,z,[]⟩)] [d]:=by
 obtain⟨A,hA⟩:=wQ hx
 intro K Q hK
 unfold Oper.wp
 have hr:(execOp a.eval o).run P w = .ok (.value (a.eval x)) w:=by simp[execOp,ho]
 rw[hr,Oper.upon_value]
 have gj:kE B [d] w S β w S (gc β d ⟨false,0,0,0,0⟩):=⟨dW.refl _ _,fun _ _=>rfl,fun _ h=>h,fun _ h=> .inl h,fun k y hk h1=>by rw[e9 β _ (by simpa using hk)];exact h1,fun k y _ hk h1=>by rwa[e9 β _ (by simpa using hk)]at h1⟩
 refine hK _ w S _ ?_ gj ⟨_,fN _ _ _,(fun h=>by cases h),fun _=>⟨A,hA⟩⟩
 refine⟨inv.base,inv.lt,?_,?_,?_,?_,inv.dH⟩
 .intro k k' y y' h1 h2 r1 r2 ee
  by_cases e1:k=d
  .subst e1;rw[fN]at h1;cases h1;cases r1
  .by_cases e2:k'=d
   .subst e2;rw[fN]at h2;cases h2;cases r2
   .rw[e9 β _ e1]at h1;rw[e9 β _ e2]at h2;exact inv.inj k k' y y' h1 h2 r1 r2 ee
 .intro k y h1 r1
  by_cases e1:k=d
  .subst e1;rw[fN]at h1;cases h1;cases r1
  .rw[e9 β _ e1]at h1;exact inv.new k y h1 r1
 .intro k y h1
  simp only[iy]
  by_cases e1:k=d
  .subst e1
   rw[fN]at h1
   cases h1
   exact⟨⟨false,e,z,[]⟩,by rw[gu,if_pos rfl],(fun hr=>by cases hr),fun _=>⟨rfl,rfl⟩⟩
  .rw[e9 β _ e1]at h1
   obtain⟨b1,a1,a2,a3⟩:=inv.di k y h1
   exact⟨b1.kill [d],by rw[gu,if_neg e1,gf,a1];rfl,fun hr=>(a2 hr).kill gj rfl,fun hr=>Gi (a3 hr)⟩
 .intro k b1 h1
  simp only[iy]at h1
  rw[gu]at h1
  by_cases e1:k=d
  .subst e1;exact⟨_,fN _ _ _⟩
  .rw[if_neg e1,gf]at h1
   cases hk:an h k with
   | none=>rw[hk]at h1;cases h1
   | some b2=>
    obtain⟨y,hy⟩:=inv.il k b2 hk
    exact⟨y,by rw[e9 β _ e1];exact hy⟩
theorem aii (ok:aZ P E) (rel:Rel E B N w0 S0 β0 s a w S β) (hd : ∀d,o.dst=some d->d<N) {ops:Array Oper} (hdo : ∀j d,nK ops.toList j=some d->d<N) {wr:Option (List Nat×List Nat)} (hn:(Ci E ops.toList s o).val=some (s',wr)):wY P E B N w0 S0 β0 ops o a w s':=by
 unfold Ci at hn
 split at hn
 .rename_i p hp
  unfold FZ at hp
  split at hp
  .rename_i hgu
   split at hp
   .rename_i x ho
    split at hp
    .rename_i h0
     split at hp
     .rename_i d hdst
      split at hp
      .split at hp
       .rename_i b hb
        split at hp
        .cases hp
        .split at hp
         .rename_i ti hti
          simp only[eX]at hp
          subst hp
          have hx:=rel.args (g:=none) (fun d want e=>by cases e) (E:=E) x
          have he:cM E none s.t x = .e0:=by cases hh:cM E none s.t x<;>rw[hh]at h0<;>first | rfl | (simp[sX]at h0)
          rw[he]at hx
          intro K Q hK
          rw[if_pos (by simp[sL,hgu])]
          exact Mi rel hd (aih rel.inv hx ho hb _ _) hn K Q hK
         .cases hp
       .cases hp
      .cases hp
     .cases hp
    .cases hp
   .cases hp
  .cases hp
 .obtain⟨S1,β1,rel1⟩:=Gt (LR E s.t (an s.h) o) rel
  exact Wz ok rel1 hd hdo hn
theorem WB (ok:aZ P E) {ops:Array Oper} (hd:tk N ops) {Q:Exit->Act->World->Prop} : ∀(r:List Oper) (k:Nat),(∀j,r[j]? = ops[k+j]?) -> ∀(s s':St) (a:Act) (w:World),fj E B N w0 S0 β0 s a w ->
  (steps E ops.toList r s).val=some s'->(∀a' w',fj E B N w0 S0 β0 s' a' w'->Q .normal a' w')->wpOps P ops Q (List.range' k r.length) a w
 | [],k,hr,s,s',a,w,rel,hs,hQ=>by
  rw[steps,T.bw]at hs
  subst hs
  exact hQ a w rel
 | o::r,k,hr,s,s',a,w,⟨S,β,rel⟩,hs,hQ=>by
  rw[steps,T.bind_some]at hs
  obtain⟨⟨s1,wr⟩,h1,h2⟩:=hs
  have hi:ops[k]? = some o:=by have:=hr 0;simpa using this.symm
  rw[gq,List.range'_succ,wpOps_cons]
  refine WA hi (aii ok rel (fun d hdd=>hd o (by simpa using UW hi) d hdd) (fun j d hj=>hd.at hj) h1) fun a' w' rel'=>?_
  exact WB ok hd r (k+1) (fun j=>by have:=hr (j+1);rw[qu]at this;rw[this];congr 1;omega) s1 s' a' w' rel' h2 hQ
theorem aij (ok:aZ P E) {ops:Array Oper} (hd:tk N ops) {id:Nat} {Q:Exit->Act->World->Prop} (rel:fj E B N w0 S0 β0 s a w) (hs:(steps E ops.toList ops.toList s).val=some s') (hQ : ∀a' w',fj E B N w0 S0 β0 s' a' w'->Q .normal a' w') :
  (Code.region id ops false).wp P Q a w:=by
 refine wp_region ?_
 rw[agw]
 have:=WB ok hd (Q:=Q) ops.toList 0 (fun j=>by simp) s s' a w rel hs hQ
 simpa using this
def tl (hg:Nat->Option ah) (ρ:Operand->AV) (o:Oper):List Nat:=wE o.dst++(match nL o.op with
 | true=>reach hg 1 (o.op.operands.toList.flatMap fun x=>bK (ρ x))
 | false=>[])
theorem Mp {hg hg':Nat->Option ah} {x:AV} (hk : ∀k∈du x,hg k=hg' k):iz hg x=iz hg' x:=by
 cases x
 case own k=>simp only[iz];rw[hk k (by simp[du,dk])]
 case win k lo n=>simp only[iz];rw[hk k (by simp[du,dk])]
 case fn f cs=>cases cs<;>rfl
 all_goals rfl
theorem qZ {hg:Nat->Option ah} : ∀(n:Nat) {ks ks':List Nat},(∀k∈ks,k∈ks') -> ∀k∈reach hg n ks,k∈reach hg n ks'
 | 0,ks,ks',h,k,hk=>h k hk
 | n+1,ks,ks',h,k,hk=>by
  refine qZ n (ks:=gb ks (ks.flatMap (fE hg))) (ks':=gb ks' (ks'.flatMap (fE hg))) (fun j hj=>?_) k hk
  rcases mR.1 hj with hj | hj
  .exact mR.2 (.inl (h j hj))
  .obtain⟨i,hi,hj⟩:=eF.1 hj
   exact mR.2 (.inr (eF.2 ⟨i,h i hi,hj⟩))
theorem WC {hg hg':Nat->Option ah} {x:AV} (hk : ∀k∈reach hg 1 (dk x),hg k=hg' k):mH hg x=mH hg' x:=by
 cases x
 case ptr k i off=>
  have e:=hk k (mS 1 (by simp[dk]))
  simp only[mH]
  rw[<-e]
  cases hb:hg k with
  | none=>rfl
  | some b=>
   simp only[]
   cases hbx:b.box with
   | false=>rfl
   | true=>
    simp only[]
    cases hr:b.rows[i]? with
    | none=>rfl
    | some row=>
     simp only[]
     congr 1
     refine k9 fun y hy=>Mp fun j hj=>hk j ?_
     refine Mj 0 (k:=k) (b:=b) (by simp[reach,dk]) hb ?_
     unfold jc
     rw[hbx]
     simp only[eF]
     exact⟨row,cL hr,y,hy,Wi hj⟩
 case own k=>exact Mp (x:= .own k) fun j hj=>hk j (mS 1 hj)
 case win k lo n=>exact Mp (x:= .win k lo n) fun j hj=>hk j (mS 1 hj)
 case fn f cs=>cases cs<;>rfl
 all_goals rfl
theorem WD {hg hg':Nat->Option ah} {x:AV} (hk : ∀k∈reach hg 1 (du x),hg k=hg' k):ov hg x=ov hg' x:=by
 by_cases hn : ∃f cs,x = .fn f cs
 .obtain⟨f,cs,rfl⟩:=hn
  simp only[ov]
  congr 1
  exact k9 fun y hy=>WC fun k hkk=>hk k (qZ 1 (fun j hj=>by simp only[du,eF];exact⟨y,hy,hj⟩) k hkk)
 .have hn' : ∀f cs,x ≠ .fn f cs:=fun f cs e=>hn ⟨f,cs,e⟩
  have e : ∀hg,ov hg x=mH hg x:=fun hg=>by cases x<;>first | rfl | exact absurd rfl (hn' _ _)
  rw[e,e]
  rw[F3 hn']at hk
  exact WC hk
theorem WE {hg hg':Nat->Option ah} {x:AV} (hk : ∀k∈reach hg 1 (e8 x),hg k=hg' k):oy hg x=oy hg' x:=by
 by_cases hn : ∃cs,x = .agg cs
 .obtain⟨cs,rfl⟩:=hn
  simp only[oy]
  congr 1
  exact k9 fun y hy=>WD fun k hkk=>hk k (qZ 1 (fun j hj=>by simp only[e8,eF];exact⟨y,hy,hj⟩) k hkk)
 .have hn' : ∀cs,x ≠ .agg cs:=fun cs e=>hn ⟨cs,e⟩
  have e : ∀hg,oy hg x=ov hg x:=fun hg=>by cases x<;>first | rfl | exact absurd rfl (hn' _)
  rw[e,e]
  rw[Cm hn']at hk
  exact WD hk
theorem aik {hg hg':Nat->Option ah} {x:AV} (hk : ∀k∈reach hg 1 (bK x),hg k=hg' k):oz hg x=oz hg' x:=by
 by_cases hn : ∃cs,x = .aF cs
 .obtain⟨cs,rfl⟩:=hn
  simp only[oz]
  congr 1
  exact k9 fun y hy=>WE fun k hkk=>hk k (qZ 1 (fun j hj=>by simp only[bK,eF];exact⟨y,hy,hj⟩) k hkk)
 .have hn' : ∀cs,x ≠ .aF cs:=fun cs e=>hn ⟨cs,e⟩
  by_cases hu : ∃j b want y,x = .gd j b want y
  .obtain⟨j,b,want,y,rfl⟩:=hu
   rfl
  .have hu' : ∀j b w y,x ≠ .gd j b w y:=fun j b w y e=>hu ⟨j,b,w,y,e⟩
   have e : ∀hg,oz hg x=oy hg x:=fun hg=>by cases x<;>first | rfl | exact absurd rfl (hn' _)
   rw[e,e]
   rw[wM hn' hu']at hk
   exact WE hk
theorem wZ {hg hg':Nat->Option ah} {dst:Option Tmp} (hk : ∀d,dst=some d->hg d=hg' d) (f:Nat->AV) (b:ah):made hg dst f b=made hg' dst f b:=by
 unfold made fresh
 cases dst with
 | none=>rfl
 | some d=>simp only[hk d rfl]
theorem WF {hg hg':Nat->Option ah} {x:AV} (hk : ∀k∈bK x,hg k=hg' k):rowsOf hg x=rowsOf hg' x:=by
 cases x
 case own k=>simp only[rowsOf];rw[hk k (by simp[bK,e8,du,dk])]
 all_goals rfl
theorem WG {hg hg':Nat->Option ah} {d:Nat} (hk : ∀k∈wD d,hg k=hg' k) : ∀H:Heap,qH hg d H=qH hg' d H
 | []=>rfl
 | p::r=>by
  simp only[qH]
  cases h4:lV p.1 4
  .rfl
  .have:p.1<4:=by simpa using h4
   have:hg (cz d p.1)=hg' (cz d p.1):=hk _ (by
    unfold wD
    rcases p with ⟨q,x⟩
    simp only at this ⊢
    rcases q with _ | _ | _ | _ | q<;>simp
    omega)
   simp only[this,WG hk r]
theorem ail {ρ ρ':Operand->AV} {hg hg':Nat->Option ah} (hρ : ∀x∈o.op.operands,ρ x=ρ' x) (hk : ∀k∈tl hg ρ o,hg k=hg' k) (hsh:Vp o.op=true -> ∀x∈o.op.operands,∀k∈bK (ρ x),(hg k).map ah.shape=(hg' k).map ah.shape):lm E ρ hg o=lm E ρ' hg' o:=by
 have hdst : ∀d,o.dst=some d->hg d=hg' d:=fun d hd=>hk d (by simp[tl,wE,hd])
 have hcall : ∀d,o.dst=some d -> ∀k∈wD d,hg k=hg' k:=fun d hd k hkk=>hk k (by simp[tl,wE,hd,hkk])
 have hop:nL o.op=true -> ∀x∈o.op.operands,∀k∈bK (ρ x),hg k=hg' k:=fun hm x hx k hkk=>hk k (by
  simp only[tl,dn,hm];exact .inr (mS 1 (eF.2 ⟨x,by simpa using hx,hkk⟩)))
 have hop1:nL o.op=true -> ∀x∈o.op.operands,∀k∈reach hg 1 (bK (ρ x)),hg k=hg' k:=fun hm x hx k hkk=>hk k (by
  simp only[tl,dn,hm];exact .inr (qZ 1 (fun j hj=>eF.2 ⟨x,by simpa using hx,hj⟩) k hkk))
 unfold lm
 cases ho:o.op<;>rw[ho]at hρ hop hop1 hsh<;>simp only[]<;>first | rfl | skip
 case move x=>rw[hρ x (by simp[cX])]
 case assign x=>
  have hf:fresh hg o.dst=fresh hg' o.dst:=by
   unfold fresh
   cases hd:o.dst with
   | none=>rfl
   | some d=>simp only[];rw[hdst d hd]
  rw[hρ x (by simp[cX])];simp only[wZ hdst,hf]
 case pick c x y=>
  rw[hρ x (by simp[cX]),hρ y (by simp[cX])]
  cases c<;>first | rfl | skip
  rename_i c
  simp only[hρ (.tmp c) (by simp[cX])]
 case binOp op t x y t2=>rw[hρ x (by simp[cX]),hρ y (by simp[cX])]
 case unOp op t x=>rw[hρ x (by simp[cX])]
 case convert t0 t x=>rw[hρ x (by simp[cX])]
 case extract x i=>rw[hρ x (by simp[cX])]
 case field s x f=>rw[hρ x (by simp[cX])]
 case nilCheck x=>rw[hρ x (by simp[cX])]
 case fieldAddr s x f=>rw[hρ x (by simp[cX])]
 case index t x i=>rw[hρ x (by simp[cX]),hρ i (by simp[cX])]
 case alloc t=>simp only[wZ hdst]
 case box t x=>rw[hρ x (by simp[cX])];simp only[wZ hdst]
 case build t parts=>
  have : ∀(ti:TI) (l:List (Nat×Operand)) (cs:List AV),(∀p∈l,ρ p.2=ρ' p.2)->pm ti ρ l cs=pm ti ρ' l cs:=by
   intro ti l
   induction l with
   | nil=>exact fun cs _=>rfl
   | cons p l ih=>
    intro cs hl
    obtain⟨f,x⟩:=p
    simp only[pm,hl (f,x) (by simp),ih _ fun q hq=>hl q (by simp[hq])]
  have hl : ∀p∈parts.toList,ρ p.2=ρ' p.2:=fun p hp=>hρ p.2 (by simp[cX];exact⟨p.1,by simpa using hp⟩)
  simp only[this _ parts.toList _ hl]
 case buildSlice t n parts=>
  have hl : ∀p∈parts.toList,ρ p.2=ρ' p.2:=fun p hp=>hρ p.2 (by simp[cX];exact⟨p.1,by simpa using hp⟩)
  have e1:parts.toList.all (fun p=>mJ (ρ p.2))=parts.toList.all (fun p=>mJ (ρ' p.2)):=by
   rw[Bool.eq_iff_iff,bP,bP]
   exact⟨fun hh p hp=>by rw[<-hl p hp];exact hh p hp,fun hh p hp=>by rw[hl p hp];exact hh p hp⟩
  have e2:(parts.toList.map fun p=>cellsOf (ρ p.2))=parts.toList.map fun p=>cellsOf (ρ' p.2):=k9 fun p hp=>by rw[hl p hp]
  have e3:(parts.toList.map fun p=>(cellsOf (ρ p.2)).map mI)=parts.toList.map fun p=>(cellsOf (ρ' p.2)).map mI:=k9 fun p hp=>by rw[hl p hp]
  simp only[e1,e2,e3,wZ hdst]
 case makeSlice t x y=>
  rw[hρ x (by simp[cX]),hρ y (by simp[cX])]
  simp only[FFq,wZ hdst]
 case load t x=>
  have e:=hop rfl x (by simp[cX])
  rw[hρ x (by simp[cX])]at e ⊢
  have : ∀ti,qJ E hg ti (ρ' x)=qJ E hg' ti (ρ' x):=fun ti=>by
   cases hx:ρ' x<;>simp only[qJ]
   rw[hx]at e
   rw[e _ (by simp[bK,e8,du,dk])]
  simp only[this]
 case store t x y=>
  have e:=hop rfl x (by simp[cX])
  rw[hρ y (by simp[cX])]
  rw[hρ x (by simp[cX])]at e ⊢
  have : ∀ti,sW E hg ti (ρ' y) (ρ' x)=sW E hg' ti (ρ' y) (ρ' x):=fun ti=>by
   cases hx:ρ' x<;>simp only[sW]
   rw[hx]at e
   rw[e _ (by simp[bK,e8,du,dk])]
  simp only[this]
 case slice t x lo hi mx=>
  have ho : ∀q:Option Operand,(∀y,q=some y->ρ y=ρ' y)->fF ρ q=fF ρ' q:=fun q hq=>by cases q<;>simp[fF,hq]
  rw[hρ x (by simp[cX]),ho lo fun y hy=>hρ y (by simp[cX,hy]),ho hi fun y hy=>hρ y (by simp[cX,hy]),ho mx fun y hy=>hρ y (by simp[cX,hy])]
  have e:=hsh rfl x (by simp[cX])
  rw[hρ x (by simp[cX])]at e
  have wb : ∀ti k,(hg k).map ah.shape=(hg' k).map ah.shape->sV hg ti k=sV hg' ti k:=fun ti k e=>by
   unfold sV
   cases h1:hg k with
   | none=>
    cases h2:hg' k with
    | none=>rfl
    | some y=>rw[h1,h2]at e;cases e
   | some y=>
    cases h2:hg' k with
    | none=>rw[h1,h2]at e;cases e
    | some z=>
     rw[h1,h2]at e
     simp only[lZ,eX,ah.shape,ny]at e
     obtain⟨e1,e2,e3⟩:=e
     simp only[e1,e2,e3]
  have : ∀ti l m,wj hg ti (ρ' x) l m=wj hg' ti (ρ' x) l m:=fun ti l m=>by
   unfold wj
   cases hx:ρ' x<;>simp only[]
   all_goals
    rw[hx]at e
    rw[wb ti _ (e _ (by simp[bK,e8,du,dk]))]
  simp only[this]
 case indexAddr t x i=>
  have e:=hsh rfl x (by simp[cX])
  rw[hρ i (by simp[cX])]
  rw[hρ x (by simp[cX])]at e ⊢
  have : ∀ti,wo E hg ti (ρ' x) (ρ' i)=wo E hg' ti (ρ' x) (ρ' i):=fun ti=>by
   unfold wo
   have key : ∀(b:Nat) (F:Bool->Nat->Nat->T AV),(hg b).map ah.shape=(hg' b).map ah.shape->(match hg b with | some y=>F y.box y.sz y.rows.length | none=> .fail)=(match hg' b with | some y=>F y.box y.sz y.rows.length | none=> .fail):=by
    intro b F e
    cases h1:hg b with
    | none=>
     cases h2:hg' b with
     | none=>rfl
     | some y=>rw[h1,h2]at e;cases e
    | some y=>
     cases h2:hg' b with
     | none=>rw[h1,h2]at e;cases e
     | some z=>
      rw[h1,h2]at e
      simp only[lZ,eX,ah.shape,ny]at e
      obtain⟨e1,e2,e3⟩:=e
      simp only[e1,e2,e3]
   cases hx:ρ' x<;>simp only[]
   case own b=>
    rw[hx]at e
    have e:=e b (by simp[bK,e8,du,dk])
    cases wm (ρ' i)with
    | none=>rfl
    | some n=>
     simp only[]
     congr 1
     funext j
     exact key b (fun bx sz ln=>match !bx&&bk sz ti.bv with | true=> .bM (decide (j<ln)) (.ret (.ptr b j 0)) .fail | false=> .fail) e
   case win b lo n=>
    rw[hx]at e
    have e:=e b (by simp[bK,e8,du,dk])
    cases wm (ρ' i)with
    | none=>rfl
    | some m=>
     simp only[]
     congr 1
     funext j
     exact key b (fun bx sz ln=>match LL bx sz ti.bv with | true=> .bM (decide (j<n)) (.ret (.ptr b (lo+j) 0)) .fail | false=> .fail) e
  simp only[this]
 case makeFunc fn first captured=>
  have e:captured.toList.map ρ=captured.toList.map ρ':=k9 fun x hx=>hρ x (by simp only[cX,BZ];exact .inr (by simpa using hx))
  simp only[e]
 case call c=>
  have harg : ∀x∈c.args.toList,ρ x=ρ' x:=fun x hx=>hρ x (by simp only[cX,nC,BZ];exact .inr (by simpa using hx))
  have hargk : ∀x∈c.args.toList,∀k∈bK (ρ x),hg k=hg' k:=fun x hx=>hop rfl x (by simp only[cX,nC,BZ];exact .inr (by simpa using hx))
  cases hc:c.callee<;>simp only[]
  case builtin b=>
   unfold FU
   cases b<;>simp only[]
   case len=>
    split
    .rename_i x ty ha hts
     have hx:x∈c.args.toList:=by rw[ha];simp
     have e:=hargk x hx
     rw[harg x hx]at e ⊢
     have : ∀ti,wl hg ti (ρ' x)=wl hg' ti (ρ' x):=fun ti=>by
      cases hxx:ρ' x
      case own j=>
       rw[hxx]at e
       simp only[wl]
       rw[e _ (by simp[bK,e8,du,dk])]
      case v y=>cases y<;>rfl
      all_goals rfl
     simp only[this]
    .rfl
   case max=>
    split
    .rename_i x y ha
     rw[harg x (by rw[ha];simp),harg y (by rw[ha];simp)]
    .rfl
   case min=>
    split
    .rename_i x y ha
     rw[harg x (by rw[ha];simp),harg y (by rw[ha];simp)]
    .rfl
   case append=>
    split
    .rename_i x y ty ty' ha hts
     have hy:y∈c.args.toList:=by rw[ha];simp
     have e:=hargk y hy
     rw[harg y hy]at e ⊢
     rw[harg x (by rw[ha];simp)]
     simp only[FT,WF e,wZ hdst]
    .rfl
   case clear=>
    split
    .rename_i x ty ha hts
     have hx:x∈c.args.toList:=by rw[ha];simp
     have e:=hargk x hx
     rw[harg x hx]at e ⊢
     have : ∀ti,wz hg ti (ρ' x)=wz hg' ti (ρ' x):=fun ti=>by
      cases hxx:ρ' x
      case win j lo n=>
       rw[hxx]at e
       simp only[wz]
       rw[e _ (by simp[bK,e8,du,dk])]
      all_goals rfl
     simp only[this]
    .rfl
  case value f=>
   have hf:ρ f=ρ' f:=hρ f (by simp[cX,nC,hc])
   have hfk:=hop1 rfl f (by simp[cX,nC,hc])
   rw[hf]at hfk ⊢
   cases hff:ρ' f<;>simp only[]
   rename_i fid cap
   rw[hff]at hfk
   have e0:c.args.toList.map ρ=c.args.toList.map ρ':=k9 harg
   cases hcap:cap.all qK
   .rfl
   have e1:(c.args.toList.map ρ'++cap).map (oz hg)=(c.args.toList.map ρ'++cap).map (oz hg'):=by
    refine k9 fun y hy=>aik fun k hkk=>?_
    rcases dn.1 hy with hy | hy
    .obtain⟨x,hx,rfl⟩:=eQ.1 hy
     rw[<-harg x hx]at hkk
     exact hop1 rfl x (by simp only[cX,nC,BZ];exact .inr (by simpa using hx)) k hkk
    .refine hfk k (qZ 1 (fun j hj=>?_) k hkk)
     simp only[bK,e8,du,eF]
     refine⟨y,hy,?_⟩
     have:=bP.1 hcap y hy
     cases y<;>first | exact hj | (simp[qK]at this)
   simp only[e0]
   unfold FV
   rw[e1]
   cases hdd:o.dst with
   | none=>rfl
   | some d=>simp only[WG (hcall d hdd)]
end
end
section
variable {P : Program} {E : Env}
section
variable {B : Nat -> Prop} {N : Nat} {β0 : Nat -> Option BI} {o : Oper} {a : Act} {w w' w0 : World} {S S' S0 : Nat -> Prop} {β β' : Nat -> Option BI} {h : Heap} {av : AV} {v : Value} {t : dG} {s s' s2 : St} {g : Option (Nat × Bool)} {ops : List Oper}
abbrev mT (ops:List Oper) (s:St) (o:Oper):List Nat:=fQ 2 ops s o
structure kI (ops:List Oper) (o:Oper) (s s2:St):Prop where
 t : ∀n∈tmpsOf ops o,bJ s2.t n=bJ s.t n
 h : ∀k∈mT ops s o,an s2.h k=an s.h k
 sh : ∀k∈sY ops s o,(an s2.h k).map ah.shape=(an s.h k).map ah.shape
theorem WH {n:Nat} (hx:Operand.tmp n∈o.op.operands):n∈tmpsOf ops o:=by
 unfold tmpsOf
 rw[dn]
 refine .inl ?_
 rw[eF]
 exact⟨.tmp n,by simpa using hx,by simp⟩
theorem aim {x:Operand} (hx : ∀n,x ≠ .tmp n):bK (ev E t x)=[]:=by
 cases x
 case tmp n=>exact absurd rfl (hx n)
 case const v=>
  simp only[ev]
  split
  .unfold pj
   split
   .rfl
   .rename_i cs
    simp only[bK,e8]
    rw[List.flatMap_eq_nil_iff]
    intro y hy
    obtain⟨u,_,rfl⟩:=eQ.1 hy
    rfl
   .rfl
  .rfl
 case global gl=>simp only[ev];split<;>rfl
 case func f=>rfl
theorem ain (x:AV) : ∀k∈bK (nI g x),k∈bK x:=by
 intro k hk
 unfold nI at hk
 split at hk
 .rename_i i b wt y
  split at hk
  .split at hk
   .unfold v7 at hk
    split at hk
    .simp[bK,e8,du,dk]at hk
    .simp[bK,e8,du,dk]at hk
    .rename_i h1 h2
     rw[wM h2 h1]at hk
     exact hk
   .exact hk
  .exact hk
 .exact hk
theorem q8 (ag:kI ops o s s2) : ∀x∈o.op.operands,cM E g s.t x=cM E g s2.t x:=by
 intro x hx
 unfold cM
 cases x with
 | tmp n=>simp only[ev];rw[ag.t n (WH hx)]
 | const v=>rfl
 | global gl=>rfl
 | func f=>rfl
theorem Mq {hg:Nat->Option ah} : ∀(n:Nat) {ks:List Nat} {k:Nat},k∈reach hg n ks->k∈reach hg (n+1) ks
 | 0,ks,k,hk=>mR.2 (.inl hk)
 | n+1,ks,k,hk=>Mq n hk
theorem tn {x:Operand} (hx:x∈o.op.operands) {k:Nat} (hk:k∈bK (cM E g s.t x)):k∈ma ops s o:=by
 have hk:=ain _ k hk
 unfold ma
 rw[eF]
 by_cases hn : ∃n,x = .tmp n
 .obtain⟨n,rfl⟩:=hn
  exact⟨n,WH hx,hk⟩
 .rw[aim fun n e=>hn ⟨n,e⟩]at hk
  cases hk
theorem aio : ∀k∈tl (an s.h) (cM E g s.t) o,k∈mT ops s o:=by
 intro k hk
 simp only[tl,mT,fQ,dn]at hk ⊢
 rcases hk with hk | hk
 .exact .inl hk
 .refine .inr ?_
  cases hm:nL o.op with
  | false=>simp only[hm]at hk;cases hk
  | true=>
   simp only[hm]at hk ⊢
   have h1:=Mq 1 hk
   refine qZ 2 (fun j hj=>?_) k h1
   rw[eF]at hj
   obtain⟨x,hx,hj⟩:=hj
   exact tn (by simpa using hx) hj
theorem Mr (ag:kI ops o s s2):lm E (cM E g s.t) (an s.h) o=lm E (cM E g s2.t) (an s2.h) o:=
 ail (q8 ag) (fun k hk=>(ag.h k (aio k hk)).symm) fun hs x hx k hk=>(ag.sh k (by unfold sY;rw[hs];exact tn hx hk)).symm
theorem Gu {α γ:Type} {f g:α->List γ} {l:List α} (hh : ∀x∈l,f x=g x):l.flatMap f=l.flatMap g:=by
 rw[vK,vK,k9 hh]
theorem aip {ρ ρ':Operand->AV} (hρ : ∀x∈o.op.operands,ρ x=ρ' x):fP E ρ o.dst o.op=fP E ρ' o.dst o.op:=by
 cases ho:o.op<;>rw[ho]at hρ
 case buildSlice t n parts=>
  have hl : ∀p∈parts.toList,ρ p.2=ρ' p.2:=fun p hp=>hρ p.2 (by simp[cX];exact⟨p.1,by simpa using hp⟩)
  have e2:(parts.toList.map fun p=>cellsOf (ρ p.2))=parts.toList.map fun p=>cellsOf (ρ' p.2):=k9 fun p hp=>by rw[hl p hp]
  have e3:(parts.toList.flatMap fun p=>bK (ρ p.2))=parts.toList.flatMap fun p=>bK (ρ' p.2):=Gu fun p hp=>by rw[hl p hp]
  simp only[fP,e2,e3]
 case slice t x lo hi mx=>
  cases mx
  .simp only[fP];rw[hρ x (by simp[cX])]
  .rfl
 case call c=>
  obtain⟨callee,args,ts⟩:=c
  cases callee
  case value f=>
   simp only[fP]
   rw[hρ f (by simp[cX,nC])]
   have e:args.toList.flatMap (fun x=>bK (ρ x))=args.toList.flatMap fun x=>bK (ρ' x):=Gu fun x hx=>by rw[hρ x (by simp only[cX,nC,BZ];exact .inr (by simpa using hx))]
   rw[e]
  all_goals rfl
 all_goals rfl
theorem aiq (ag:kI ops o s s2):fP E (cM E g s.t) o.dst o.op=fP E (cM E g s2.t) o.dst o.op:=aip (q8 ag)
theorem Ms {hg hg':Nat->Option ah} {ks:List Nat} : ∀ {l:List Nat} {acc:Heap},(∀k∈l,hg' k=hg k)->jD hg' ks l acc=jD hg ks l acc
 | [],acc,_=>rfl
 | k::l,acc,h=>by
  simp only[jD]
  rw[h k (by simp)]
  split
  .exact Ms fun j hj=>h j (by simp[hj])
  .exact Ms fun j hj=>h j (by simp[hj])
theorem all_congr {α:Type} {f g:α->Bool} : ∀ {l:List α},(∀x∈l,f x=g x)->l.all f=l.all g
 | [],_=>rfl
 | x::l,h=>by simp only[K7];rw[h x (by simp),all_congr fun y hy=>h y (by simp[hy])]
theorem air {hg hg':Nat->Option ah} {dst:Option Tmp} {f:FuncId} {args:List AV} (h1 : ∀k∈reach hg 2 (gb [] (args.flatMap bK)),hg' k=hg k) (h2 : ∀d,dst=some d -> ∀k∈wD d,hg' k=hg k):qG E hg' dst f args=qG E hg dst f args:=by
 unfold qG
 rw[Wg 2 h1]
 generalize reach hg 2 (gb [] (args.flatMap bK))=ks at h1
 unfold LH
 have e1:sS hg' ks=sS hg ks:=all_congr fun k hk=>by rw[h1 k hk]
 have e2:jD hg' ks ks []=jD hg ks ks []:=Ms h1
 rw[e1,e2]
 have e3 : ∀d nw p,(nw=true->dst=some d)->sU E hg' ks d nw p=sU E hg ks d nw p:=by
  intro d nw p hd
  unfold sU
  have:wh E hg' ks d nw p.2.1 p.2.2=wh E hg ks d nw p.2.1 p.2.2:=by
   unfold wh
   congr 3
   congr 1
   refine all_congr fun q hq=>?_
   split
   .rfl
   .cases nw with
    | false=>rfl
    | true=>
     simp only[fM]
     cases h4:lV q.1 4 with
     | false=>rfl
     | true=>
      have h4:q.1<4:=by simpa using h4
      rw[h2 d (hd rfl) (cz d q.1) (by
       unfold wD
       rcases q with ⟨q,x⟩
       simp only at h4 ⊢
       rcases q with _ | _ | _ | _ | q<;>simp
       omega)]
  rw[this]
 cases dst with
 | none=>simp only[e3 0 false _ (fun h=>by cases h)]
 | some d=>simp only[e3 d true _ (fun _=>rfl)]
theorem WI {ρ ρ':Operand->AV} (hρ : ∀x∈o.op.operands,ρ x=ρ' x):oE E ρ o.op=oE E ρ' o.op:=by
 cases ho:o.op<;>rw[ho]at hρ<;>try rfl
 rename_i c
 obtain⟨callee,args,ts⟩:=c
 cases callee
 case value f=>
  simp only[oE]
  rw[hρ f (by simp[cX,nC])]
  have e:args.toList.map ρ=args.toList.map ρ':=k9 fun x hx=>hρ x (by simp only[cX,nC,BZ];exact .inr (by simpa using hx))
  rw[e]
 all_goals rfl
theorem ais (ag:kI ops o s s2) {f:FuncId} {args:List AV} (hc:oE E (cM E g s.t) o.op=some (f,args)):qG E (an s2.h) o.dst f args=qG E (an s.h) o.dst f args:=by
 obtain⟨c,fo,caps,c1,c2,c3,c4⟩:=Wu hc
 refine air (fun k hk=>ag.h k ?_) fun d hd k hk=>ag.h k ?_
 .simp only[mT,fQ,dn,show nL o.op=true by rw[c1];rfl]
  refine .inr (qZ 2 (fun j hj=>?_) k hk)
  rcases mR.1 hj with hj | hj
  .simp at hj
  .obtain⟨x,hx,hj⟩:=eF.1 hj
   rw[c4,dn]at hx
   rcases hx with hx | hx
   .obtain⟨y,hy,rfl⟩:=eQ.1 hx
    exact tn (E:=E) (g:=g) (x:=y) (by rw[c1];simp only[cX,nC,BZ];exact .inr (by simpa using hy)) hj
   .refine tn (E:=E) (g:=g) (x:=fo) (by rw[c1];obtain⟨ce,ca,ct⟩:=c;simp only at c2;subst c2;simp[cX,nC]) ?_
    rw[c3]
    show j∈caps.flatMap dk
    rw[eF]
    have hcp:caps.all qK=true:=by
     unfold oE at hc
     rw[c1]at hc
     simp only[c2,c3]at hc
     split at hc
     .rename_i hh
      simp only[aG]at hh
      exact hh.2
     .cases hc
    have:=bP.1 hcp x hx
    refine⟨x,hx,?_⟩
    cases x<;>first | exact hj | (simp[qK]at this)
 .simp only[mT,fQ,hd,dn]
  exact .inl (List.mem_cons_of_mem _ hk)
theorem ait (ag:kI ops o s s2) (hm:nL o.op=true) {x y:Operand} {ty:TypeId} {j:Nat} (hx:x∈o.op.operands) (hy:y∈o.op.operands) (hj:Ch (cM E g s.t x)=some j):wB E (an s2.h) ty j (cM E g s2.t y)=wB E (an s.h) ty j (cM E g s.t y):=by
 have e1:=q8 (E:=E) (g:=g) ag y hy
 have hj':cM E g s.t x = .own j:=by unfold Ch at hj;split at hj<;>first | (cases hj;assumption) | (cases hj)
 have e2:an s2.h j=an s.h j:=ag.h j (by
  simp only[mT,fQ,dn,hm]
  exact .inr (mS 2 (tn (E:=E) (g:=g) hx (by rw[hj'];simp[bK,e8,du,dk]))))
 have e3:rowsOf (an s2.h) (cM E g s.t y)=rowsOf (an s.h) (cM E g s.t y):=WF fun k hk=>ag.h k (by
  simp only[mT,fQ,dn,hm]
  exact .inr (mS 2 (tn (E:=E) (g:=g) hy hk)))
 unfold wB
 rw[<-e1,e2,e3]
theorem q9 (x:AV):dw [] x=x:=by
 unfold dw
 have:((bK x).any fun k=>List.elem k [])=false:=by rw[BW];intro k _;simp
 rw[this]
theorem Gv (b:ah):b.kill []=b:=by
 unfold ah.kill
 split
 .obtain⟨bx,ty,sz,rows⟩:=b
  have:(rows.map fun r=>r.map (dw []))=rows:=by
   have e:(dw [])=id:=funext q9
   rw[e]
   simp
  simp only[this]
 .rfl
theorem aiu (s:St):s.kill []=s:=by
 obtain⟨t,h⟩:=s
 unfold St.kill
 have e1:(t.map fun p=>(p.1,dw [] p.2))=t:=by
  have:(fun p:Nat×AV=>(p.1,dw [] p.2))=id:=funext fun p=>by rw[q9];rfl
  rw[this];simp
 have e2:(h.map fun p=>(p.1,p.2.kill []))=h:=by
  have:(fun p:Nat×ah=>(p.1,p.2.kill []))=id:=funext fun p=>by rw[Gv];rfl
  rw[this];simp
 simp only[e1,e2]
theorem tu (s:St) (dst:Option Tmp) (av:AV) (ws:Heap):db s dst av ws []=⟨ff s.t dst av,iy s.h ws⟩:=by
 unfold db;rw[aiu]
def xa (ops:List Oper) (s:St) (o:Oper) (s':St) (wk:List Nat×List Nat) (st:St->T (St×Option (List Nat×List Nat))):Prop:=
 ∃av ws ks,s'=db s o.dst av ws ks/\wk=(ws.map (·.1),ks)/\(∀j b want x,av = .gd j b want x->j∈tmpsOf ops o) /\ ∀s2,kI ops o s s2->(st s2).val=some (db s2 o.dst av ws ks,some wk)
theorem WJ {wk:List Nat} (hn:(norm E g s o).val=some (s',wk)) : ∃av ws,s'=db s o.dst av ws []/\wk=ws.map (·.1)/\(∀j b want x,av ≠ .gd j b want x) /\ ∀s2,kI ops o s s2->(norm E g s2 o).val=some (db s2 o.dst av ws [],wk):=by
 unfold norm at hn
 rw[T.bind_some]at hn
 obtain⟨p,hp,hn⟩:=hn
 rw[T.bw]at hn
 cases hn
 refine⟨fC p.1,p.2,(tu _ _ _ _).symm,rfl,(fun j b want x hx=>tf hx),fun s2 ag=>?_⟩
 unfold norm
 rw[T.bind_some]
 exact⟨p,by rw[<-Mr ag];exact hp,by rw[tu];rfl⟩
theorem WK {p:AV×Heap×List Nat} {wk:List Nat×List Nat} (hn:(mL E s o.dst p).val=some (s',some wk)):s'=db s o.dst (fC p.1) p.2.1 p.2.2/\wk=(p.2.1.map (·.1),p.2.2) /\ ∀s2:St,(mL E s2 o.dst p).val=some (db s2 o.dst (fC p.1) p.2.1 p.2.2,some wk):=by
 unfold mL at hn
 split at hn
 .rename_i hm
  rw[T.bw]at hn
  cases hn
  refine⟨rfl,rfl,fun s2=>?_⟩
  unfold mL
  rw[hm]
  rfl
 .rw[T.aO]at hn;exact hn.elim
theorem WL {wk:List Nat×List Nat} (hn:(step1 E g s o).val=some (s',some wk)):xa ops s o s' wk fun s2=>step1 E g s2 o:=by
 have nrm:((norm E g s o).bind oD).val=some (s',some wk)->xa ops s o s' wk fun s2=>(norm E g s2 o).bind oD:=by
  intro hq
  rw[T.bind_some]at hq
  obtain⟨⟨s1,ws⟩,h1,h2⟩:=hq
  rw[show oD (s1,ws) = .ret (s1,some (ws,[])) from rfl,T.bw]at h2
  cases h2
  obtain⟨av,ws',e1,e2,e0,e3⟩:=WJ (ops:=ops) h1
  exact⟨av,ws',[],e1,by rw[e2],fun j b want x hx=>absurd hx (e0 j b want x),fun s2 ag=>by rw[T.bind_some];exact⟨_,e3 s2 ag,rfl⟩⟩
 unfold step1 at hn
 split at hn
 .rename_i x y ty hi
  have ho:=Wt hi
  have hx:x∈o.op.operands:=by rw[ho];simp[cX,nC]
  have hy:y∈o.op.operands:=by rw[ho];simp[cX,nC]
  split at hn
  .rename_i j hj
   rw[T.bind_some]at hn
   obtain⟨p,h1,h2⟩:=hn
   obtain⟨k1,k2,k3⟩:=WK h2
   refine⟨fC p.1,p.2.1,p.2.2,k1,k2,(fun j b want x hx=>absurd hx tf),fun s2 ag=>?_⟩
   show(step1 E g s2 o).val=_
   unfold step1
   simp only[hi]
   rw[<-q8 ag x hx]
   simp only[hj]
   rw[T.bind_some]
   exact⟨p,by rw[ait ag (by rw[ho];rfl) hx hy hj];exact h1,k3 s2⟩
  .rename_i hno
   obtain⟨av,ws,ks,e1,e2,e0,e3⟩:=nrm hn
   refine⟨av,ws,ks,e1,e2,e0,fun s2 ag=>?_⟩
   show(step1 E g s2 o).val=_
   unfold step1
   simp only[hi]
   rw[<-q8 ag x hx]
   simp only[hno]
   exact e3 s2 ag
 .rename_i hi
  split at hn
  .rename_i f args hc
   rw[T.bind_some]at hn
   obtain⟨p,h1,h2⟩:=hn
   obtain⟨k1,k2,k3⟩:=WK h2
   refine⟨fC p.1,p.2.1,p.2.2,k1,k2,(fun j b want x hx=>absurd hx tf),fun s2 ag=>?_⟩
   show(step1 E g s2 o).val=_
   unfold step1
   simp only[hi]
   rw[<-WI (q8 ag)]
   simp only[hc]
   rw[T.bind_some]
   exact⟨p,by rw[ais ag hc];exact h1,k3 s2⟩
  .rename_i hc
   split at hn
   .rename_i hf
    obtain⟨av,ws,ks,e1,e2,e0,e3⟩:=nrm hn
    refine⟨av,ws,ks,e1,e2,e0,fun s2 ag=>?_⟩
    show(step1 E g s2 o).val=_
    unfold step1
    simp only[hi]
    rw[<-WI (q8 ag),<-aiq ag]
    simp only[hc,hf]
    exact e3 s2 ag
   .split at hn
    .rw[T.bind_some]at hn
     obtain⟨⟨s1,ws⟩,h1,h2⟩:=hn
     rw[show FX (s1,ws) = .ret (s1,none) from rfl,T.bw]at h2
     cases h2
    .rw[T.aO]at hn;exact hn.elim
theorem Mt {d:Nat} {want:Bool} {wk:List Nat×List Nat} (hd:d∈tmpsOf ops o) (hn:(iI s o d want).val=some (s',some wk)):xa ops s o s' wk fun s2=>iI s2 o d want:=by
 rw[show iI s o d want = .ret (⟨ff s.t o.dst (mN o s.t d want),s.h⟩,some ([],[])) from rfl,T.bw]at hn
 cases hn
 refine⟨mN o s.t d want,[],[],by rw[tu];rfl,rfl,(fun j b want' x hx=>?_),fun s2 ag=>?_⟩
 .unfold mN at hx
  split at hx
  .cases hx;exact hd
  .cases hx
 .have:mN o s2.t d want=mN o s.t d want:=by unfold mN mM;rw[ag.t d hd]
  rw[tu]
  show(iI s2 o d want).val=_
  unfold iI
  rw[this];rfl
theorem aiv {d:Nat} {want:Bool} (hd:d∈tmpsOf ops o) (ag:kI ops o s s2):lq E s2 o d want=lq E s o d want:=by
 have h1:mM o s2.t d=mM o s.t d:=by unfold mM;rw[ag.t d hd]
 have h2:FY (cM E (some (d,want)) s2.t) (an s2.h) o.op=FY (cM E (some (d,want)) s.t) (an s.h) o.op:=by
  cases ho:o.op<;>try rfl
  rename_i t x
  have hx:x∈o.op.operands:=by rw[ho];simp[cX]
  simp only[FY]
  rw[<-q8 ag x hx]
  cases hr:cM E (some (d,want)) s.t x<;>try rfl
  rename_i k i off
  simp only[]
  rw[ag.h k (by
   simp only[mT,fQ,dn,show nL o.op=true by rw[ho];rfl]
   exact .inr (mS 2 (tn (E:=E) (g:=some (d,want)) hx (by rw[hr];simp[bK,e8,du,dk]))))]
 unfold lq
 rw[h1,h2]
theorem WM {d:Nat} {b want:Bool} {wk:List Nat×List Nat} (hd:d∈tmpsOf ops o) (hn:(guarded E s o d b want).val=some (s',some wk)):xa ops s o s' wk fun s2=>guarded E s2 o d b want:=by
 have hnd : ∀s2,kI ops o s s2->lq E s2 o d want=lq E s o d want:=fun s2 ag=>aiv hd ag
 unfold guarded at hn
 split at hn
 .rename_i hs
  split at hn
  .rename_i p hp
   split at hn
   .rename_i hfl
    rw[T.bw]at hn
    cases hn
    refine⟨.gd d b want p.1,[],[],by rw[tu];rfl,rfl,(fun j b want x hx=>by cases hx;exact hd),fun s2 ag=>?_⟩
    show(guarded E s2 o d b want).val=_
    unfold guarded
    rw[hnd s2 ag,hs,<-Mr ag,hp,tu]
    simp only[hfl]
    rfl
   .rw[T.aO]at hn;exact hn.elim
  .rename_i hp
   rw[T.dv]at hn
   rcases hn with ⟨_,hn⟩ | ⟨hq,hn⟩
   .rw[T.aO]at hn;exact hn.elim
   .obtain⟨av,ws,ks,e1,e2,e0,e3⟩:=Mt (ops:=ops) hd hn
    refine⟨av,ws,ks,e1,e2,e0,fun s2 ag=>?_⟩
    show(guarded E s2 o d b want).val=_
    unfold guarded
    rw[hnd s2 ag,hs,<-Mr ag,hp]
    simp only[]
    rw[T.dv]
    exact .inr ⟨hq,e3 s2 ag⟩
 .rename_i hs
  rw[T.dv]at hn
  rcases hn with ⟨hq,hn⟩ | ⟨hq,hn⟩
  .obtain⟨av,ws,ks,e1,e2,e0,e3⟩:=WL (ops:=ops) hn
   refine⟨av,ws,ks,e1,e2,e0,fun s2 ag=>?_⟩
   show(guarded E s2 o d b want).val=_
   unfold guarded
   rw[hnd s2 ag,hs]
   simp only[]
   rw[T.dv]
   exact .inl ⟨hq,e3 s2 ag⟩
  .obtain⟨av,ws,ks,e1,e2,e0,e3⟩:=Mt (ops:=ops) hd hn
   refine⟨av,ws,ks,e1,e2,e0,fun s2 ag=>?_⟩
   show(guarded E s2 o d b want).val=_
   unfold guarded
   rw[hnd s2 ag,hs]
   simp only[]
   rw[T.dv]
   exact .inr ⟨hq,e3 s2 ag⟩
theorem Gw {wk:List Nat×List Nat} (hn:(stepG E ops s o).val=some (s',some wk)):xa ops s o s' wk fun s2=>stepG E ops s2 o:=by
 unfold stepG at hn
 split at hn
 .rename_i hgu
  obtain⟨av,ws,ks,e1,e2,e0,e3⟩:=WL (ops:=ops) hn
  exact⟨av,ws,ks,e1,e2,e0,fun s2 ag=>by show(stepG E ops s2 o).val=_;unfold stepG;simp only[hgu];exact e3 s2 ag⟩
 .rename_i j want hgu
  split at hn
  .rename_i d hj
   have hd:d∈tmpsOf ops o:=by unfold tmpsOf;simp[hgu,hj]
   split at hn
   .rename_i b hb
    obtain⟨av,ws,ks,e1,e2,e0,e3⟩:=WM (ops:=ops) hd hn
    exact⟨av,ws,ks,e1,e2,e0,fun s2 ag=>by show(stepG E ops s2 o).val=_;unfold stepG;simp only[hgu,hj];rw[ag.t d hd,hb];exact e3 s2 ag⟩
   .rename_i j' b' w' b hb
    obtain⟨av,ws,ks,e1,e2,e0,e3⟩:=WM (ops:=ops) hd hn
    exact⟨av,ws,ks,e1,e2,e0,fun s2 ag=>by show(stepG E ops s2 o).val=_;unfold stepG;simp only[hgu,hj];rw[ag.t d hd,hb];exact e3 s2 ag⟩
   .rename_i j' b' w' x hnb hb
    rw[T.dv]at hn
    rcases hn with ⟨hq,hn⟩ | ⟨hq,hn⟩
    .rw[T.aO]at hn;exact hn.elim
    .obtain⟨av,ws,ks,e1,e2,e0,e3⟩:=Mt (ops:=ops) hd hn
     exact⟨av,ws,ks,e1,e2,e0,fun s2 ag=>by show(stepG E ops s2 o).val=_;unfold stepG;simp only[hgu,hj];rw[ag.t d hd,hb];simp only[];rw[T.dv];exact .inr ⟨hq,e3 s2 ag⟩⟩
   .rw[T.aO]at hn;exact hn.elim
  .rw[T.aO]at hn;exact hn.elim
structure eH (s s2:St):Prop where
 t : ∀n,bJ s2.t n=bJ s.t n
 n : ∀n,an s2.t n=none↔an s.t n=none
 h : ∀k,an s2.h k=an s.h k
theorem eH.refl (s:St):eH s s:=⟨fun _=>rfl,fun _=>Iff.rfl,fun _=>rfl⟩
theorem eH.symm (e:eH s s2):eH s2 s:=⟨fun n=>(e.t n).symm,fun n=>(e.n n).symm,fun k=>(e.h k).symm⟩
theorem eH.trans {s3:St} (e:eH s s2) (f:eH s2 s3):eH s s3:=⟨fun n=>(f.t n).trans (e.t n),fun n=>(f.n n).trans (e.n n),fun k=>(f.h k).trans (e.h k)⟩
theorem eH.agree (e:eH s s2):kI ops o s s2:=⟨fun n _=>e.t n,fun k _=>e.h k,fun k _=>by rw[e.h k]⟩
theorem tv (t:dG) (d n:Nat):bJ (kz t d) n=match an t d with | none=>bJ t n | some _=>oB d (bJ t n):=by
 unfold kz
 cases hd:an t d with
 | none=>rfl
 | some y=>exact ly t (oB d) rfl n
theorem aiw {t t2:dG} (ht : ∀n,bJ t2 n=bJ t n) (hn : ∀n,an t2 n=none↔an t n=none) (dst:Option Tmp) (x:AV):(∀n,bJ (ff t2 dst x) n=bJ (ff t dst x) n)/\(∀n,an (ff t2 dst x) n=none↔an (ff t dst x) n=none):=by
 cases dst with
 | none=>exact⟨ht,hn⟩
 | some d=>
  refine⟨fun n=>?_,fun n=>?_⟩
  .simp only[ff,wJ]
   split
   .rfl
   .rw[tv,tv,ht n]
    have:=hn d
    cases h1:an t2 d<;>cases h2:an t d<;>simp_all
  .simp only[ff,gu]
   split
   .exact Iff.rfl
   .rw[Gm,Gm];exact hn n
theorem aix (e:eH s s2) (ks:List Nat):eH (s.kill ks) (s2.kill ks):=by
 refine⟨fun n=>?_,fun n=>?_,fun k=>?_⟩
 .show bJ (s2.t.map fun p=>(p.1,dw ks p.2)) n=bJ (s.t.map fun p=>(p.1,dw ks p.2)) n
  rw[ly s2.t (dw ks) rfl,ly s.t (dw ks) rfl,e.t n]
 .show an (s2.t.map fun p=>(p.1,dw ks p.2)) n=none↔an (s.t.map fun p=>(p.1,dw ks p.2)) n=none
  rw[gf,gf]
  have:=e.n n
  cases h1:an s2.t n<;>cases h2:an s.t n<;>simp_all
 .show an (s2.h.map fun p=>(p.1,p.2.kill ks)) k=an (s.h.map fun p=>(p.1,p.2.kill ks)) k
  rw[gf (fun b:ah=>b.kill ks),gf (fun b:ah=>b.kill ks),e.h k]
theorem WN (e:eH s s2) (dst:Option Tmp) (x:AV) (ws:Heap) (ks:List Nat):eH (db s dst x ws ks) (db s2 dst x ws ks):=by
 have e:=aix e ks
 obtain⟨h1,h2⟩:=aiw e.t e.n dst x
 exact⟨h1,h2,fun k=>by simp only[db,Cz,e.h k]⟩
theorem aiy (e:eH s s2) (k:Nat):eH (s.freeze k) (s2.freeze k):=by
 unfold St.freeze
 rw[e.h k]
 split
 .rename_i bl _
  split
  .exact e
  .refine⟨fun n=>?_,fun n=>?_,fun q=>?_⟩
   .show bJ (s2.t.map fun p=>(p.1,kA k bl p.2)) n=bJ (s.t.map fun p=>(p.1,kA k bl p.2)) n
    rw[ly s2.t (kA k bl) rfl,ly s.t (kA k bl) rfl,e.t n]
   .show an (s2.t.map fun p=>(p.1,kA k bl p.2)) n=none↔an (s.t.map fun p=>(p.1,kA k bl p.2)) n=none
    rw[gf,gf]
    have:=e.n n
    cases h1:an s2.t n<;>cases h2:an s.t n<;>simp_all
   .show an ((s2.h.filter fun p=> !bk p.1 k).map fun p=>(p.1,p.2.fP k bl)) q=an ((s.h.filter fun p=> !bk p.1 k).map fun p=>(p.1,p.2.fP k bl)) q
    rw[gf (fun c=>ah.fP k c bl),gf (fun c=>ah.fP k c bl),wX (fun q=> !bk q k),wX (fun q=> !bk q k),e.h q]
 .exact e
theorem WO : ∀(ks:List Nat) {s s2:St},eH s s2->eH (s.oC ks) (s2.oC ks)
 | [],s,s2,e=>e
 | k::r,s,s2,e=>WO r (aiy e k)
theorem Rel.eqv (rel:Rel E B N w0 S0 β0 s a w S β) (e:eH s s2):Rel E B N w0 S0 β0 s2 a w S β:=by
 have inv:=rel.inv
 refine⟨⟨inv.base,inv.lt,inv.inj,inv.new,fun k x hx=>?_,fun k bl hk=>inv.il k bl (by rw[<-e.h k];exact hk),inv.dH⟩,fun n=>by rw[e.t n];exact rel.tok n,fun n j b want x hn=>?_,rel.below,rel.sub,rel.news,rel.fix,rel.size,rel.defers⟩
 .obtain⟨bl,h1,h2,h3⟩:=inv.di k x hx
  exact⟨bl,by rw[e.h k];exact h1,h2,h3⟩
 .rw[e.t n]at hn
  obtain⟨h1,h2⟩:=rel.gd n j b want x hn
  exact⟨fun hh=>h1 ((e.n j).1 hh),h2⟩
theorem aiz {wk:List Nat×List Nat} (e:eH s s2) {st:St->T (St×Option (List Nat×List Nat))} (hf:xa ops s o s' wk st) : ∃s2',(st s2).val=some (s2',some wk)/\eH s' s2':=by
 obtain⟨av,ws,ks,e1,e2,_,e3⟩:=hf
 exact⟨_,e3 s2 e.agree,by rw[e1];exact WN e _ _ _ _⟩
theorem aiA {ws:List Nat} (e:eH s s2) (hn:(norm E g s o).val=some (s',ws)) : ∃s2',(norm E g s2 o).val=some (s2',ws)/\eH s' s2':=by
 obtain⟨av,ws',e1,e2,_,e3⟩:=WJ (ops:=[o]) hn
 exact⟨_,e3 s2 e.agree,by rw[e1];exact WN e _ _ _ _⟩
theorem WP (e:eH s s2) (hn:(step1 E g s o).val=some (s',none)) : ∃s2',(step1 E g s2 o).val=some (s2',none)/\eH s' s2':=by
 have hρ : ∀x,cM E g s2.t x=cM E g s.t x:=fun x=>by
  unfold cM
  cases x with
  | tmp n=>simp only[ev];rw[e.t n]
  | const v=>rfl
  | global gl=>rfl
  | func f=>rfl
 have hρ':cM E g s2.t=cM E g s.t:=funext hρ
 have kn : ∀ {s:St} {p:AV×Heap×List Nat},(mL E s o.dst p).val=some (s',none)->False:=by
  intro s p hk
  unfold mL at hk
  split at hk
  .rw[T.bw]at hk;cases hk
  .rw[T.aO]at hk;exact hk
 have nn:((norm E g s o).bind oD).val=some (s',none)->False:=by
  intro hq
  rw[T.bind_some]at hq
  obtain⟨⟨s1,ws⟩,h1,h2⟩:=hq
  rw[show oD (s1,ws) = .ret (s1,some (ws,[])) from rfl,T.bw]at h2
  cases h2
 unfold step1 at hn ⊢
 rw[hρ']
 cases hi:isApp o.op with
 | some q=>
  obtain⟨qx,qy,qt⟩:=q
  simp only[hi]at hn
  cases hj:Ch (cM E g s.t qx)with
  | some jj=>
   simp only[hj]at hn
   rw[T.bind_some]at hn
   obtain⟨p,_,h2⟩:=hn
   exact(kn h2).elim
  | none=>
   simp only[hj]at hn
   exact(nn hn).elim
 | none=>
  simp only[hi]at hn ⊢
  cases hc:oE E (cM E g s.t) o.op with
  | some q=>
   simp only[hc]at hn
   rw[T.bind_some]at hn
   obtain⟨p,_,h2⟩:=hn
   exact(kn h2).elim
  | none=>
   simp only[hc]at hn ⊢
   cases hf:fP E (cM E g s.t) o.dst o.op with
   | nil=>
    simp only[hf]at hn
    exact(nn hn).elim
   | cons kk kr=>
    simp only[hf]at hn ⊢
    split at hn
    .rename_i hpl
     rw[T.bind_some]at hn
     obtain⟨⟨s1,ws⟩,h1,h2⟩:=hn
     obtain⟨s2',h3,h4⟩:=aiA (WO _ e) h1
     rw[show FX (s1,ws) = .ret (s1,none) from rfl,T.bw]at h2
     cases h2
     refine⟨s2',?_,h4⟩
     have hpl2:LP s2.t g=true:=by unfold LP at hpl ⊢;split<;>simp_all [e.t]
     rw[hpl2]
     simp only[T.bind_some]
     exact⟨_,h3,rfl⟩
    .rw[T.aO]at hn;exact hn.elim
theorem aiB {wr:Option (List Nat×List Nat)} (e:eH s s2) (hn:(stepG E ops s o).val=some (s',wr)) : ∃s2',(stepG E ops s2 o).val=some (s2',wr)/\eH s' s2':=by
 cases wr with
 | some wk=>exact aiz e (Gw hn)
 | none=>
  have sk : ∀ {d want},(iI s o d want).val=some (s',none)->False:=by
   intro d want hk
   rw[show iI s o d want = .ret (⟨ff s.t o.dst (mN o s.t d want),s.h⟩,some ([],[])) from rfl,T.bw]at hk
   cases hk
  have gd : ∀ {d b want},(guarded E s o d b want).val=some (s',none) -> ∃s2',(guarded E s2 o d b want).val=some (s2',none)/\eH s' s2':=by
   intro d b want hn
   unfold guarded at hn ⊢
   have hnd:lq E s2 o d want=lq E s o d want:=by
    have h1:mM o s2.t d=mM o s.t d:=by unfold mM;rw[e.t d]
    have h3:cM E (some (d,want)) s2.t=cM E (some (d,want)) s.t:=funext fun x=>by
     unfold cM
     cases x with
     | tmp n=>simp only[ev];rw[e.t n]
     | const v=>rfl
     | global gl=>rfl
     | func f=>rfl
    have h4:an s2.h=an s.h:=funext e.h
    unfold lq
    rw[h1,h3,h4]
   rw[hnd]
   cases hs:lq E s o d want with
   | true=>
    simp only[hs]at hn
    split at hn
    .split at hn
     .rw[T.bw]at hn;cases hn
     .rw[T.aO]at hn;exact hn.elim
    .rw[T.dv]at hn
     rcases hn with ⟨_,hn⟩ | ⟨hq,hn⟩
     .rw[T.aO]at hn;exact hn.elim
     .exact(sk hn).elim
   | false=>
    simp only[hs]at hn ⊢
    rw[T.dv]at hn
    rcases hn with ⟨hq,hn⟩ | ⟨hq,hn⟩
    .obtain⟨s2',h1,h2⟩:=WP e hn
     exact⟨s2',by rw[T.dv];exact .inl ⟨hq,h1⟩,h2⟩
    .exact(sk hn).elim
  unfold stepG at hn ⊢
  cases hgu:o.guard with
  | none=>
   simp only[hgu]at hn ⊢
   exact WP e hn
  | some q=>
   obtain⟨j,want⟩:=q
   simp only[hgu]at hn ⊢
   cases hj:nK ops j with
   | none=>simp only[hj]at hn;rw[T.aO]at hn;exact hn.elim
   | some d=>
    simp only[hj]at hn ⊢
    rw[e.t d]
    split at hn
    .exact gd hn
    .exact gd hn
    .rw[T.dv]at hn
     rcases hn with ⟨hq,hn⟩ | ⟨hq,hn⟩
     .rw[T.aO]at hn;exact hn.elim
     .exact(sk hn).elim
    .rw[T.aO]at hn;exact hn.elim
theorem xb {ks:List Nat} {x:AV} (hh:jd ks x=false):dw ks x=x:=by
 unfold dw
 unfold jd at hh
 rw[hh]
theorem CH {ks:List Nat} {x:AV} (hh : ∀k∈bK x,k∉ks):jd ks x=false:=by
 unfold jd
 rw[BW]
 intro k hk
 simpa using hh k hk
theorem Gx {ks:List Nat} {b:ah} (hh : ∀k∈jc b,k∉ks):mb ks b=false:=by
 unfold mb
 rw[BW]
 intro k hk
 simpa using hh k hk
theorem Gy (x:AV):jd [] x=false:=CH (fun k _=>by simp)
theorem WQ (b:ah):mb [] b=false:=Gx (fun k _=>by simp)
theorem Mu {ks:List Nat} {x:AV} (hh:jd ks x=true) : ∃k∈bK x,k∈ks:=by
 unfold jd at hh
 rw[K8]at hh
 obtain⟨k,h1,h2⟩:=hh
 exact⟨k,h1,by simpa using h2⟩
theorem Mv {ks:List Nat} {b:ah} (hh:mb ks b=true) : ∃k∈jc b,k∈ks:=by
 unfold mb at hh
 rw[K8]at hh
 obtain⟨k,h1,h2⟩:=hh
 exact⟨k,h1,by simpa using h2⟩
theorem Gz {ks:List Nat} {b:ah} (hh:mb ks b=false):b.kill ks=b:=by
 unfold ah.kill
 split
 .rename_i hb
  obtain⟨bx,ty,sz,rows⟩:=b
  simp only at hb
  subst hb
  have:(rows.map fun r=>r.map (dw ks))=rows:=by
   have e : ∀r∈rows,r.map (dw ks)=r:=by
    intro r hr
    refine VY fun y hy=>xb (CH fun k hk=>?_)
    unfold mb at hh
    have:=BW.1 hh k (by unfold jc;simp only[eF];exact⟨r,hr,y,hy,hk⟩)
    simpa using this
   rw[k9 (g:=id) e]
   simp
  simp only[this]
 .rfl
theorem WR {ks:List Nat} {x:AV} {k:Nat} (hk:k∈bK (dw ks x)):k∈bK x:=by
 unfold dw at hk
 split at hk
 .simp[bK,e8,du,dk]at hk
 .exact hk
theorem Mw {ks:List Nat} {b:ah} {k:Nat} (hk:k∈jc (b.kill ks)):k∈jc b:=by
 unfold ah.kill at hk
 split at hk
 .rename_i hb
  unfold jc at hk ⊢
  rw[hb]at hk ⊢
  simp only[eF,eQ]at hk ⊢
  obtain⟨r,⟨r0,hr0,rfl⟩,y,hy,hk⟩:=hk
  obtain⟨y0,hy0,rfl⟩:=eQ.1 hy
  exact⟨r0,hr0,y0,hy0,WR hk⟩
 .exact hk
theorem aiC {ks ks':List Nat} {x:AV} (hh:jd ks (dw ks' x)=true):dw ks' x=x:=by
 unfold dw at hh ⊢
 split
 .rename_i h1
  rw[h1]at hh
  simp[jd,bK,e8,du,dk]at hh
 .rfl
theorem aiD {ks ks':List Nat} {b:ah} (hh:mb ks (b.kill ks')=true):mb ks b=true:=by
 obtain⟨k,h1,h2⟩:=Mv hh
 unfold mb
 rw[K8]
 exact⟨k,Mw h1,by simpa using h2⟩
theorem xc {t:dG} {d:Nat}:(∀n,bJ (kz t d) n=bJ t n)↔(an t d=none \/ ∀n,l9 d (bJ t n)=false):=by
 constructor
 .intro hh
  cases hm:an t d with
  | none=>exact .inl rfl
  | some y=>
   refine .inr fun n=>?_
   have:=hh n
   rw[tv,hm]at this
   simp only[oB]at this
   split at this
   .rename_i hg
    rw[<-this]at hg
    cases hg
   .assumption
 .rintro(hm | hh) n
  .rw[tv,hm]
  .rw[tv]
   split
   .rfl
   .unfold oB;rw[hh n]
theorem GA {dst:Option Tmp} (hnu : ∀d,dst=some d -> ∀n,bJ (kz s.t d) n=bJ s.t n) (x:AV) (ws:Heap) (ks:List Nat) (n:Nat):bJ (db s dst x ws ks).t n=if dst=some n then x else dw ks (bJ s.t n):=by
 have hk : ∀n,bJ (s.kill ks).t n=dw ks (bJ s.t n):=fun n=>ly s.t (dw ks) rfl n
 unfold db
 cases dst with
 | none=>simp[ff,hk]
 | some d=>
  simp only[ff,wJ]
  by_cases e:n=d
  .subst e;simp
  .rw[if_neg e,if_neg (by simpa using fun h=>e h.symm)]
   have : ∀n,bJ (kz (s.kill ks).t d) n=bJ (s.kill ks).t n:=by
    rw[xc]
    rcases xc.1 (hnu d rfl)with hm | hh
    .refine .inl ?_
     show an (s.t.map fun p=>(p.1,dw ks p.2)) d=none
     rw[gf,hm];rfl
    .refine .inr fun n=>?_
     rw[hk]
     cases hg:l9 d (dw ks (bJ s.t n))with
     | false=>rfl
     | true=>
      obtain⟨b,want,y,hy⟩:=Mf hg
      have:=hh n
      rw[Gp hy]at this
      simp[l9]at this
   rw[this,hk]
theorem Mx (dst:Option Tmp) (x:AV) (ws:Heap) (ks:List Nat) (n:Nat):an (db s dst x ws ks).t n=none↔(dst≠some n/\an s.t n=none):=by
 have hk:an (s.kill ks).t n=none↔an s.t n=none:=by
  show an (s.t.map fun p=>(p.1,dw ks p.2)) n=none↔_
  rw[gf];cases an s.t n<;>simp
 unfold db
 cases dst with
 | none=>simp[ff,hk]
 | some d=>
  simp only[ff,gu]
  by_cases e:n=d
  .subst e;simp
  .rw[if_neg e,Gm,hk];simp;exact fun _=>fun h=>e h.symm
theorem jG (dst:Option Tmp) (x:AV) (ws:Heap) (ks:List Nat) (k:Nat):an (db s dst x ws ks).h k=(an ws.reverse k).or ((an s.h k).map (ah.kill ks)):=by
 unfold db
 rw[Cz]
 show _=(an ws.reverse k).or ((an s.h k).map (ah.kill ks))
 congr 1
 exact gf (fun b:ah=>b.kill ks) s.h k
theorem aiE {hg:Nat->Option ah} (n:Nat) {ks:List Nat} {k:Nat} (hk:k∈reach hg n ks):k∈reach hg (n+1) ks:=Mq n hk
theorem WS {k:Nat} (hk:k∈mT ops s o):k∈fQ 3 ops s o:=by
 simp only[mT,fQ,dn]at hk ⊢
 refine hk.imp id ?_
 cases nL o.op with
 | false=>exact fun h=>h
 | true=>exact aiE 2
theorem aiF {hg hg':Nat->Option ah} {ks:List Nat} (hh : ∀k∈reach hg 2 ks,hg' k=hg k):reach hg' 3 ks=reach hg 3 ks:=Wh 2 hh
theorem CI (ag:kI ops o s s2):ma ops s2 o=ma ops s o:=Gu fun n hn=>by rw[ag.t n hn]
theorem My (ag:kI ops o s s2):sY ops s2 o=sY ops s o:=by
 unfold sY
 rw[CI ag]
theorem Mz (ks:List Nat) (b:ah):(b.kill ks).shape=b.shape:=by
 unfold ah.kill ah.shape
 split<;>simp
theorem xd (ag:kI ops o s s2):fQ 3 ops s2 o=fQ 3 ops s o:=by
 have hh:=ag.h
 unfold mT fQ at hh
 unfold fQ
 rw[CI ag]
 cases hm:nL o.op with
 | false=>rfl
 | true=>
  simp only[hm]at hh ⊢
  rw[aiF (hg:=an s.h) (hg':=an s2.h)]
  intro k hk
  exact hh k (dn.2 (.inr hk))
structure nR (ops:List Oper) (s:St) (oo:Oper) (ww:Option (List Nat×List Nat)) (s1:St) (f:FP):Prop where
 o:f.o=oo
 tm:f.tm=tmpsOf ops oo
 wr:f.wr=ww
 rd : ∀k∈fQ 3 ops s oo,k∈f.rd
 tr : ∀k∈ma ops s oo,k∈f.tr
 Hj : ∀k∈fQ 3 ops s oo,k∈f.tr
 C0 : ∀d,oo.dst=some d -> ∀k∈bK (bJ s.t d),k∈f.tr
 Hk : ∀k∈wE oo.dst,∀b,an s.h k=some b -> ∀j∈jc b,j∈f.tr
 Hl : ∀wk ks,ww=some (wk,ks) -> ∀k∈wk,∀b,an s.h k=some b -> ∀j∈jc b,j∈f.tr
 rf : ∀k∈qO s1 oo ww,k∈f.rf
 kt : ∀wk ks,ww=some (wk,ks) -> ∀n,jd ks (bJ s.t n)=true->n∈f.kt
 hit : ∀wk ks,ww=some (wk,ks) -> ∀k b,an s.h k=some b->mb ks b=true->k∈f.hit
 nu:f.nu=true -> ∀d,oo.dst=some d -> ∀n,bJ (kz s.t d) n=bJ s.t n
 og : ∀d j b want x,oo.dst=some d->bJ s.t d = .gd j b want x->j∈f.og
 Hm : ∀wk ks,ww=some (wk,ks) -> ∀n j b want x,jd ks (bJ s.t n)=true->bJ s.t n = .gd j b want x->j∈f.og
 sh : ∀k∈sY ops s oo,k∈f.sh
 sp:ww.isSome=true -> ∀k,k∉f.ws->(an s1.h k).map ah.shape=(an s.h k).map ah.shape
theorem WT {t:dG} {n:Nat} (h:bJ t n ≠ .bL):(n,bJ t n)∈t:=by
 unfold bJ at h ⊢
 cases hm:an t n with
 | none=>rw[hm]at h;exact absurd rfl h
 | some x=>exact jf hm
theorem aiG {t:TypeId} {x y:Operand} (ho:o.op = .store t x y) {wk:List Nat} (hn:(norm E g s o).val=some (s',wk)) (k:Nat):(an s'.h k).map ah.shape=(an s.h k).map ah.shape:=by
 unfold norm at hn
 rw[T.bind_some]at hn
 obtain⟨p,hp,hn⟩:=hn
 rw[T.bw]at hn
 cases hn
 unfold lm at hp
 simp only[ho]at hp
 have e:an (iy s.h p.2) k=(an p.2.reverse k).or ((an s.h k).map (ah.kill [])):=by
  have:=jG (s:=s) none .bL p.2 [] k
  rw[tu]at this
  exact this
 show(an (iy s.h p.2) k).map ah.shape=_
 rw[e]
 split at hp
 .unfold sW at hp
  split at hp
  .rename_i b i off hx
   split at hp
   .rename_i blk hb
    simp only[T.bind_some,T.dv,T.bw,T.aO,and_false,or_false]at hp
    obtain⟨row,hrow,hc,rfl⟩:=hp
    by_cases hk:k=b
    .subst hk
     rw[hb]
     simp[an,ah.shape]
    .have:an [(b,(⟨blk.box,blk.ty,blk.sz,blk.rows.set i (putAt row off (wy blk.box (cellsOf (cM E g s.t y))))⟩:ah))].reverse k=none:=CA (by simp;omega)
     rw[this,kx,agx]
     congr 1
     funext b;exact Mz [] b
   .rw[T.aO]at hp;exact hp.elim
  .rw[T.aO]at hp;exact hp.elim
 .rw[T.aO]at hp;exact hp.elim
theorem WU {t:TypeId} {x y:Operand} (ho:o.op = .store t x y) {wr:Option (List Nat×List Nat)} (hn:(step1 E g s o).val=some (s',wr)) (k:Nat):(an s'.h k).map ah.shape=(an s.h k).map ah.shape:=by
 unfold step1 at hn
 simp only[show isApp o.op=none from by rw[ho];rfl,show oE E (cM E g s.t) o.op=none from by rw[ho];rfl,show fP E (cM E g s.t) o.dst o.op=[] from by rw[ho];rfl]at hn
 rw[T.bind_some]at hn
 obtain⟨⟨s2,wk⟩,h1,h2⟩:=hn
 unfold oD at h2
 rw[T.bw]at h2
 cases h2
 exact aiG ho h1 k
theorem WV {t:TypeId} {x y:Operand} (ho:o.op = .store t x y) {d:Nat} {b want:Bool} {wr:Option (List Nat×List Nat)} (hn:(guarded E s o d b want).val=some (s',wr)) (k:Nat):(an s'.h k).map ah.shape=(an s.h k).map ah.shape:=by
 have skip:(iI s o d want).val=some (s',wr)->(an s'.h k).map ah.shape=(an s.h k).map ah.shape:=fun h=>by
  unfold iI at h
  rw[T.bw]at h
  cases h
  rfl
 unfold guarded at hn
 split at hn
 .split at hn
  .split at hn
   .rw[T.bw]at hn
    cases hn
    rfl
   .rw[T.aO]at hn;exact hn.elim
  .rw[T.dv]at hn
   rcases hn with ⟨_,hn⟩ | ⟨_,hn⟩
   .rw[T.aO]at hn;exact hn.elim
   .exact skip hn
 .rw[T.dv]at hn
  rcases hn with ⟨_,hn⟩ | ⟨_,hn⟩
  .exact WU ho hn k
  .exact skip hn
theorem aiH (hst:stOp o.op=true) {wr:Option (List Nat×List Nat)} (hn:(stepG E ops s o).val=some (s',wr)) (k:Nat):(an s'.h k).map ah.shape=(an s.h k).map ah.shape:=by
 obtain⟨t,x,y,ho⟩ : ∃t x y,o.op = .store t x y:=by
  revert hst
  cases o.op<;>intro hst<;>first | exact⟨_,_,_,rfl⟩ | cases hst
 unfold stepG at hn
 split at hn
 .exact WU ho hn k
 .split at hn
  .split at hn
   .exact WV ho hn k
   .exact WV ho hn k
   .rename_i d _ _ _ _ _ _ _
    rw[T.dv]at hn
    rcases hn with ⟨_,hn⟩ | ⟨_,hn⟩
    .rw[T.aO]at hn;exact hn.elim
    .unfold iI at hn
     rw[T.bw]at hn
     cases hn
     rfl
   .rw[T.aO]at hn;exact hn.elim
  .rw[T.aO]at hn;exact hn.elim
theorem aiI (wr:Option (List Nat×List Nat)) (s1:St) (hstep:(stepG E ops s o).val=some (s1,wr)):nR ops s o wr s1 (oF ops s o wr s1):=by
 have hne : ∀ {ks x},jd ks x=true->x ≠ .bL:=by
  rintro ks x h rfl
  simp[jd,bK,e8,du,dk]at h
 have ho:(oF ops s o wr s1).o=o:=by unfold oF;exact Eq.refl _
 have hwr:(oF ops s o wr s1).wr=wr:=by unfold oF;exact Eq.refl _
 have htm:(oF ops s o wr s1).tm=tmpsOf ops o:=by unfold oF;exact Eq.refl _
 refine⟨ho,htm,hwr,?_,?_,?_,?_,?_,?_,?_,?_,?_,?_,?_,?_,fun k hk=>hk,?_⟩
 .intro k hk
  show k∈fQ 3 ops s o
  exact hk
 .intro k hk
  show k∈ma ops s o++fQ 3 ops s o++pn s o wr
  exact dn.2 (.inl (dn.2 (.inl hk)))
 .intro k hk
  show k∈ma ops s o++fQ 3 ops s o++pn s o wr
  exact dn.2 (.inl (dn.2 (.inr hk)))
 .intro d hd k hk
  show k∈ma ops s o++fQ 3 ops s o++pn s o wr
  refine dn.2 (.inr ?_)
  unfold pn
  rw[hd]
  exact dn.2 (.inl (dn.2 (.inl hk)))
 .intro k hk b hb j hj
  show j∈ma ops s o++fQ 3 ops s o++pn s o wr
  refine dn.2 (.inr ?_)
  unfold pn
  refine dn.2 (.inr (eF.2 ⟨k,hk,?_⟩))
  unfold fE
  rw[hb];exact hj
 .intro wk ks hw k hk b hb j hj
  show j∈ma ops s o++fQ 3 ops s o++pn s o wr
  refine dn.2 (.inr ?_)
  unfold pn
  rw[hw]
  refine dn.2 (.inl (dn.2 (.inr (eF.2 ⟨k,hk,?_⟩))))
  unfold fE
  rw[hb];exact hj
 .intro k hk
  exact hk
 .intro wk ks hw n hn
  show n∈Vq s wr
  subst hw
  cases ks with
  | nil=>rw[Gy]at hn;cases hn
  | cons q qs=>exact eQ.2 ⟨_,nD.2 ⟨WT (hne hn),hn⟩,rfl⟩
 .intro wk ks hw k b hb hh
  show k∈Vs s wr
  subst hw
  cases ks with
  | nil=>rw[WQ]at hh;cases hh
  | cons q qs=>exact eQ.2 ⟨_,nD.2 ⟨jf hb,hh⟩,rfl⟩
 .intro hnu d hd n
  have hnu:LS s.t o.dst=true:=hnu
  rw[hd]at hnu
  simp only[LS]at hnu
  rw[tv]
  split at hnu<;>rename_i hm
  .simp only[hm]
  .simp only[hm]
   unfold oB
   split
   .rename_i hg
    exfalso
    unfold bJ at hg
    cases hk:an s.t n with
    | none=>rw[hk]at hg;cases hg
    | some y=>
     rw[hk]at hg
     have:=bP.1 hnu (n,y) (jf hk)
     simp only[mD]at this
     rw[hg]at this
     cases this
   .rfl
 .intro d j b want x hd hx
  show j∈F0 s.t o.dst++LU s wr
  refine dn.2 (.inl ?_)
  rw[hd]
  simp only[F0,hx]
  simp
 .intro wk ks hw n j b want x hn hx
  show j∈F0 s.t o.dst++LU s wr
  refine dn.2 (.inr ?_)
  subst hw
  cases ks with
  | nil=>rw[Gy]at hn;cases hn
  | cons q qs=>
   refine eF.2 ⟨_,nD.2 ⟨WT (hne hn),hn⟩,?_⟩
   simp only[hx,Vr]
   simp
 .intro hs k hk
  cases wr with
  | none=>cases hs
  | some wkk=>
   cases hst:stOp o.op with
   | true=>exact aiH hst hstep k
   | false=>
    have hk':k∉wkk.1:=fun hh=>hk (by
     show k∈LV o (some wkk)
     unfold LV
     rw[hst]
     exact hh)
    obtain⟨av,ws,ks,rfl,rfl,_,_⟩:=Gw hstep
    rw[jG,CA (by simpa using hk'),kx,agx]
    congr 1
    funext b;exact Mz ks b
theorem WW (s s2:St) (x:AV) (ws:Heap) (ks:List Nat):qO (db s2 o.dst x ws ks) o (some (ws.map (·.1),ks))=qO (db s o.dst x ws ks) o (some (ws.map (·.1),ks)):=by
 unfold qO
 have e1 : ∀s:St,qN (db s o.dst x ws ks).t o.dst=(match o.dst with | some _=>bK x | none=>[]):=by
  intro s
  cases hd:o.dst with
  | none=>rfl
  | some d=>simp only[qN,db,ff,wJ,if_true]
 rw[e1 s,e1 s2]
 congr 1
 unfold wF
 refine Gu fun k hk=>?_
 unfold fE
 rw[jG,jG]
 have:an ws.reverse k≠none:=by
  obtain⟨b,hb⟩:=qY (m:=ws.reverse) (k:=k) (by simpa using hk)
  rw[hb];simp
 cases hm:an ws.reverse k with
 | none=>exact absurd hm this
 | some b=>rfl
theorem nR.MA {x:AV} {ws:Heap} {ks:List Nat} {f:FP} (hf:nR ops s o (some (ws.map (·.1),ks)) (db s o.dst x ws ks) f) {d:Nat} (hd:o.dst=some d) : ∀k∈bK x,k∈f.rf:=fun k hk=>hf.rf k (by
 unfold qO
 refine dn.2 (.inl ?_)
 rw[hd]
 simp only[qN,db,ff,wJ,if_true]
 exact hk)
theorem nR.MB {x:AV} {ws:Heap} {ks:List Nat} {f:FP} (hf:nR ops s o (some (ws.map (·.1),ks)) (db s o.dst x ws ks) f) {k:Nat} {b:ah} (hb:an ws.reverse k=some b) : ∀j∈jc b,j∈f.rf:=fun j hj=>hf.rf j (by
 unfold qO
 refine dn.2 (.inr (eF.2 ⟨k,?_,?_⟩))
 .have:=BX (f:=fun(p:Nat×ah)=>p.1) (jf hb)
  simpa using this
 .unfold fE
  rw[jG,hb]
  exact hj)
theorem nR.eqv {wr:Option (List Nat×List Nat)} {s1 s2':St} {f:FP} (hf:nR ops s o wr s1 f) (e:eH s s2) (e1:eH s1 s2'):nR ops s2 o wr s2' f:=by
 refine⟨hf.o,hf.tm,hf.wr,fun k hk=>hf.rd k (by rw[xd e.agree]at hk;exact hk),fun k hk=>hf.tr k (by rw[CI e.agree]at hk;exact hk),fun k hk=>hf.Hj k (by rw[xd e.agree]at hk;exact hk),fun d hd k hk=>hf.C0 d hd k (by rw[e.t d]at hk;exact hk),fun k hk b hb=>hf.Hk k hk b (by rw[e.h k]at hb;exact hb),fun wk ks hw k hk b hb=>hf.Hl wk ks hw k hk b (by rw[e.h k]at hb;exact hb),fun k hk=>hf.rf k ?_,fun wk ks hw n hn=>hf.kt wk ks hw n (by rw[e.t n]at hn;exact hn),
  fun wk ks hw k b hb=>hf.hit wk ks hw k b (by rw[e.h k]at hb;exact hb),fun hnu d hd n=>?_,fun d j b want x hd hx=>hf.og d j b want x hd (by rw[<-e.t d];exact hx),fun wk ks hw n j b want x hn hx=>hf.Hm wk ks hw n j b want x (by rw[e.t n]at hn;exact hn) (by rw[e.t n]at hx;exact hx),fun k hk=>hf.sh k (by rw[My e.agree]at hk;exact hk),fun hw k hk=>by rw[e1.h k,e.h k];exact hf.sp hw k hk⟩
 .unfold qO at hk ⊢
  have e2:qN s2'.t o.dst=qN s1.t o.dst:=by
   cases o.dst with
   | none=>rfl
   | some d=>simp only[qN];rw[e1.t d]
  have e3:wF s2'.h wr=wF s1.h wr:=by
   have e4:fE (an s2'.h)=fE (an s1.h):=by funext k;unfold fE;rw[e1.h k]
   unfold wF
   rw[e4]
  rw[e2,e3]at hk
  exact hk
 .have:=hf.nu hnu d hd n
  rw[tv]at this ⊢
  rw[e.t n]
  have hn:=e.n d
  cases h1:an s2.t d<;>cases h2:an s.t d<;>simp_all
def jU (E:Env) (ops:List Oper):List Nat->St->List FP->St->Prop
 | [],s,tr,s'=>tr=[]/\eH s s'
 | i::l,s,tr,s'=>∃o s1 wr f tr',ops[i]? = some o/\(stepG E ops s o).val=some (s1,wr)/\nR ops s o wr s1 f/\tr=f::tr'/\jU E ops l s1 tr' s'
theorem jU.eqv : ∀ {l:List Nat} {s s2:St} {tr:List FP} {s':St},jU E ops l s tr s'->eH s s2->jU E ops l s2 tr s'
 | [],s,s2,tr,s',hr,e=>⟨hr.1,e.symm.trans hr.2⟩
 | i::l,s,s2,tr,s',⟨o,s1,wr,f,tr',h1,h2,h3,h4,h5⟩,e=>by
  obtain⟨s1',k1,k2⟩:=aiB e h2
  exact⟨o,s1',wr,f,tr',h1,k1,h3.eqv e k2,h4,h5.eqv k2⟩
theorem apart_spec {x y:List Nat} (hh:apart x y=true) : ∀k∈x,k∉y:=fun k hk=>by
 have:=bP.1 hh k hk
 simpa using this
theorem xe {l:List Nat} (hh:qP o l=true) : ∀d,o.dst=some d->d∉l:=fun d hd=>by
 unfold qP at hh
 rw[hd]at hh
 simpa using hh
theorem aiJ {x y:List Nat} (hh:oneOf x y=true):x=[]\/y=[]:=by
 cases x
 .exact .inl rfl
 .cases y
  .exact .inr rfl
  .cases hh
theorem jU.swap {b i:Nat} {l:List Nat} {fb fi:FP} {tr:List FP} (hr:jU E ops (b::i::l) s (fb::fi::tr) s') (hno:qQ ops fb fi=true):jU E ops (i::b::l) s (fi::fb::tr) s':=by
 obtain⟨ob,s1,wb,f1,tr1,hb1,hb2,hb3,hb4,oi,s2,wi,f2,tr2,hi1,hi2,hi3,hi4,hl⟩:=hr
 cases hb4
 cases hi4
 unfold qQ at hno
 simp only[aG]at hno
 obtain⟨⟨⟨⟨⟨⟨⟨⟨⟨nu1,nu2⟩,sh1⟩,sh2⟩,t1⟩,t2⟩,dd⟩,og1⟩,og2⟩,hw⟩:=hno
 have sh1:=apart_spec sh1
 have sh2:=apart_spec sh2
 rw[hb3.o]at t1 dd og1
 rw[hb3.tm]at t2
 rw[hi3.o]at t2 dd og2
 rw[hi3.tm]at t1
 rw[hb3.wr,hi3.wr]at hw
 cases wb with
 | none=>cases hw
 | some wkb=>
  cases wi with
  | none=>cases hw
  | some wki=>
   simp only[aG]at hw
   obtain⟨⟨⟨⟨⟨⟨⟨⟨⟨⟨w1,w2⟩,w3⟩,one⟩,c1⟩,c2⟩,c3⟩,c4⟩,c5⟩,c6⟩,c7⟩:=hw
   obtain⟨a1,ws1,k1,rfl,rfl,g1,fr1⟩:=Gw hb2
   obtain⟨a2,ws2,k2,rfl,rfl,g2,fr2⟩:=Gw hi2
   simp only at w1 w2 w3 one c4 c5 c6 c7
   rw[hi3.tm]at c1
   rw[hi3.o]at c2
   have w1:=apart_spec w1
   have w2:=apart_spec w2
   have w3:=apart_spec w3
   have c1:=apart_spec c1
   have c2:=xe c2
   have c3:=apart_spec c3
   have c4:=apart_spec c4
   have c5:=apart_spec c5
   have c6:=apart_spec c6
   have c7:=apart_spec c7
   have one:=aiJ one
   have t1:=xe t1
   have t2:=xe t2
   have dd:=xe dd
   have og1:=xe og1
   have og2:=xe og2
   have ddi : ∀d,oi.dst=some d->ob.dst≠some d:=fun d hd hh=>dd d hh (by rw[hd];simp)
   have ddb : ∀d,ob.dst=some d->oi.dst≠some d:=fun d hd hh=>dd d hd (by rw[hh];simp)
   have getb:=GA (s:=s) (dst:=ob.dst) (hb3.nu nu1) a1 ws1 k1
   have notW : ∀ {ws:Heap} {k:Nat},k∉ws.map (·.1)->an ws.reverse k=none:=fun {ws k} hk=>CA (by simpa using hk)
   have keepT : ∀n,ob.dst≠some n->n∉fb.kt->bJ (db s ob.dst a1 ws1 k1).t n=bJ s.t n:=by
    intro n hn hk
    rw[getb,if_neg hn]
    refine xb ?_
    cases hh:jd k1 (bJ s.t n)with
    | false=>rfl
    | true=>exact absurd (hb3.kt _ _ rfl n hh) hk
   have keepH : ∀k,k∉ws1.map (·.1)->k∉fb.hit->an (db s ob.dst a1 ws1 k1).h k=an s.h k:=by
    intro k hk hh
    rw[jG,notW hk,kx]
    cases hm:an s.h k with
    | none=>rfl
    | some bl=>
     simp only[lZ]
     rw[Gz]
     cases hb:mb k1 bl with
     | false=>rfl
     | true=>exact absurd (hb3.hit _ _ rfl k bl hm hb) hh
   have shB : ∀k,k∉fb.ws->(an (db s ob.dst a1 ws1 k1).h k).map ah.shape=(an s.h k).map ah.shape:=hb3.sp rfl
   have mapK : ∀(ks:List Nat) (q:Option ah),(q.map (ah.kill ks)).map ah.shape=q.map ah.shape:=fun ks q=>by
    cases q with
    | none=>rfl
    | some b=>simp only[lZ,Mz]
   have shI : ∀k,k∉fi.ws->(an (db s oi.dst a2 ws2 k2).h k).map ah.shape=(an s.h k).map ah.shape:=by
    intro k hk
    have h0:=hi3.sp rfl k hk
    rw[jG]at h0 ⊢
    cases hm:an ws2.reverse k with
    | none=>rw[kx];exact mapK _ _
    | some b2=>
     rw[hm,B0]at h0
     rw[B0,h0,jG]
     have hk1:k∉ws1.map (·.1):=fun hh=>w3 k hh (by
      have:=BX (f:=fun(p:Nat×ah)=>p.1) (jf hm)
      simpa using this)
     rw[notW hk1,kx];exact mapK _ _
   have ag1:kI ops oi (db s ob.dst a1 ws1 k1) s:=by
    refine⟨fun n hn=>(keepT n (fun hd=>t1 n hd hn) (fun hk=>c1 n hk hn)).symm,fun k hk=>?_,fun k hk=>(shB k fun hh=>sh1 k hh (hi3.sh k hk)).symm⟩
    have:=hi3.rd k (WS hk)
    exact(keepH k (fun hh=>w1 k hh this) (fun hh=>c3 k hh this)).symm
   have hi2':=fr2 s ag1
   have undo2 : ∀d,oi.dst=some d -> ∀n,bJ (kz s.t d) n=bJ s.t n:=by
    intro d hd
    rw[xc]
    rcases xc.1 (hi3.nu nu2 d hd)with hm | hh
    .exact .inl ((Mx ob.dst a1 ws1 k1 d).1 hm).2
    .refine .inr fun n=>?_
     cases hg:l9 d (bJ s.t n)with
     | false=>rfl
     | true=>
      exfalso
      obtain⟨b',want',z,hz⟩:=Mf hg
      by_cases hn:ob.dst=some n
      .exact og2 d hd (hb3.og n d b' want' z hn hz)
      .have:=hh n
       rw[getb,if_neg hn]at this
       cases hk:jd k1 (bJ s.t n)with
       | true=>exact og2 d hd (hb3.Hm _ _ rfl n d b' want' z hk hz)
       | false=>rw[xb hk,hg]at this;cases this
   have geti:=GA (s:=s) (dst:=oi.dst) undo2 a2 ws2 k2
   have ag2:kI ops ob s (db s oi.dst a2 ws2 k2):=by
    refine⟨fun n hn=>?_,fun k hk=>?_,fun k hk=>shI k fun hh=>sh2 k hh (hb3.sh k hk)⟩
    .rw[geti,if_neg (fun hd=>t2 n hd hn)]
     exact xb (CH fun k hk hh=>c6 k hh (hb3.tr k (eF.2 ⟨n,hn,hk⟩)))
    .rw[jG,notW (fun hh=>w2 k hh (hb3.rd k (WS hk))),kx]
     cases hm:an s.h k with
     | none=>rfl
     | some bl=>
      simp only[lZ]
      have hnew : ∀j∈jc bl,j∉k2:=by
       intro j hj hh
       simp only[mT,fQ,dn]at hk
       rcases hk with hk | hk
       .exact c6 j hh (hb3.Hk k hk bl hm j hj)
       .refine c6 j hh (hb3.Hj j ?_)
        simp only[fQ,dn]
        refine .inr ?_
        cases hmm:nL ob.op with
        | false=>simp only[hmm]at hk;cases hk
        | true=>
         simp only[hmm]at hk ⊢
         exact Mj 2 hk hm hj
      rw[Gz (Gx hnew)]
   have hb2':=fr1 _ ag2
   have fi':nR ops s oi (some (ws2.map (·.1),k2)) (db s oi.dst a2 ws2 k2) fi:=by
    refine⟨hi3.o,hi3.tm,hi3.wr,?_,?_,?_,?_,?_,?_,?_,?_,?_,?_,?_,?_,fun k hk=>hi3.sh k (by rw[My ag1]at hk;exact hk),fun _ k hk=>shI k hk⟩
    .intro k hk
     rw[xd ag1]at hk
     exact hi3.rd k hk
    .intro k hk
     rw[CI ag1]at hk
     exact hi3.tr k hk
    .intro k hk
     rw[xd ag1]at hk
     exact hi3.Hj k hk
    .intro d hd k hk
     rw[<-keepT d (ddi d hd) (c2 d hd)]at hk
     exact hi3.C0 d hd k hk
    .intro k hk b hb j hj
     have hrd:=hi3.rd k (by simp only[fQ,dn];exact .inl hk)
     rw[<-keepH k (fun hh=>w1 k hh hrd) (fun hh=>c3 k hh hrd)]at hb
     exact hi3.Hk k hk b hb j hj
    .intro wk ks hw k hk b hb j hj
     cases hw
     rw[<-keepH k (fun hh=>w3 k hh hk) (fun hh=>c4 k hh hk)]at hb
     exact hi3.Hl _ _ rfl k hk b hb j hj
    .intro k hk
     rw[WW (db s ob.dst a1 ws1 k1) s]at hk
     exact hi3.rf k hk
    .intro wk ks hw n hn
     cases hw
     rcases one with rfl | rfl
     .by_cases hd:ob.dst=some n
      .obtain⟨k,q1,q2⟩:=Mu hn
       exact absurd (hb3.C0 n hd k q1) (c6 k q2)
      .refine hi3.kt _ _ rfl n ?_
       rw[getb,if_neg hd,q9]
       exact hn
     .rw[Gy]at hn;cases hn
    .intro wk ks hw k b hb hh
     cases hw
     rcases one with rfl | rfl
     .by_cases hk:k∈ws1.map (·.1)
      .obtain⟨j,q1,q2⟩:=Mv hh
       exact absurd (hb3.Hl _ _ rfl k hk b hb j q1) (c6 j q2)
      .refine hi3.hit _ _ rfl k b ?_ hh
       rw[jG,notW hk,hb]
       simp only[kx,lZ]
       rw[Gv]
     .rw[WQ]at hh;cases hh
    .exact fun _=>undo2
    .intro d j b want x hd hx
     refine hi3.og d j b want x hd ?_
     rw[keepT d (ddi d hd) (c2 d hd)]
     exact hx
    .intro wk ks hw n j b want x hn hx
     cases hw
     rcases one with rfl | rfl
     .by_cases hd:ob.dst=some n
      .obtain⟨k,q1,q2⟩:=Mu hn
       exact absurd (hb3.C0 n hd k q1) (c6 k q2)
      .have e:bJ (db s ob.dst a1 ws1 []).t n=bJ s.t n:=by rw[getb,if_neg hd,q9]
       exact hi3.Hm _ _ rfl n j b want x (by rw[e];exact hn) (by rw[e];exact hx)
     .rw[Gy]at hn;cases hn
   have hdb : ∀d,ob.dst=some d->bJ (db s oi.dst a2 ws2 k2).t d=dw k2 (bJ s.t d):=fun d hd=>by rw[geti,if_neg (ddb d hd)]
   have hnA : ∀n,jd k1 (bJ (db s oi.dst a2 ws2 k2).t n)=true->oi.dst≠some n/\bJ (db s oi.dst a2 ws2 k2).t n=bJ s.t n:=by
    intro n hn
    rw[geti]at hn ⊢
    by_cases hd:oi.dst=some n
    .rw[if_pos hd]at hn
     obtain⟨k,q1,q2⟩:=Mu hn
     exact absurd (hi3.MA hd k q1) (c5 k q2)
    .rw[if_neg hd]at hn ⊢
     exact⟨hd,aiC hn⟩
   have nuB' : ∀d,ob.dst=some d -> ∀n,bJ (kz (db s oi.dst a2 ws2 k2).t d) n=bJ (db s oi.dst a2 ws2 k2).t n:=by
    intro d hd
    rw[xc]
    rcases xc.1 (hb3.nu nu1 d hd)with hm | hh
    .exact .inl ((Mx oi.dst a2 ws2 k2 d).2 ⟨ddb d hd,hm⟩)
    .refine .inr fun n=>?_
     cases hg:l9 d (bJ (db s oi.dst a2 ws2 k2).t n)with
     | false=>rfl
     | true=>
      exfalso
      obtain⟨b',want',z,hz⟩:=Mf hg
      rw[geti]at hz
      by_cases hn:oi.dst=some n
      .rw[if_pos hn]at hz
       exact t1 d hd (g2 d b' want' z hz)
      .rw[if_neg hn]at hz
       have:=hh n
       rw[Gp hz]at this
       simp[l9]at this
   have fb':nR ops (db s oi.dst a2 ws2 k2) ob (some (ws1.map (·.1),k1)) (db (db s oi.dst a2 ws2 k2) ob.dst a1 ws1 k1) fb:=by
    have shB2 : ∀k,k∉fb.ws->(an (db (db s oi.dst a2 ws2 k2) ob.dst a1 ws1 k1).h k).map ah.shape=(an (db s oi.dst a2 ws2 k2).h k).map ah.shape:=by
     intro k hk
     have h0:=shB k hk
     rw[jG]at h0
     rw[jG (s:=db s oi.dst a2 ws2 k2) (dst:=ob.dst)]
     cases hm:an ws1.reverse k with
     | none=>rw[kx];exact mapK _ _
     | some b1=>
      rw[hm,B0]at h0
      rw[B0,h0,jG]
      have hk2:k∉ws2.map (·.1):=w3 k (by
       have:=BX (f:=fun(p:Nat×ah)=>p.1) (jf hm)
       simpa using this)
      rw[notW hk2,kx];exact(mapK _ _).symm
    refine⟨hb3.o,hb3.tm,hb3.wr,?_,?_,?_,?_,?_,?_,?_,?_,?_,?_,?_,?_,fun k hk=>hb3.sh k (by rw[My ag2]at hk;exact hk),fun _ k hk=>shB2 k hk⟩
    .intro k hk
     rw[xd ag2]at hk
     exact hb3.rd k hk
    .intro k hk
     rw[CI ag2]at hk
     exact hb3.tr k hk
    .intro k hk
     rw[xd ag2]at hk
     exact hb3.Hj k hk
    .intro d hd k hk
     rw[hdb d hd]at hk
     exact hb3.C0 d hd k (WR hk)
    .intro k hk b hb j hj
     have hrd:=hb3.rd k (by simp only[fQ,dn];exact .inl hk)
     rw[jG,notW (fun hh=>w2 k hh hrd),kx,eZ]at hb
     obtain⟨b0,h0,rfl⟩:=hb
     exact hb3.Hk k hk b0 h0 j (Mw hj)
    .intro wk ks hw k hk b hb j hj
     cases hw
     rw[jG,notW (fun hh=>w3 k hk hh),kx,eZ]at hb
     obtain⟨b0,h0,rfl⟩:=hb
     exact hb3.Hl _ _ rfl k hk b0 h0 j (Mw hj)
    .intro k hk
     rw[WW s (db s oi.dst a2 ws2 k2)]at hk
     exact hb3.rf k hk
    .intro wk ks hw n hn
     cases hw
     obtain⟨_,e⟩:=hnA n hn
     rw[e]at hn
     exact hb3.kt _ _ rfl n hn
    .intro wk ks hw k b hb hh
     cases hw
     rw[jG]at hb
     cases hm:an ws2.reverse k with
     | some b2=>
      rw[hm]at hb
      simp only[B0,eX]at hb
      subst hb
      obtain⟨j,q1,q2⟩:=Mv hh
      exact absurd (hi3.MB hm j q1) (c5 j q2)
     | none=>
      rw[hm,kx,eZ]at hb
      obtain⟨b0,h0,rfl⟩:=hb
      exact hb3.hit _ _ rfl k b0 h0 (aiD hh)
    .exact fun _=>nuB'
    .intro d j b want x hd hx
     rw[hdb d hd]at hx
     exact hb3.og d j b want x hd (Gp hx)
    .intro wk ks hw n j b want x hn hx
     cases hw
     obtain⟨_,e⟩:=hnA n hn
     rw[e]at hn hx
     exact hb3.Hm _ _ rfl n j b want x hn hx
   refine⟨oi,_,_,fi,fb::tr,hi1,hi2',fi',rfl,ob,_,_,fb,tr,hb1,hb2',fb',rfl,hl.eqv ?_⟩
   have av1 : ∀n,ob.dst=some n->dw k2 a1=a1:=fun n hn=>xb (CH fun k hk hh=>c7 k hh (hb3.MA hn k hk))
   have av2 : ∀n,oi.dst=some n->dw k1 a2=a2:=fun n hn=>xb (CH fun k hk hh=>c5 k hh (hi3.MA hn k hk))
   refine⟨fun n=>?_,fun n=>?_,fun k=>?_⟩
   .rw[GA nuB',GA (hi3.nu nu2),geti,getb]
    by_cases h1:ob.dst=some n
    .have h2:=ddb n h1
     rw[if_pos h1,if_neg h2,if_pos h1,av1 n h1]
    .rw[if_neg h1]
     by_cases h2:oi.dst=some n
     .rw[if_pos h2,if_pos h2,av2 n h2]
     .rw[if_neg h2,if_neg h2,if_neg h1]
      rcases one with rfl | rfl
      .rw[q9,q9]
      .rw[q9,q9]
   .simp only[Mx]
    exact⟨fun⟨p,q,r⟩=>⟨q,p,r⟩,fun⟨p,q,r⟩=>⟨q,p,r⟩⟩
   .simp only[jG]
    by_cases h1:k∈ws1.map (·.1)
    .rw[notW (w3 k h1),kx]
     obtain⟨b1,hb1⟩:=qY (m:=ws1.reverse) (k:=k) (by simpa using h1)
     rw[hb1]
     simp only[B0,lZ,kx]
     rw[Gz (Gx fun j hj hh=>c7 j hh (hb3.MB hb1 j hj))]
    .rw[notW h1,kx,kx]
     cases hm:an ws2.reverse k with
     | some b2=>
      simp only[B0,lZ]
      rw[Gz (Gx fun j hj hh=>c5 j hh (hi3.MB hm j hj))]
     | none=>
      simp only[kx,agx]
      rcases one with rfl | rfl
      .have:ah.kill []=id:=funext Gv
       rw[this];rfl
      .have:ah.kill []=id:=funext Gv
       rw[this];rfl
theorem jU.first : ∀ {pre:List Nat} {i:Nat} {post:List Nat} {s:St} {tp:List FP} {fi:FP} {tq:List FP} {s':St},tp.length=pre.length->jU E ops (pre++i::post) s (tp++fi::tq) s'->(∀f∈tp,qQ ops f fi=true) ->
  jU E ops (i::(pre++post)) s (fi::(tp++tq)) s'
 | [],i,post,s,tp,fi,tq,s',hl,hr,_=>by
  cases tp with
  | nil=>exact hr
  | cons f tp=>simp at hl
 | b::pre,i,post,s,tp,fi,tq,s',hl,hr,hno=>by
  cases tp with
  | nil=>simp at hl
  | cons fb tp=>
   obtain⟨ob,s1,wb,f1,tr1,hb1,hb2,hb3,hb4,hrest⟩:=hr
   simp only[List.cons_append,qq]at hb4
   obtain⟨rfl,rfl⟩:=hb4
   have ih:=jU.first (pre:=pre) (by simpa using hl) hrest fun f hf=>hno f (by simp[hf])
   exact jU.swap ⟨ob,s1,wb,fb,_,hb1,hb2,hb3,rfl,ih⟩ (hno fb (by simp))
theorem WX : ∀(r:List Oper) (k:Nat) (s:St) (tr:List FP) (s':St),(∀j,r[j]? = ops[k+j]?)->(s6 E ops r s tr).val=some s' ->
  ∃tq,jU E ops (List.range' k r.length) s tq s'/\tq.length=r.length/\wI ops (tq.reverse++tr)=true/\s5 0 ops=true
 | [],k,s,tr,s',hr,hs=>by
  rw[s6]at hs
  split at hs
  .rename_i hc
   rw[T.bw]at hs
   subst hs
   simp only[aG]at hc
   exact⟨[],⟨rfl,eH.refl _⟩,rfl,by simpa using hc.1,hc.2⟩
  .rw[T.aO]at hs;exact hs.elim
 | o::r,k,s,tr,s',hr,hs=>by
  rw[s6,T.bind_some]at hs
  obtain⟨⟨s1,wr⟩,h1,h2⟩:=hs
  obtain⟨tq,k1,k2,k3,k4⟩:=WX r (k+1) s1 _ s' (fun j=>by have:=hr (j+1);rw[qu]at this;rw[this];congr 1;omega) h2
  refine⟨oF ops s o wr s1::tq,?_,by simp[k2],by simpa using k3,k4⟩
  rw[gq,List.range'_succ]
  exact⟨o,s1,wr,_,tq,by have:=hr 0;simpa using this.symm,h1,aiI wr s1 h1,rfl,k1⟩
theorem GB {f:FP} : ∀ {r:List FP},wH ops f r=true -> ∀(b:Nat) (g:FP),r.reverse[b]? = some g->(wG b f.o=true\/sZ ops 12 b f.o=true)\/qQ ops g f=true
 | [],_,b,g,hb=>by simp at hb
 | g0::r,h,b,g,hb=>by
  rw[K5,KY]at hb
  simp only[wH]at h
  split at hb
  .split at h
   .exact GB h b g hb
   .split at h
    .exact GB h b g hb
    .split at h
     .exact GB h b g hb
     .cases h
  .rename_i hlt
   have hbl:b=r.length:=by have:=(cO.1 hb).1;simp at this hlt;omega
   subst hbl
   simp at hb
   subst hb
   split at h
   .exact .inl (.inl ‹_›)
   .split at h
    .exact .inr ‹_›
    .split at h
     .exact .inl (.inr ‹_›)
     .cases h
theorem WY : ∀ {l:List FP},wI ops l=true -> ∀(b i:Nat) (fb fi:FP),b<i->l.reverse[b]? = some fb->l.reverse[i]? = some fi->(wG b fi.o=true\/sZ ops 12 b fi.o=true)\/qQ ops fb fi=true
 | [],_,b,i,fb,fi,_,hb,_=>by simp at hb
 | f::r,h,b,i,fb,fi,hlt,hb,hi=>by
  simp only[wI]at h
  split at h
  .rename_i h1
   rw[K5,KY]at hb hi
   split at hi
   .rw[if_pos (by omega)]at hb
    exact WY h b i fb fi hlt hb hi
   .rename_i hil
    have hie:i=r.length:=by have:=(cO.1 hi).1;simp at this hil;omega
    subst hie
    simp at hi
    subst hi
    rw[if_pos (by simpa using hlt)]at hb
    exact GB h1 b fb hb
  .cases h
def left (listed:Array Bool) (n:Nat):List Nat:=(gG n).filter fun i=> !listed.getD i true
theorem aiK {o:Oper} {j:Nat} (he:wG j o=true) : ∃e∈o.after,e.on=j/\sM .any e=true:=by
 unfold wG at he
 rw[K8]at he
 obtain⟨e,h1,h2⟩:=he
 simp only[aG]at h2
 refine⟨e,by simpa using h1,beq_true.1 h2.1,?_⟩
 unfold sM
 have:=h2.2
 split at this<;>simp_all
theorem GC : ∀ {r:List Oper} {k:Nat},s5 k r=true -> ∀(j:Nat) (o:Oper),r[j]? = some o -> ∀e∈o.after,sM .any e=true->e.on<k+j
 | [],k,_,j,o,hj=>by simp at hj
 | o0::r,k,h,j,o,hj=>by
  simp only[s5]at h
  split at h
  .rename_i hall
   cases j with
   | zero=>
    simp at hj
    subst hj
    intro e he hb
    have:=bP.1 hall e (by simpa using he)
    unfold sM at hb
    split at this<;>simp_all
   | succ j=>
    simp at hj
    intro e he hb
    have:=GC h j o hj e he hb
    omega
  .cases h
theorem mem_left {listed:Array Bool} {n i:Nat}:i∈left listed n↔i<n/\listed.getD i true=false:=by
 unfold left;rw[nD,List.mem_range,mD]
theorem aiL {listed:Array Bool} {n i:Nat} (hs:listed.size=n) (hi:i<n):left (listed.setIfInBounds i true) n=(left listed n).filter fun j=>decide (j≠i):=by
 unfold left
 rw[List.filter_filter]
 refine List.filter_congr fun j hj=>?_
 have hj:j<n:=by simpa using hj
 by_cases e:j=i
 .subst e
  simp[k8,hs,hi]
 .simp[k8,Ne.symm e,e]
theorem aiM {e:Edge} (h:LW e=true):sM .any e=true:=by
 unfold LW at h
 unfold sM
 split at h<;>simp_all
theorem WZ {opa:Array Oper} {listed:Array Bool} (hcl : ∀x o,opa[x]? = some o->listed.getD x false=true -> ∀e∈o.after,sM .any e=true->listed.getD e.on false=true) {b:Nat} :
  ∀(n:Nat) (o:Oper),sZ opa.toList n b o=true->(∀e∈o.after,sM .any e=true->listed.getD e.on false=true)->listed.getD b false=true
 | 0,o,hp,_=>by cases hp
 | n+1,o,hp,ho=>by
  rw[sZ,K8]at hp
  obtain⟨e,he,hp⟩:=hp
  have he:e∈o.after:=by simpa using he
  split at hp
  .rename_i hb
   have hl:=ho e he (aiM hb)
   split at hp
   .rename_i hj
    rw[<-beq_true.1 hj];exact hl
   .split at hp
    .split at hp
     .rename_i p hpp
      exact WZ hcl n p hp (hcl e.on p (by simpa using hpp) hl)
     .cases hp
    .cases hp
  .cases hp
theorem aiN (ok:aZ P E) {opa:Array Oper} (hd:tk N opa) (F:Nat->FP) {sF:St}
  (hF : ∀i o,opa[i]? = some o->(F i).o=o) (hpair : ∀b i,b<i->i<opa.size->(wG b (F i).o=true\/sZ opa.toList 12 b (F i).o=true)\/qQ opa.toList (F b) (F i)=true) (hback:s5 0 opa.toList=true) {Q:Exit->Act->World->Prop} (hQ : ∀a' w',fj E B N w0 S0 β0 sF a' w'->Q .normal a' w') :
  ∀(fuel:Nat) (listed:Array Bool) (s:St) (a:Act) (w:World),listed.size=opa.size->(∀x o,opa[x]? = some o->listed.getD x false=true -> ∀e∈o.after,sM .any e=true->listed.getD e.on false=true)->(left listed opa.size).length<=fuel->fj E B N w0 S0 β0 s a w->jU E opa.toList (left listed opa.size) s ((left listed opa.size).map F) sF->wpAny P .any opa Q fuel listed a w:=by
 intro fuel
 induction fuel with
 | zero=>
  intro listed s a w hsz hcl hlen rel hrun
  have hnil:left listed opa.size=[]:=sI (by omega)
  rw[hnil]at hrun
  refine⟨?_,hQ a w (by obtain⟨S,β,r⟩:=rel;exact⟨S,β,r.eqv hrun.2⟩)⟩
  rw[List.eq_nil_iff_forall_not_mem]
  intro i hi
  obtain⟨h1,o,h2,_⟩:=mem_ready.1 hi
  have:i∈left listed opa.size:=mem_left.2 ⟨(ph.1 h2).1,h1⟩
  rw[hnil]at this
  cases this
 | succ fuel ih=>
  intro listed s a w hsz hcl hlen rel hrun
  refine⟨fun hready=>?_,fun i hi=>?_⟩
  .-- nothing is ready: nothing is left
   have hnil:left listed opa.size=[]:=by
    cases hl:left listed opa.size with
    | nil=>rfl
    | cons i0 r=>
     exfalso
     have hmem:i0∈left listed opa.size:=by rw[hl];simp
     have hmem':=mem_left.1 hmem
     have hsorted:(left listed opa.size).Pairwise (· < ·):=(agy (n:=opa.size)).filter _
     rw[hl]at hsorted
     have ho:opa[i0]? = some opa[i0]:=qv hmem'.1
     have:i0∈Region.ready .any opa listed:=by
      refine mem_ready.2 ⟨hmem'.2,_,ho,fun e he hb=>?_⟩
      have hlt:=GC hback i0 _ (by simp) e he hb
      simp only[gD]at hlt
      by_cases hle:listed.getD e.on true=false
      .have hon:e.on∈left listed opa.size:=mem_left.2 ⟨by omega,hle⟩
       rw[hl]at hon
       rcases cK.1 hon with h | h
       .omega
       .have:=(l6.1 hsorted).1 _ h;omega
      .have hin:e.on<listed.size:=by omega
       simp only[k8,qv hin,k7]at hle ⊢
       simpa using hle
     rw[hready]at this
     cases this
   rw[hnil]at hrun
   obtain⟨S,β,r⟩:=rel
   exact hQ a w ⟨S,β,r.eqv hrun.2⟩
  .obtain⟨h1,o,h2,h3⟩:=mem_ready.1 hi
   have hin:i<opa.size:=(ph.1 h2).1
   have hmem:i∈left listed opa.size:=mem_left.2 ⟨hin,h1⟩
   have hsorted:(left listed opa.size).Pairwise (· < ·):=(agy (n:=opa.size)).filter _
   obtain⟨pre,post,hsplit⟩:=List.append_of_mem hmem
   rw[hsplit]at hsorted
   have hpre : ∀b∈pre,b<i:=fun b hb=>(mE.1 hsorted).2.2 b hb i (by simp)
   have hpost : ∀b∈post,i<b:=fun b hb=>(l6.1 (mE.1 hsorted).2.1).1 b hb
   have hset:left (listed.setIfInBounds i true) opa.size=pre++post:=by
    rw[aiL hsz hin,hsplit]
    simp only[List.filter_append,vM,ne_eq,not_true_eq_false,decide_false,ij,if_false]
    congr 1
    .exact agz.2 fun b hb=>by have:=hpre b hb;simp;omega
    .exact agz.2 fun b hb=>by have:=hpost b hb;simp;omega
   rw[hsplit,l7,gP]at hrun
   have hno : ∀f∈pre.map F,qQ opa.toList f (F i)=true:=by
    intro f hf
    obtain⟨b,hb,rfl⟩:=eQ.1 hf
    rcases hpair b i (hpre b hb) hin with (he | he) | he
    .exfalso
     rw[hF i o h2]at he
     obtain⟨e,e1,e2,e3⟩:=aiK he
     have:=h3 e e1 e3
     rw[e2]at this
     have hbl:b∈left listed opa.size:=by rw[hsplit];simp[hb]
     have hbl:=mem_left.1 hbl
     have hbin:b<listed.size:=by omega
     simp only[k8,qv hbin,k7]at this hbl
     rw[hbl.2]at this
     cases this
    .exfalso
     rw[hF i o h2]at he
     have hbl:b∈left listed opa.size:=by rw[hsplit];simp[hb]
     have hbl:=mem_left.1 hbl
     have hbin:b<listed.size:=by omega
     have:=WZ hcl 12 o he (fun e e1 e3=>by
      have h4:=h3 e e1 e3
      have hlt:=GC hback i o (by simpa using h2) e e1 e3
      have hein:e.on<listed.size:=by omega
      simp only[k8,qv hein,k7]at h4 ⊢
      exact h4)
     simp only[k8,qv hbin,k7]at this hbl
     rw[hbl.2]at this
     cases this
    .exact he
   obtain⟨o',s1,wr,f,tr',r1,r2,r3,r4,r5⟩:=jU.first (by simp) hrun hno
   have ho':o'=o:=by
    have:opa[i]? = some o':=by simpa using r1
    rw[h2]at this
    cases this;rfl
   subst ho'
   simp only[qq]at r4
   obtain⟨_,rfl⟩:=r4
   obtain⟨S,β,rel'⟩:=rel
   refine WA h2 (Wz ok rel' (fun d hdd=>hd o' (by simpa using UW h2) d hdd) (fun j d hj=>hd.at hj) r2) fun a' w' rel1=>?_
   refine ih _ s1 a' w' (by simpa using hsz) ?_ ?_ rel1 ?_
   .intro x ox hx hxl e he hbe
    have keep : ∀m,listed.getD m false=true->(listed.setIfInBounds i true).getD m false=true:=fun m hm=>by
     by_cases hmi:m=i
     .subst hmi
      simp[k8,hsz,hin]
     .simpa[k8,FC,Ne.symm hmi,hmi]using hm
    by_cases hxi:x=i
    .have e0:o'=ox:=by rw[hxi,h2]at hx;exact jC hx
     rw[<-e0]at he
     have h4:=h3 e he hbe
     have hlt:=GC hback i o' (by simpa using h2) e he hbe
     have hein:e.on<listed.size:=by omega
     refine keep _ ?_
     simp only[k8,qv hein,k7]at h4 ⊢
     exact h4
    .refine keep _ (hcl x ox hx ?_ e he hbe)
     simpa[k8,FC,Ne.symm hxi,hxi]using hxl
   .rw[hset]
    have:=hlen
    rw[hsplit]at this
    simp only[List.length_append,gq]at this ⊢
    omega
   .rw[hset,l7]
    exact r5
theorem aiO (ok:aZ P E) {opa:Array Oper} (hd:tk N opa) (hm:P.follows .mixedOrders=true) {id:Nat} {Q:Exit->Act->World->Prop} (rel:fj E B N w0 S0 β0 s a w) (hs:(s6 E opa.toList opa.toList s []).val=some s') (hQ : ∀a' w',fj E B N w0 S0 β0 s' a' w'->Q .normal a' w') :
  (Code.region id opa true).wp P Q a w:=by
 obtain⟨tq,k1,k2,k3,k4⟩:=WX opa.toList 0 s [] s' (fun j=>by simp) hs
 simp only[List.append_nil,Array.length_toList]at k2 k3 k1
 refine wp_region_any hm ?_
 have hleft:left (agA opa.size false) opa.size=gG opa.size:=by
  unfold left
  refine agz.2 fun i hi=>?_
  have hi:i<opa.size:=by simpa using hi
  simp[k8,hi]
 have htq:(gG opa.size).map (fun i=>(tq[i]?).getD ⟨default,[],[],[],none,[],[],[],false,[],[],[]⟩)=tq:=by
  refine List.ext_getElem? fun i=>?_
  by_cases hi:i<opa.size
  .simp[K3 hi,bC (show i<tq.length by omega)]
  .rw[UY (by simp;omega),UY (by omega)]
 have rel':fj E B N w0 S0 β0 s a { w with drawn:=w.drawn+1 }:=by
  obtain⟨S,β,r⟩:=rel
  have g:Gr B w S β w.drew S β:=Gh B w S β
  exact⟨S,β,r.inv.drew,fun n=>g.rv (r.tok n),r.gd,r.below.trans g.below,r.sub,r.news,r.fix,r.size,r.defers⟩
 refine aiN ok hd (fun i=>(tq[i]?).getD ⟨default,[],[],[],none,[],[],[],false,[],[],[]⟩) ?_ ?_ k4 hQ opa.size _ s a _ (by simp) (fun x o _ hx=>by simp[k8,Array.getElem?_replicate]at hx;split at hx<;>simp_all) (by rw[hleft];simp) rel' ?_
 .-- each footprint is of its operation
  have key : ∀(l:List Nat) (s:St) (tr:List FP) (s':St),jU E opa.toList l s tr s' -> ∀(j i:Nat),l[j]? = some i -> ∀o,opa[i]? = some o -> ∃f,tr[j]? = some f/\f.o=o:=by
   intro l
   induction l with
   | nil=>intro s tr s' _ j i hj;simp at hj
   | cons i0 l ih=>
    intro s tr s' hr j i hj o ho
    obtain⟨o',s1,wr,f,tr',r1,r2,r3,rfl,r5⟩:=hr
    cases j with
    | zero=>
     simp at hj
     subst hj
     have:o'=o:=by
      have:opa[i0]? = some o':=by simpa using r1
      rw[ho]at this;cases this;rfl
     exact⟨f,rfl,by rw[r3.o,this]⟩
    | succ j=>simpa using ih s1 tr' s' r5 j i (by simpa using hj) o ho
  intro i o ho
  have hi:i<opa.size:=(ph.1 ho).1
  obtain⟨f,h1,h2⟩:=key _ _ _ _ k1 i i (by rw[<-agw,K3 hi]) o ho
  simp only[h1,k7]
  exact h2
 .intro b i hlt hi
  have hb':tq[b]? = some tq[b]:=bC (by omega)
  have hi':tq[i]? = some tq[i]:=bC (by omega)
  simp only[hb',hi',k7]
  exact WY k3 b i _ _ hlt (by rw[K9];exact hb') (by rw[K9];exact hi')
 .rw[hleft,htq,agw]
  exact k1
end
end
end Go.Proofs.YtaobkfpnebbohaaGreatDoor.M
namespace Go.Proofs.YtaobkfpnebbohaaGreatDoor.M
open Go Go.RowKit
set_option linter.unusedVariables false
set_option linter.unusedSimpArgs false
section
variable {P : Program} {E : Env}
def ra:Ex->Exit
 | .normal=> .normal
 | .exit i=> .exit i
 | .ret=> .ret
def rb (kt kh:List Nat) (p:Ex×St):T (Ex×St):= .ret (p.1,less kt kh p.2)
def GD (kb j k:Nat) (p:Nat×ah):Nat×ah:=match bk p.1 kb with
 | true=>(p.1,{ p.2 with rows:=p.2.rows.map (fun r=>r.set j (.own k)) })
 | false=>p
def xf (kb j k t n:Nat) (h:Heap):Heap:=mG (h.map (GD kb j k)) k ⟨false,t,n,[]⟩
def GF (kb j k:Nat) (h:Heap):Bool:=(match an h k with | none=>true | some _=>false)&&lV k 900&&(match an h kb with
 | some b=>b.box&&b.rows.all fun r=>match r[j]? with | some .e0=>true | _=>false
 | none=>false)
inductive ba (E:Env) (x:Code):St->Ex->St->Prop where
 | stop {s s1:St} {e:Ex} (kt kh:List Nat) (h:((exec E x s).bind (rb kt kh)).val=some (e,s1)) (hn:e ≠ .normal) (hc:fS s1=true):ba E x s e s1
 | next {s s1 s2:St} {e:Ex} (kt kh:List Nat) (h:((exec E x s).bind (rb kt kh)).val=some (.normal,s1)) (hc:fS s1=true) (hl:ba E x s1 e s2):ba E x s e s2
 | G4 {s s2:St} {e:Ex} (kt kh:List Nat) (hc:fS (less kt kh s)=true) (hl:ba E x (less kt kh s) e s2):ba E x s e s2
 | own {s s2:St} {e:Ex} (kb j k t n:Nat) (hb:GF kb j k s.h=true) (hl:ba E x ⟨s.t,xf kb j k t n s.h⟩ e s2):ba E x s e s2
 | fP {s s2:St} {e:Ex} (ks:List Nat) (hl:ba E x (s.oC ks) e s2):ba E x s e s2
section
variable {B : Nat -> Prop} {N : Nat} {β0 : Nat -> Option BI} {o : Oper} {a : Act} {w w' w0 : World} {S S' S0 : Nat -> Prop} {β β' : Nat -> Option BI} {h : Heap} {av : AV} {v : Value} {t : dG} {s s' s2 : St}
theorem aiP {ks:List Nat} (hh:hasAll h ks=true) : ∀k∈ks,∃b,an h k=some b:=fun k hk=>by
 have:=bP.1 hh k hk
 cases hm:an h k with
 | none=>rw[hm]at this;cases this
 | some b=>exact⟨b,rfl⟩
theorem W0 (f:Nat->Bool) (t:dG) (n:Nat):bJ (t.filter fun p=>f p.1) n=if f n=true then bJ t n else .bL:=by
 unfold bJ
 rw[wX f]
 cases f n<;>simp
theorem aiQ (rel:Rel E B N w0 S0 β0 s a w S β) (kt kh:List Nat) (hc:fS (less kt kh s)=true) : ∃β',Rel E B N w0 S0 β0 (less kt kh s) a w S β':=by
 have inv:=rel.inv
 unfold fS at hc
 simp only[aG]at hc
 obtain⟨hc1,hc2⟩:=hc
 have mh : ∀k,an (less kt kh s).h k=if kh.elem k=true then an s.h k else none:=fun k=>by
  show an (s.h.filter fun p=>kh.elem p.1) k=_
  exact wX (fun q=>kh.elem q) s.h k
 let β':Nat->Option BI:=fun k=>if kh.elem k=true then β k else none
 have hb : ∀k x,β' k=some x->kh.elem k=true/\β k=some x:=by
  intro k x hx
  simp only[β']at hx
  split at hx
  .exact⟨‹_›,hx⟩
  .cases hx
 have keep : ∀ks,hasAll (less kt kh s).h ks=true -> ∀k∈ks,∀x,β k=some x->β' k=some x:=by
  intro ks hks k hk x hx
  obtain⟨b,hm⟩:=aiP hks k hk
  rw[mh]at hm
  split at hm
  .simp only[β'];rw[if_pos ‹_›];exact hx
  .cases hm
 refine⟨β',⟨inv.base,inv.lt,fun k k' x x' h1 h2=>inv.inj k k' x x' (hb k x h1).2 (hb k' x' h2).2,fun k x h1=>inv.new k x (hb k x h1).2,fun k x h1=>?_,fun k bl h1=>?_,inv.dH⟩,fun n=>?_,fun n j b want x hn=>?_,rel.below,rel.sub,rel.news,fun k x hi hm hx=>rel.fix k x hi hm (hb k x hx).2,rel.size,rel.defers⟩
 .obtain⟨k1,k2⟩:=hb k x h1
  obtain⟨bl,a1,a2,a3⟩:=inv.di k x k2
  have hm:an (less kt kh s).h k=some bl:=by rw[mh,if_pos k1];exact a1
  refine⟨bl,hm,fun hr=>?_,a3⟩
  obtain⟨cs,ty,c1,c2,c3,c4,c5,c6,c7,c8⟩:=a2 hr
  refine⟨cs,ty,c1,c2,c3,c4,c5,c6,c7,fun i row hi=>⟨(c8 i row hi).1,fun j y hy=>?_⟩⟩
  obtain⟨u,hu,hru⟩:=(c8 i row hi).2 j y hy
  refine⟨u,hu,?_⟩
  cases hbx:bl.box
  .rw[hbx]at hru;simpa using hru
  .rw[hbx]at hru
   simp only[if_true]at hru ⊢
   have h2:=bP.1 hc2 (k,bl) (jf hm)
   simp only[hbx]at h2
   have h3:=bP.1 (bP.1 h2 row (cL hi)) y (cL hy)
   refine hru.mono (fun _ _=>rfl) (fun _ h=>h) fun q hq x hx=>keep _ h3 q ?_ x hx
   cases y<;>first | exact hq | (simp[du,dk]at hq)
 .rw[mh]at h1
  split at h1
  .obtain⟨x,hx⟩:=inv.il k bl h1
   exact⟨x,by simp only[β'];rw[if_pos ‹_›];exact hx⟩
  .cases h1
 .have hg:bJ (less kt kh s).t n=fC (if kt.elem n=true then bJ s.t n else .bL):=by
   show bJ ((s.t.filter fun p=>kt.elem p.1).map fun p=>(p.1,fC p.2)) n=_
   rw[ly _ fC rfl,W0 (fun q=>kt.elem q)]
  have hk:hasAll (less kt kh s).h (bK (bJ (less kt kh s).t n))=true:=by
   unfold bJ
   cases hm:an (less kt kh s).t n with
   | none=>rfl
   | some y=>exact bP.1 hc1 (n,y) (jf hm)
  rw[hg]at hk ⊢
  split
  .rename_i hn
   rw[if_pos hn]at hk
   exact(CE (rel.tok n)).mono (fun _ _=>rfl) (fun _ h=>h) (keep _ hk)
  .trivial
 .have hg:bJ (less kt kh s).t n=fC (if kt.elem n=true then bJ s.t n else .bL):=by
   show bJ ((s.t.filter fun p=>kt.elem p.1).map fun p=>(p.1,fC p.2)) n=_
   rw[ly _ fC rfl,W0 (fun q=>kt.elem q)]
  rw[hg]at hn
  exact absurd hn tf
theorem MC (rel:fj E B N w0 S0 β0 s a w) (kt kh:List Nat) (hc:fS (less kt kh s)=true):fj E B N w0 S0 β0 (less kt kh s) a w:=by
 obtain⟨S,β,r⟩:=rel
 obtain⟨β',r'⟩:=aiQ r kt kh hc
 exact⟨S,β',r'⟩
theorem W2 {i k:Nat} (h : ¬i=k):bk i k=false:=by
 cases hb:bk i k
 .rfl
 .exact absurd (Nat.eq_of_beq_eq_true hb) h
theorem MD (kb j k t n:Nat) (h:Heap) (q:Nat):an (xf kb j k t n h) q=if k=q then some ⟨false,t,n,[]⟩ else (an h q).map fun b=>if q=kb then { b with rows:=b.rows.map (fun r=>r.set j (.own k)) } else b:=by
 have hmap : ∀h:Heap,an (h.map (GD kb j k)) q=(an h q).map fun b=>if q=kb then { b with rows:=b.rows.map (fun r=>r.set j (.own k)) } else b:=by
  intro h
  induction h with
  | nil=>rfl
  | cons p r ih=>
   obtain⟨i,b⟩:=p
   rw[gP]
   have hp:GD kb j k (i,b)=(i,if i=kb then { b with rows:=b.rows.map (fun r=>r.set j (.own k)) } else b):=by
    unfold GD
    by_cases hi:i=kb
    .have:bk i kb=true:=by simpa using hi
     simp only[this,if_pos hi]
    .have:bk i kb=false:=W2 hi
     simp only[this,if_neg hi]
   rw[hp,an,an]
   by_cases hqi:q=i
   .subst hqi
    have:bk q q=true:=by simp
    simp only[this,lZ]
   .have:bk q i=false:=W2 hqi
    simp only[this]
    exact ih
 unfold xf
 rw[gu]
 by_cases hkq:k=q
 .subst hkq;simp
 .have hqk : ¬q=k:=fun e=>hkq e.symm
  first | (rw[if_neg hkq,if_neg hkq];exact hmap h) | (rw[if_neg hqk,if_neg hkq];exact hmap h)
theorem aiR (rel:Rel E B N w0 S0 β0 s a w S β) {kb j k t n:Nat} (hc:GF kb j k s.h=true) : ∃β',Rel E B N w0 S0 β0 ⟨s.t,xf kb j k t n s.h⟩ a w S β':=by
 have inv:=rel.inv
 unfold GF at hc
 simp only[aG]at hc
 obtain⟨⟨hc1,hc2⟩,hc3⟩:=hc
 have hk9:k<900:=by simpa using hc2
 have hkn:an s.h k=none:=by
  cases hm:an s.h k with
  | none=>rfl
  | some b=>rw[hm]at hc1;cases hc1
 have hβk:β k=none:=by
  cases hb:β k with
  | none=>rfl
  | some x=>
   obtain⟨bl,h1,_⟩:=inv.di k x hb
   rw[hkn]at h1;cases h1
 let β':Nat->Option BI:=fun q=>if q=k then some ⟨false,0,0,0,0⟩ else β q
 have hb : ∀q x,β' q=some x->x.real=true->β q=some x:=by
  intro q x hx hr
  simp only[β']at hx
  split at hx
  .cases hx;cases hr
  .exact hx
 have keep : ∀q x,β q=some x->β' q=some x:=by
  intro q x hx
  simp only[β']
  rw[if_neg (by rintro rfl;rw[hβk]at hx;cases hx)]
  exact hx
 refine⟨β',⟨inv.base,inv.lt,fun k1 k2 x x' h1 h2 r1 r2=>inv.inj k1 k2 x x' (hb k1 x h1 r1) (hb k2 x' h2 r2) r1 r2,fun q x h1 r1=>inv.new q x (hb q x h1 r1) r1,fun q x h1=>?_,fun q bl h1=>?_,inv.dH⟩,fun m=>(rel.tok m).mono (fun _ _=>rfl) (fun _ h=>h) (fun q _ x hx=>keep q x hx),rel.gd,rel.below,rel.sub,rel.news,fun q x hi hm hx=>?_,rel.size,rel.defers⟩
 .by_cases hq:q=k
  .subst hq
   refine⟨⟨false,t,n,[]⟩,by rw[MD,if_pos rfl],fun hr=>?_,fun _=>⟨rfl,rfl⟩⟩
   simp only[β',if_true]at h1
   cases h1;cases hr
  .have h2:β q=some x:=by simp only[β',if_neg hq]at h1;exact h1
   obtain⟨bl,a1,a2,a3⟩:=inv.di q x h2
   have hm:an (xf kb j k t n s.h) q=some (if q=kb then { bl with rows:=bl.rows.map (fun r=>r.set j (.own k)) } else bl):=by
    rw[MD,if_neg (fun e=>hq e.symm),a1];rfl
   by_cases hkb:q=kb
   .rw[if_pos hkb]at hm
    subst hkb
    rw[a1]at hc3
    simp only[aG]at hc3
    obtain⟨hbx,hrows⟩:=hc3
    refine⟨_,hm,fun hr=>?_,fun hr=>?_⟩
    .obtain⟨cs,ty,c1,c2,c3,c4,c5,c6,c7,c8⟩:=a2 hr
     refine⟨cs,ty,c1,c2,by simpa using c3,c4,c5,c6,c7,fun i row hi=>?_⟩
     simp only[dM,eZ]at hi
     obtain⟨row0,hi0,rfl⟩:=hi
     obtain⟨d1,d2⟩:=c8 i row0 hi0
     refine⟨by simpa using d1,fun l y hy=>?_⟩
     simp only[hbx,if_true]at d2 ⊢
     rw[List.getElem?_set]at hy
     split at hy
     .rename_i hjl
      subst hjl
      split at hy
      .rename_i hlt
       cases hy
       have he:=bP.1 hrows row0 (cL hi0)
       have hg:row0[j]? = some row0[j]:=bC hlt
       have h0:row0[j]? = some .e0:=by
        rw[hg]at he ⊢
        cases hh:row0[j]<;>rw[hh]at he<;>first | rfl | cases he
       obtain⟨v,e1,e2⟩:=d2 j _ h0
       exact⟨v,e1,⟨⟨false,0,0,0,0⟩,by simp only[β',if_true],(fun hr=>(nomatch hr)),(fun _=>e2)⟩⟩
      .cases hy
     .obtain⟨v,e1,e2⟩:=d2 l y hy
      exact⟨v,e1,e2.mono (fun _ _=>rfl) (fun _ h=>h) fun q _ x hx=>keep q x hx⟩
    .have:=a3 hr
     rw[hbx]at this
     exact absurd this.2 (by simp)
   .rw[if_neg hkb]at hm
    refine⟨bl,hm,fun hr=>?_,a3⟩
    obtain⟨cs,ty,c1,c2,c3,c4,c5,c6,c7,c8⟩:=a2 hr
    refine⟨cs,ty,c1,c2,c3,c4,c5,c6,c7,fun i row hi=>⟨(c8 i row hi).1,fun l y hy=>?_⟩⟩
    obtain⟨u,hu,hru⟩:=(c8 i row hi).2 l y hy
    refine⟨u,hu,?_⟩
    cases hbx:bl.box
    .rw[hbx]at hru;simpa using hru
    .rw[hbx]at hru
     simp only[if_true]at hru ⊢
     exact hru.mono (fun _ _=>rfl) (fun _ h=>h) fun q _ x hx=>keep q x hx
 .rw[MD]at h1
  split at h1
  .rename_i e
   subst e
   exact⟨⟨false,0,0,0,0⟩,by simp only[β',if_true]⟩
  .cases hm:an s.h q with
   | none=>rw[hm]at h1;cases h1
   | some b=>
    obtain⟨x,hx⟩:=inv.il q b hm
    exact⟨x,keep q x hx⟩
 .have hq:q≠k:=by rintro rfl;exact absurd hi.1 (by omega)
  simp only[β',if_neg hq]at hx
  exact rel.fix q x hi hm hx
theorem aiS (rel:fj E B N w0 S0 β0 s a w) {kb j k t n:Nat} (hc:GF kb j k s.h=true):fj E B N w0 S0 β0 ⟨s.t,xf kb j k t n s.h⟩ a w:=by
 obtain⟨S,β,r⟩:=rel
 obtain⟨β',r'⟩:=aiR r hc
 exact⟨S,β',r'⟩
theorem aiT (rel:fj E B N w0 S0 β0 s a w) (ks:List Nat):fj E B N w0 S0 β0 (s.oC ks) a w:=by
 obtain⟨S,β,r⟩:=rel
 obtain⟨S',β',r'⟩:=Gt ks r
 exact⟨S',β',r'⟩
theorem aiU (x:AV):nI none x=x:=by unfold nI;split<;>rfl
theorem aiV (rel:fj E B N w0 S0 β0 s a w) {c:Operand} {b:Bool} (hb:nJ (ev E s.t c)=some b):a.eval c = .bool b:=by
 obtain⟨S,β,r⟩:=rel
 have:=r.args (g:=none) (fun _ _ e=>by cases e) c
 unfold cM at this
 rw[aiU,Gc hb]at this
 exact(dD this).1
def W3 (P:Program) (E:Env) (B:Nat->Prop) (N:Nat) (w0:World) (S0:Nat->Prop) (β0:Nat->Option BI) (c:Code):Prop:=
 ∀(s:St) (e:Ex) (s':St) (a:Act) (w:World) (Q:Exit->Act->World->Prop),fj E B N w0 S0 β0 s a w->(exec E c s).val=some (e,s')->(∀a' w',fj E B N w0 S0 β0 s' a' w'->Q (ra e) a' w')->c.wp P Q a w
theorem aiW {x:Code} (hx:W3 P E B N w0 S0 β0 x) {Q:Exit->Act->World->Prop} {s2:St} {e:Ex} (hQ : ∀a' w',fj E B N w0 S0 β0 s2 a' w'->Q (ra e) a' w') {s:St} (hl:ba E x s e s2) :
  ∀(a:Act) (w:World),fj E B N w0 S0 β0 s a w -> ∀(b:Frame) (k:List Item) (cs:List Frame),∃e' a' w',Q e' a' w'/\Arrives P (lone (b.at a (.code x :: .inLoop x::k)) cs w) b k cs e' a' w':=by
 induction hl with
 | @stop s s1 e kt kh h hn hc=>
  intro a w rel b k cs
  rw[T.bind_some]at h
  obtain⟨⟨e1,s3⟩,h1,h2⟩:=h
  rw[show rb kt kh (e1,s3) = .ret (e1,less kt kh s3) from rfl,T.bw]at h2
  cases h2
  obtain⟨e',a',w',hq,harr⟩:=hx s e s3 a w (fun e' a' w'=>e'=ra e/\fj E B N w0 S0 β0 s3 a' w') rel h1 (fun a' w' r=>⟨rfl,r⟩) b (.inLoop x::k) cs
  obtain⟨rfl,hr⟩:=hq
  refine⟨ra e,a',w',hQ a' w' (MC hr kt kh hc), .pass (x:= .inLoop x) rfl (fun _ _=> .inl ?_) harr⟩
  cases e<;>first | exact absurd rfl hn | simp[ra]
 | @next s s1 s2 e kt kh h hc hl ih=>
  intro a w rel b k cs
  rw[T.bind_some]at h
  obtain⟨⟨e1,s3⟩,h1,h2⟩:=h
  rw[show rb kt kh (e1,s3) = .ret (e1,less kt kh s3) from rfl,T.bw]at h2
  cases h2
  obtain⟨e',a',w',hq,harr⟩:=hx s .normal s3 a w (fun e' a' w'=>e' = .normal/\fj E B N w0 S0 β0 s3 a' w') rel h1 (fun a' w' r=>⟨rfl,r⟩) b (.inLoop x::k) cs
  obtain⟨rfl,hr⟩:=hq
  obtain⟨e2,a2,w2,q2,r2⟩:=ih hQ a' w' (MC hr kt kh hc) b k cs
  exact⟨e2,a2,w2,q2, .of_steps (Steps.trans harr (.one step_inLoop)) r2⟩
 | @G4 s s2 e kt kh hc hl ih=>
  intro a w rel b k cs
  exact ih hQ a w (MC rel kt kh hc) b k cs
 | @own s s2 e kb j ky t n hb hl ih=>
  intro a w rel b k cs
  exact ih hQ a w (aiS rel hb) b k cs
 | @fP s s2 e ks hl ih=>
  intro a w rel b k cs
  exact ih hQ a w (aiT rel ks) b k cs
theorem W4 (ok:aZ P E) (hm:P.follows .mixedOrders=true) {L:List Code} (hlp : ∀x∈L,∀s e s',(E.lp (fg x) s).val=some (e,s')->ba E x s e s') : ∀c:Code,(∀x∈jE c,x∈L)->fR N c=true->W3 P E B N w0 S0 β0 c:=by
 intro c
 induction c with
 | skip=>
  intro _ _ s e s' a w Q rel hs hQ
  rw[exec,done,T.bw]at hs
  cases hs
  exact wp_skip (hQ a w rel)
 | region id ops dr=>
  intro _ hd s e s' a w Q rel hs hQ
  have hd':tk N ops:=fun o ho d hdd=>by
   have:=bP.1 hd o ho
   rw[hdd]at this
   simpa using this
  cases dr with
  | false=>
   simp only[exec,T.bind_some]at hs
   obtain⟨s1,h1,h2⟩:=hs
   rw[done,T.bw]at h2
   cases h2
   exact aij ok hd' rel h1 hQ
  | true=>
   simp only[exec,T.bind_some]at hs
   obtain⟨s1,h1,h2⟩:=hs
   rw[done,T.bw]at h2
   cases h2
   exact aiO ok hd' hm rel h1 hQ
 | seq x y ihx ihy=>
  intro hL hd s e s' a w Q rel hs hQ
  simp only[fR,aG]at hd
  rw[exec,T.bind_some]at hs
  obtain⟨⟨e1,s1⟩,h1,h2⟩:=hs
  refine wp_seq (ihx (fun z hz=>hL z (by simp[jE,hz])) hd.1 s e1 s1 a w _ rel h1 fun a' w' r=>?_)
  cases e1 with
  | normal=>exact ihy (fun z hz=>hL z (by simp[jE,hz])) hd.2 s1 e s' a' w' Q r h2 hQ
  | exit i=>rw[T.bw]at h2;cases h2;exact hQ a' w' r
  | ret=>rw[T.bw]at h2;cases h2;exact hQ a' w' r
 | cond c x y ihx ihy=>
  intro hL hd s e s' a w Q rel hs hQ
  simp only[fR,aG]at hd
  rw[exec]at hs
  split at hs
  .rename_i b hb
   refine wp_cond (aiV rel hb) ?_
   rw[T.dv]at hs
   rcases hs with ⟨rfl,hs⟩ | ⟨rfl,hs⟩
   .exact ihx (fun z hz=>hL z (by simp[jE,hz])) hd.1 s e s' a w Q rel hs hQ
   .exact ihy (fun z hz=>hL z (by simp[jE,hz])) hd.2 s e s' a w Q rel hs hQ
  .rw[T.aO]at hs;exact hs.elim
 | block id x ihx=>
  intro hL hd s e s' a w Q rel hs hQ
  rw[exec,T.bind_some]at hs
  obtain⟨⟨e1,s1⟩,h1,h2⟩:=hs
  refine wp_block (ihx (fun z hz=>hL z (by simpa[jE]using hz)) hd s e1 s1 a w _ rel h1 fun a' w' r=>?_)
  cases e1 with
  | normal=>rw[T.bw]at h2;cases h2;exact hQ a' w' r
  | ret=>rw[T.bw]at h2;cases h2;exact hQ a' w' r
  | exit i=>
   simp only[ra,Exit.inBlock]
   simp only[]at h2
   cases hi:bk i id with
   | true=>
    rw[if_pos (beq_true.1 hi)]
    simp only[hi]at h2
    rw[T.bw]at h2;cases h2;exact hQ a' w' r
   | false=>
    rw[if_neg (beq_false.1 hi)]
    simp only[hi]at h2
    rw[T.bw]at h2;cases h2;exact hQ a' w' r
 | loop x ihx=>
  intro hL hd s e s' a w Q rel hs hQ
  rw[exec]at hs
  have hl:=hlp x (hL x (by simp[jE])) s e s' hs
  have hx:=ihx (fun z hz=>hL z (by simp[jE,hz])) hd
  intro b k cs
  obtain⟨e',a',w',hq,harr⟩:=aiW hx hQ hl a w rel b k cs
  exact⟨e',a',w',hq, .of_steps (.one step_loop) harr⟩
 | exit id=>
  intro _ _ s e s' a w Q rel hs hQ
  rw[exec,T.bw]at hs
  cases hs
  exact wp_exit (hQ a w rel)
 | ret=>
  intro _ _ s e s' a w Q rel hs hQ
  rw[exec,T.bw]at hs
  cases hs
  exact wp_ret (hQ a w rel)
 | _=>
  intro _ _ s e s' a w Q rel hs hQ
  simp[exec,T.val]at hs
def ME (a:Act):ResultVar->Sem Value
 | .tmp t=>Pure.pure (a.tmps.getD t undef)
 | .cell q t=>do loadVar t (<-asAddr (a.tmps.getD q undef))
theorem aiX (ok:aZ P E) (rel:Rel E B N w0 S0 β0 s a w S β) (r:ResultVar) {x:AV} (hx:(F1 E s r).val=some x) : ∃u,(ME a r).run P w = .ok u w/\RV w S β x u:=by
 cases r with
 | tmp t=>
  simp only[F1,T.bw]at hx
  subst hx
  exact⟨_,rfl,rel.tok t⟩
 | cell q t=>
  simp only[F1]at hx
  split at hx
  .rename_i ti hti
   obtain⟨u,h1,h2⟩:=VI (P:=P) ok.ty rel.inv hti (rel.tok q) hx
   refine⟨u,?_,h2⟩
   have : ∃ad,a.tmps.getD q undef = .pointer (some ad):=by
    have hq:=rel.tok q
    unfold qJ at hx
    split at hx
    .rename_i row off hr;rw[hr]at hq;obtain⟨b,o,h,_⟩:=F9 hq;exact⟨_,h⟩
    .rename_i k i off hr;rw[hr]at hq;obtain⟨X,_,_,h⟩:=Cq hq;exact⟨_,h⟩
    .rw[T.aO]at hx;exact hx.elim
   obtain⟨ad,had⟩:=this
   show(do loadVar t (<-asAddr (a.tmps.getD q undef)):Sem Value).run P w=_
   rw[had]at h1 ⊢
   simpa[Instr.loadAt,Instr.sureAddr,asAddr]using h1
  .rw[T.aO]at hx;exact hx.elim
theorem W5 (ok:aZ P E) (rel:Rel E B N w0 S0 β0 s a w S β) : ∀(rs:List ResultVar) {xs:List AV},(kB E s rs).val=some xs ->
  ∃us:List Value,(rs.mapM (ME a)).run P w = .ok us w/\RL (RV w S β) xs us
 | [],xs,hx=>by
  simp only[kB,T.bw]at hx
  subst hx
  exact⟨[],by simp,trivial⟩
 | r::rs,xs,hx=>by
  simp only[kB,T.bind_some,T.bw]at hx
  obtain⟨x,h1,xs',h2,rfl⟩:=hx
  obtain⟨u,h3,h4⟩:=aiX ok rel r h1
  obtain⟨us,h5,h6⟩:=W5 ok rel rs h2
  exact⟨u::us,by rw[List.mapM_cons];simp only[Sem.run_bind,h3,Result.andThen_ok,h5,Sem.run_pure],h4,h6⟩
theorem aiY (ok:aZ P E) (rel:Rel E B N w0 S0 β0 s a w S β) (fn:Func) {xs:List AV} (hx:(kB E s fn.results.toList).val=some xs) :
  ∃u,(results fn a.tmps).run P w = .ok u w/\RV w S β (lu xs) u:=by
 obtain⟨us,h1,h2⟩:=W5 ok rel _ hx
 have hr:(results fn a.tmps).run P w = .ok (if h:us.toArray.size=1 then us.toArray[0] else .tuple us.toArray) w:=by
  have e:results fn a.tmps=(do let vs <-fn.results.mapM (ME a);Pure.pure (if h:vs.size=1 then vs[0] else .tuple vs)):=rfl
  rw[e,Array.mapM_eq_mapM_toList]
  simp[h1]
 refine⟨_,hr,?_⟩
 have hlen:=h2.length
 rcases xs with _ | ⟨x,_ | ⟨y,xs⟩⟩<;>rcases us with _ | ⟨u,_ | ⟨u2,us⟩⟩<;>first | (simp at hlen;done) | skip
 .simp
  exact⟨[],rfl,trivial⟩
 .simp
  exact CE h2.1
 .simp only[List.size_toArray,gq]
  rw[dif_neg (by omega)]
  refine⟨u::u2::us,rfl,h2.map fun b hb u hu=>?_⟩
  unfold v7
  split
  .trivial
  .trivial
  .rename_i n1 n2
   rw[s7 n2 n1]at hu
   exact hu
theorem MF : ∀(l:List AV) (i:Nat) (acc:dG) (n:Nat),an (lr i l acc) n=if i<=n/\n<i+l.length then l[n - i]? else an acc n
 | [],i,acc,n=>by
  simp only[lr,List.length_nil,Nat.add_zero]
  rw[if_neg (by omega)]
 | x::l,i,acc,n=>by
  rw[lr,MF l (i+1) _ n]
  simp only[gq,an]
  by_cases h1:n=i
  .subst h1
   rw[if_neg (by omega),if_pos (by omega),beq_true.2 rfl]
   simp
  .rw[beq_false.2 h1]
   by_cases h2:i+1<=n/\n<i+1+l.length
   .rw[if_pos h2,if_pos (by omega)]
    obtain⟨q,hq⟩ : ∃q,n - i=q+1:=⟨n - i - 1,by omega⟩
    rw[hq,qu]
    congr 1;omega
   .rw[if_neg h2,if_neg (by omega)]
theorem aiZ {hg:Nat->Option ah} {x:AV} (hn : ∀k,x ≠ .own k) (hw : ∀k lo n,x ≠ .win k lo n) (hr:RC w S β x v):R0 w S (iz hg x) v:=by
 have h1:=hr.one
 cases x
 case own k=>exact absurd rfl (hn k)
 case win k lo n=>exact absurd rfl (hw k lo n)
 case e0=>
  obtain⟨A,rfl⟩:=hr
  exact R0.sl (rows:=[]) (size:=0) (b:=0) (off:=0) (vals:=fun _ _=> .nilFunc) (by simp) (by simp) (by simp) (by simp) (by simp) (by simp)
 case v y=>exact hr
 case sl rows=>exact hr
 case nz b rows=>exact hr.1
 case fn f cs=>
  obtain⟨vs,rfl,h2⟩:=hr
  cases cs
  .cases vs
   .exact .fn f
   .exact h2.elim
  .exact .bL rfl
 all_goals exact .bL h1
theorem W6 {ks:List Nat} : ∀ {l:List Nat} {H:Heap},Cl h ks l=some H->(∀p bl,an H p=some bl -> ∃j∈l,p=ik ks j/\an h j=some bl/\bl.box=false)/\(∀j∈l,∃bl,an h j=some bl/\bl.box=false /\ ∃b2,an H (ik ks j)=some b2)
 | [],H,hh=>by
  simp only[Cl,eX]at hh
  subst hh
  exact⟨fun p bl hp=>by simp[an]at hp,fun j hj=>by simp at hj⟩
 | j::r,H,hh=>by
  simp only[Cl]at hh
  split at hh
  .rename_i bl hbl
   split at hh
   .cases hh
   .rename_i hbox
    split at hh
    .rename_i H' hH
     cases hh
     obtain⟨i1,i2⟩:=W6 hH
     refine⟨fun p b hp=>?_,fun q hq=>?_⟩
     .simp only[an]at hp
      split at hp
      .rename_i hb
       cases hp
       exact⟨j,by simp,beq_true.1 hb,hbl,hbox⟩
      .obtain⟨q,h1,h2⟩:=i1 p b hp
       exact⟨q,by simp[h1],h2⟩
     .rcases cK.1 hq with rfl | hq
      .exact⟨bl,hbl,hbox,bl,by simp[an]⟩
      .obtain⟨b,h1,h2,b2,h3⟩:=i2 q hq
       refine⟨b,h1,h2,?_⟩
       simp only[an]
       split
       .exact⟨_,rfl⟩
       .exact⟨b2,h3⟩
    .cases hh
  .cases hh
theorem W7 (ok:aZ P E) {f:FuncId} {fn:Func} (hf:P.funcs[f]? = some fn)
  {c:Code} (hc:fn.body=some c) (hd:fR fn.ntmps c=true) {hin:Heap} {args:List AV} {cargs:List Value} (inv:Inv E B w S β0 hin) (hargs:RL (RV w S β0) args cargs) {s2:St} {ee:Ex} (he:ee = .normal\/ee = .ret)
  (h1 : ∀N a w',fR N c=true->fj E B N w S β0 ⟨lr 0 (args.map fC) [],hin⟩ a w' -> ∀Q:Exit->Act->World->Prop,(∀a1 w1,fj E B N w S β0 s2 a1 w1->Q (ra ee) a1 w1)->c.wp P Q a w') {xs:List AV} (h3:(kB E s2 fn.results.toList).val=some xs) {R:Ending->World->Prop}
  (hQ : ∀w' S2 β2 a' u,Rel E B (cargs.length+(fn.ntmps - cargs.length)) w S β0 s2 a' w' S2 β2->RV w' S2 β2 (lu xs) u->R (.returned u) w'):Calls P f cargs.toArray w R:=by
 have hlen:=hargs.length
 have hN:fn.ntmps<=cargs.length+(fn.ntmps - cargs.length):=by omega
 have rel0:fj E B (cargs.length+(fn.ntmps - cargs.length)) w S β0 ⟨lr 0 (args.map fC) [],hin⟩ { tmps:=cargs.toArray++agA (fn.ntmps - cargs.toArray.size) undef,defers:=[] } w:=by
  refine⟨S,β0,inv,fun n=>?_,fun n j b want x hn=>?_,dW.refl _ _,fun _ h=>h,fun _ h=> .inl h,fun _ _ _ _ h=>h,by simp,rfl⟩
  .unfold bJ
   rw[MF _ 0 [] n]
   simp only[gD,aN,Nat.sub_zero,dM,cf,true_and]
   by_cases hn:n<args.length
   .rw[if_pos hn,bC hn]
    obtain⟨u,hu,hru⟩:=hargs.get (bC hn)
    have:(cargs.toArray++agA (fn.ntmps - cargs.toArray.size) undef).getD n undef=u:=by
     rw[k8,Array.getElem?_append_left (by simp;omega)]
     simp[hu]
    rw[this]
    exact CE hru
   .rw[if_neg hn];trivial
  .exfalso
   unfold bJ at hn
   rw[MF _ 0 [] n]at hn
   simp only[gD,aN,Nat.sub_zero,dM,cf,true_and]at hn
   by_cases hl:n<args.length
   .rw[if_pos hl,bC hl]at hn
    exact tf hn
   .rw[if_neg hl]at hn
    cases hn
 have hd':fR (cargs.length+(fn.ntmps - cargs.length)) c=true:=by
  have mono : ∀c,fR fn.ntmps c=true->fR (cargs.length+(fn.ntmps - cargs.length)) c=true:=by
   intro c
   induction c with
   | region id ops dr=>
    intro hh
    refine bP.2 fun o ho=>?_
    have:=bP.1 hh o ho
    cases hod:o.dst with
    | none=>rfl
    | some d=>rw[hod]at this;simp at this ⊢;omega
   | seq x y ihx ihy=>intro hh;simp only[fR,aG]at hh ⊢;exact⟨ihx hh.1,ihy hh.2⟩
   | cond q x y ihx ihy=>intro hh;simp only[fR,aG]at hh ⊢;exact⟨ihx hh.1,ihy hh.2⟩
   | block id x ih=>intro hh;exact ih hh
   | loop x ih=>intro hh;exact ih hh
   | _=>intro _;rfl
  exact mono c hd
 refine calls_of_wp hf hc (h1 _ _ w hd' rel0 _ fun a' w' rel2=>?_)
 obtain⟨S2,β2,rel⟩:=rel2
 obtain⟨u,hu1,hu2⟩:=aiY ok rel fn h3
 rcases he with rfl | rfl
 .exact⟨rel.defers,u,hu1,hQ w' S2 β2 a' u rel hu2⟩
 .exact⟨rel.defers,u,hu1,hQ w' S2 β2 a' u rel hu2⟩
theorem W8 (ok:aZ P E) (hm:P.follows .mixedOrders=true) {f:FuncId} {fn:Func} (hf:P.funcs[f]? = some fn) (hlp : ∀x∈Func.loops fn,∀s e s',(E.lp (fg x) s).val=some (e,s')->ba E x s e s')
  {c:Code} (hc:fn.body=some c) (hd:fR fn.ntmps c=true) {hin:Heap} {args:List AV} {cargs:List Value} (inv:Inv E B w S β0 hin) (hargs:RL (RV w S β0) args cargs) {s2:St} {ee:Ex} (he:ee = .normal\/ee = .ret)
  (h1:(exec E c ⟨lr 0 (args.map fC) [],hin⟩).val=some (ee,s2)) {xs:List AV} (h3:(kB E s2 fn.results.toList).val=some xs) {R:Ending->World->Prop}
  (hQ : ∀w' S2 β2 a' u,Rel E B (cargs.length+(fn.ntmps - cargs.length)) w S β0 s2 a' w' S2 β2->RV w' S2 β2 (lu xs) u->R (.returned u) w'):Calls P f cargs.toArray w R:=
 have hlp' : ∀x∈jE c,x∈Func.loops fn:=fun x hx=>by unfold Func.loops;rw[hc];exact hx
 W7 ok hf hc hd inv hargs he (fun N a w' hdN rel Q hQ'=>W4 ok hm hlp c hlp' hdN _ ee s2 a w' Q rel h1 hQ') h3 hQ
theorem ai0 (ok:aZ P E) (hm:P.follows .mixedOrders=true) {f:FuncId} {fn:Func} (hf:P.funcs[f]? = some fn) (hlp : ∀x∈Func.loops fn,∀s e s',(E.lp (fg x) s).val=some (e,s')->ba E x s e s')
  {c:Code} (hc:fn.body=some c) (hd:fR fn.ntmps c=true) {hin:Heap} {args:List AV} {cargs:List Value} (inv:Inv E B w S β0 hin) (hargs:RL (RV w S β0) args cargs) {s2:St}
  (h1:(exec E c ⟨lr 0 (args.map fC) [],hin⟩).val=some (.ret,s2)) {xs:List AV} (h3:(kB E s2 fn.results.toList).val=some xs) {R:Ending->World->Prop}
  (hQ : ∀w' S2 β2 a' u,Rel E B (cargs.length+(fn.ntmps - cargs.length)) w S β0 s2 a' w' S2 β2->RV w' S2 β2 (lu xs) u->R (.returned u) w'):Calls P f cargs.toArray w R:=
 W8 ok hm hf hlp hc hd inv hargs (.inr rfl) h1 h3 hQ
theorem ai1 (ok:aZ P E) {f:FuncId} {fn:Func} (hf:P.funcs[f]? = some fn) {c:Code} (hc:fn.body=some c) (hd:fR fn.ntmps c=true) {keep:Bool} {args:List AV} {r:AV} {H:Heap} {s2:St}
  (h1 : ∀(w:World) (S:Nat->Prop),(∀b,S b->b<w.heap.size) -> ∀N a w',fR N c=true->fj E (fun b=>b<w.heap.size) N w S dP ⟨lr 0 (args.map fC) [],[]⟩ a w' -> ∀Q:Exit->Act->World->Prop,(∀a1 w1,fj E (fun b=>b<w.heap.size) N w S dP s2 a1 w1->Q (ra .ret) a1 w1)->c.wp P Q a w')
  {xs:List AV} (h3:(kB E s2 fn.results.toList).val=some xs) (h4:(finish keep s2 (lu xs)).val=some (r,H)):dy P E.dH f args r H:=by
 intro w S cargs hlt hglob hargs
 have inv0:Inv E (fun b=>b<w.heap.size) w S dP []:=⟨fun _ h=>h,hlt,(fun _ _ _ _ h=>by cases h),(fun _ _ h=>by cases h),(fun _ _ h=>by cases h),(fun k bl hk=>by simp[an]at hk),hglob⟩
 refine W7 ok hf hc hd inv0 hargs (.inr rfl) (h1 w S hlt) h3 fun w' S2 β2 a' u rel hu2=>?_
 have inv:=rel.inv
 refine⟨u,?_⟩
 have h4':(finish keep s2 (lu xs)).val=some (r,H):=h4
 generalize lu xs=r0 at hu2 h4'
 unfold finish at h4'
 cases keep with
 | false=>
  simp only[T.bw]at h4'
  cases h4'
  refine⟨qX S2 β2,dP,rfl,rel.below.below,fun b hb=> .inl (rel.sub b hb),?_,?_,(fun _ _ _ _ h=>by cases h),(fun _ _ h=>by cases h),(fun _ _ h=>by cases h),(fun k bl hk=>by simp[an]at hk),V5 (fun b hb=> .inl hb) (V6 inv _) hu2⟩
  .rintro b (hb | ⟨k,x,k1,k2,rfl⟩)
   .exact(rel.news b hb).imp id (fun h=>by omega)
   .exact .inr (by have:=(inv.new k x k1 k2).1;omega)
  .rintro b (hb | ⟨k,x,k1,k2,rfl⟩)
   .exact inv.lt b hb
   .exact(inv.new k x k1 k2).2.1
 | true=>
  simp only[]at h4'
  split at h4'
  .rename_i hnd
   split at h4'
   .rename_i H' hH
    rw[T.bw]at h4'
    cases h4'
    have hnd:=CB hnd
    obtain⟨q1,q2⟩:=W6 hH
    let β3:Nat->Option BI:=fun p=>((bK r0)[p]?).bind β2
    have b3 : ∀p x,β3 p=some x -> ∃j,(bK r0)[p]? = some j/\β2 j=some x:=by
     intro p x hp
     simp only[β3,UL]at hp
     exact hp
    have b4 : ∀j∈bK r0,∀x,β2 j=some x->β3 (ik (bK r0) j)=some x:=by
     intro j hj x hx
     simp only[β3,kG hj,ar,hx]
    have pinj : ∀p j,(bK r0)[p]? = some j->ik (bK r0) j=p:=by
     intro p j hp
     have h1:=kG (cL hp)
     have l1:=(cO.1 h1)
     have l2:=(cO.1 hp)
     obtain⟨l1,e1⟩:=l1
     obtain⟨l2,e2⟩:=l2
     exact CC hnd l1 l2 (by rw[e1,e2])
    refine⟨S2,β3,rfl,rel.below.below,rel.sub,fun b hb=>(rel.news b hb).imp id (fun h=>by omega),inv.lt,?_,?_,?_,?_,?_⟩
    .intro k k' x x' k1 k2 r1 r2 e
     obtain⟨j,j1,j2⟩:=b3 k x k1
     obtain⟨j',j1',j2'⟩:=b3 k' x' k2
     have:=inv.inj j j' x x' j2 j2' r1 r2 e
     subst this
     rw[<-pinj k j j1,<-pinj k' j j1']
    .intro k x k1 r1
     obtain⟨j,j1,j2⟩:=b3 k x k1
     obtain⟨n1,n2,n3⟩:=inv.new j x j2 r1
     exact⟨by omega,n2,n3⟩
    .intro k x k1
     obtain⟨j,j1,j2⟩:=b3 k x k1
     obtain⟨bl,m1,m2,b2,m3⟩:=q2 j (cL j1)
     rw[pinj k j j1]at m3
     obtain⟨j',n1,n2,n3,n4⟩:=q1 k b2 m3
     have hj':j'=j:=by
      have:=kG n1
      rw[<-n2,j1]at this
      cases this;rfl
     subst hj'
     obtain⟨bl',d1,d2,d3⟩:=inv.di j' x j2
     rw[n3]at d1
     cases d1
     refine⟨b2,m3,n4,fun hre=>?_,fun hre=>(d3 hre).1⟩
     obtain⟨cs,ty,c1,c2,c3,c4,c5,c6,c7,c8⟩:=d2 hre
     refine⟨cs,ty,c1,c2,c3,c4,c5,c6,c7,fun i row hi=>⟨(c8 i row hi).1,fun q y hy=>?_⟩⟩
     obtain⟨u1,hu,hru⟩:=(c8 i row hi).2 q y hy
     rw[n4]at hru
     exact⟨u1,hu,by rw[n4];simpa using hru⟩
    .intro k bl hk
     obtain⟨j,n1,n2,n3,n4⟩:=q1 k bl hk
     obtain⟨x,hx⟩:=inv.il j bl n3
     exact⟨x,by rw[n2];exact b4 j n1 x hx⟩
    .-- the result
     have k0 : ∀x u,(∀k∈du x,k∈bK r0)->RC w' S2 β2 x u->RC w' S2 β3 (Cj s2.h (bK r0) x) u:=by
      intro x u hk hx
      by_cases hn : ∃k,x = .own k
      .obtain⟨k,rfl⟩:=hn
       obtain⟨y,y1,y2⟩:=hx
       exact⟨y,b4 k (hk k (by simp[du,dk])) y y1,y2⟩
      by_cases hw : ∃k lo n,x = .win k lo n
      .obtain⟨k,lo,n,rfl⟩:=hw
       exact R0.rc (.bL hx.one)
      .have e:Cj s2.h (bK r0) x=iz (an s2.h) x:=by cases x<;>first | rfl | exact absurd ⟨_,rfl⟩ hn | exact absurd ⟨_,_,_,rfl⟩ hw
       rw[e]
       exact(aiZ (fun k e=>hn ⟨k,e⟩) (fun k lo n e=>hw ⟨k,lo,n,e⟩) hx).rc
     have k1 : ∀x u,(∀k∈e8 x,k∈bK r0)->RT w' S2 β2 x u->RT w' S2 β3 (Ck s2.h (bK r0) x) u:=by
      intro x u hk hx
      by_cases hn : ∃cs,x = .agg cs
      .obtain⟨cs,rfl⟩:=hn
       obtain⟨vs,v1,v2⟩:=hx
       exact⟨vs,v1,v2.map fun b hb u hu=>k0 b u (fun k hkk=>hk k (by simp only[e8,eF];exact⟨b,hb,hkk⟩)) hu⟩
      .have hn' : ∀cs,x ≠ .agg cs:=fun cs e=>hn ⟨cs,e⟩
       by_cases hun:x = .bL
       .subst hun;trivial
       .rw[wL hn' hun]at hx
        rw[Cm hn']at hk
        have e:Ck s2.h (bK r0) x=Cj s2.h (bK r0) x:=by cases x<;>first | rfl | exact absurd rfl (hn' _)
        rw[e]
        exact(k0 x u hk hx).rt
     by_cases hn : ∃cs,r0 = .aF cs
     .obtain⟨cs,rfl⟩:=hn
      obtain⟨vs,v1,v2⟩:=hu2
      exact⟨vs,v1,v2.map fun b hb u hu=>k1 b u (fun k hkk=>by simp only[bK,eF];exact⟨b,hb,hkk⟩) hu⟩
     .have hn' : ∀cs,r0 ≠ .aF cs:=fun cs e=>hn ⟨cs,e⟩
      by_cases hgd : ∃j b want y,r0 = .gd j b want y
      .obtain⟨j,b,want,y,rfl⟩:=hgd
       trivial
      .have hgd' : ∀j b w y,r0 ≠ .gd j b w y:=fun j b w y e=>hgd ⟨j,b,w,y,e⟩
       rw[s7 hn' hgd']at hu2
       have e:Vt s2.h (bK r0) r0=Ck s2.h (bK r0) r0:=by cases r0<;>first | rfl | exact absurd rfl (hn' _)
       rw[e]
       exact RT.rv (k1 r0 u (fun k hkk=>by rw[wM hn' hgd'];exact hkk) hu2)
   .rw[T.aO]at h4';exact h4'.elim
  .rw[T.aO]at h4';exact h4'.elim
theorem GG (ok:aZ P E) (hm:P.follows .mixedOrders=true) {f:FuncId} {fn:Func} (hf:P.funcs[f]? = some fn) (hlp : ∀x∈Func.loops fn,∀s e s',(E.lp (fg x) s).val=some (e,s')->ba E x s e s')
  {keep:Bool} {args:List AV} {r:AV} {H:Heap} (hr:(aB E keep fn args).val=some (r,H)):dy P E.dH f args r H:=by
 intro w S cargs hlt hglob hargs
 unfold aB at hr
 split at hr
 .rw[T.aO]at hr;exact hr.elim
 .rename_i c hc
  split at hr
  .rename_i hd
   rw[T.bind_some]at hr
   obtain⟨⟨e,s2⟩,h1,h2⟩:=hr
   simp only[]at h2
   cases e with
   | normal=>rw[T.aO]at h2;exact h2.elim
   | exit i=>rw[T.aO]at h2;exact h2.elim
   | ret=>
    rw[T.bind_some]at h2
    obtain⟨xs,h3,h4⟩:=h2
    have hlp' : ∀x∈jE c,x∈Func.loops fn:=fun x hx=>by unfold Func.loops;rw[hc];exact hx
    exact ai1 ok hf hc hd (fun w S _ N a w' hdN rel Q hQ'=>W4 ok hm hlp c hlp' hdN _ .ret s2 a w' Q rel h1 hQ') h3 h4 w S cargs hlt hglob hargs
  .rw[T.aO]at hr;exact hr.elim
theorem GH {hg:Nat->Option ah} {f:Nat->Nat} : ∀ {l:List Nat} {k':Nat} {bl:ah},an (po hg f l) k'=some bl -> ∃k∈l,k'=f k /\ ∃b,hg k=some b/\bl=b.fD f
 | [],k',bl,hh=>by cases hh
 | k::l,k',bl,hh=>by
  simp only[po]at hh
  split at hh
  .rename_i b hb
   simp only[an]at hh
   split at hh
   .rename_i he
    cases hh
    exact⟨k,by simp,beq_true.1 he,b,hb,rfl⟩
   .obtain⟨k1,h1,h2⟩:=GH hh
    exact⟨k1,by simp[h1],h2⟩
  .obtain⟨k1,h1,h2⟩:=GH hh
   exact⟨k1,by simp[h1],h2⟩
theorem MG {hg:Nat->Option ah} {f:Nat->Nat} : ∀ {l:List Nat} {k:Nat},k∈l->hg k≠none->an (po hg f l) (f k)≠none
 | j::l,k,hk,hb=>by
  simp only[po]
  by_cases e:k=j
  .subst e
   cases hj:hg k with
   | none=>exact absurd hj hb
   | some b=>simp[an]
  .have hl:k∈l:=by rcases cK.1 hk with h | h;exact absurd h e;exact h
   split
   .simp only[an]
    split
    .simp
    .exact MG hl hb
   .exact MG hl hb
theorem ai2 {ks:List Nat} (hn:ks.Nodup) {i k:Nat} (hi:ks[i]? = some k):ik ks k=i:=by
 obtain⟨l1,e1⟩:=cO.1 (kG (cL hi))
 obtain⟨l2,e2⟩:=cO.1 hi
 exact CC hn l1 l2 (by rw[e1,e2])
theorem MH (ok:aZ P E) (hm:P.follows .mixedOrders=true) {f:FuncId} {fn:Func} (hf:P.funcs[f]? = some fn) (hlp : ∀x∈Func.loops fn,∀s e s',(E.lp (fg x) s).val=some (e,s')->ba E x s e s')
  {mv mv':List Nat} {args:List AV} {hin:Heap} {r:AV} {H:Heap} (hr:(eu E mv fn args hin).val=some (r,H,mv')):lx P E.dH f args hin r H mv':=by
 intro w S β cargs inv0 hargs
 unfold eu at hr
 split at hr
 .rw[T.aO]at hr;exact hr.elim
 .rename_i c hc
  split at hr
  .rename_i hck
   rw[aG]at hck
   obtain⟨hd,hins⟩:=hck
   have hins : ∀k∈hin.map (·.1),nN k/\(k∉mv->E.mv k=false):=fun k hk=>by
    have:=bP.1 hins k hk
    rw[aG]at this
    refine⟨Wf.1 this.1,fun hn=>?_⟩
    have h2:=this.2
    rw[Bool.or_eq_true]at h2
    rcases h2 with h2 | h2
    .exact absurd (td h2) hn
    .simpa using h2
   rw[T.bind_some]at hr
   obtain⟨⟨e,s2⟩,h1,h2⟩:=hr
   simp only[]at h2
   have hee:(e = .normal\/e = .ret)/\((kB E s2 fn.results.toList).bind fun as1=>F2 (hin.map (·.1)) mv s2 (lu as1)).val=some (r,H,mv'):=by
    cases e with
    | normal=>exact⟨.inl rfl,h2⟩
    | exit i=>rw[T.aO]at h2;exact h2.elim
    | ret=>exact⟨.inr rfl,h2⟩
   obtain⟨hee,h2⟩:=hee
   .skip
    rw[T.bind_some]at h2
    obtain⟨xs,h3,h4⟩:=h2
    refine W8 ok hm hf hlp hc hd inv0 hargs hee h1 h3 fun w' S2 β2 a' u rel hu2=>?_
    have inv:=rel.inv
    generalize lu xs=r0 at hu2 h4
    generalize hin.map (·.1)=ins at hins h4
    unfold F2 Vv Vu at h4
    split at h4
    .rename_i hck
     rw[T.bw]at h4
     cases h4
     rw[aG,aG]at hck
     obtain⟨⟨hcl,hnd⟩,hle⟩:=hck
     have hsub : ∀k∈gb ins (bK r0),k∈reach (an s2.h) 2 (gb ins (bK r0)):=fun k hk=>mS 2 hk
     generalize reach (an s2.h) 2 (gb ins (bK r0))=ks at hcl hnd hle hsub
     have hi : ∀k∈ins,k∈ks:=fun k hk=>hsub k (mR.2 (.inl hk))
     have hr0 : ∀k∈bK r0,k∈ks:=fun k hk=>hsub k (mR.2 (.inr hk))
     have hnd:=CB hnd
     have hcl:=Mk hcl
     have hmem : ∀k,k∈(ks.filter fun k=> !(ins.elem k))↔k∈ks/\k∉ins:=fun k=>by rw[nD];simp
     have hndn:(ks.filter fun k=> !(ins.elem k)).Nodup:=hnd.filter _
     generalize (ks.filter fun k=> !(ins.elem k))=new at hle hmem hndn
     have hle:new.length<=4:=by simpa using hle
     have rin : ∀k,k∈ins->jT ins new k=k:=fun k hk=>by
      unfold jT
      have:ins.elem k=true:=by simpa using hk
      rw[this]
     have rnew : ∀k,k∉ins->jT ins new k=ik new k:=fun k hk=>by
      unfold jT
      have:ins.elem k=false:=by rw[<-Bool.not_eq_true];exact fun hh=>hk (td hh)
      rw[this]
     have pos_lt : ∀k∈ks,k∉ins->ik new k<4:=fun k hk hn=>by
      obtain⟨l,_⟩:=cO.1 (kG ((hmem k).2 ⟨hk,hn⟩))
      omega
     have inge : ∀k∈ins,900<=k:=fun k hk=>(hins k hk).1.1
     have rinj : ∀k∈ks,∀k'∈ks,jT ins new k=jT ins new k'->k=k':=by
      intro k hk k' hk' e
      by_cases h1:k∈ins<;>by_cases h2:k'∈ins
      .rw[rin k h1,rin k' h2]at e;exact e
      .rw[rin k h1,rnew k' h2]at e
       have:=inge k h1;have:=pos_lt k' hk' h2;omega
      .rw[rnew k h1,rin k' h2]at e
       have:=inge k' h2;have:=pos_lt k hk h1;omega
      .rw[rnew k h1,rnew k' h2]at e
       have e1:=kG ((hmem k).2 ⟨hk,h1⟩)
       have e2:=kG ((hmem k').2 ⟨hk',h2⟩)
       rw[e,e2]at e1
       cases e1;rfl
     let β3:Nat->Option BI:=fun k=>if k∈ins then β2 k else (new[k]?).bind β2
     have b1 : ∀j∈ks,∀x,β2 j=some x->β3 (jT ins new j)=some x:=by
      intro j hj x hx
      by_cases h1:j∈ins
      .simp only[β3];rw[rin j h1,if_pos h1];exact hx
      .have hlt:=pos_lt j hj h1
       simp only[β3]
       rw[rnew j h1,if_neg (fun hh=>by have:=inge _ hh;omega),kG ((hmem j).2 ⟨hj,h1⟩)]
       exact hx
     have b2 : ∀k x,β3 k=some x -> ∃j∈ks,jT ins new j=k/\β2 j=some x:=by
      intro k x hx
      simp only[β3]at hx
      split at hx
      .rename_i h1;exact⟨k,hi k h1,rin k h1,hx⟩
      .rw[UL]at hx
       obtain⟨j,j1,j2⟩:=hx
       obtain⟨q1,q2⟩:=(hmem j).1 (cL j1)
       exact⟨j,q1,by rw[rnew j q2,ai2 hndn j1],j2⟩
     have hat : ∀j∈ks,∀b,an s2.h j=some b->an (po (an s2.h) (jT ins new) ks) (jT ins new j)=some (b.fD (jT ins new)):=by
      intro j hj b hb
      cases hm:an (po (an s2.h) (jT ins new) ks) (jT ins new j)with
      | none=>exact absurd hm (MG hj (by rw[hb];simp))
      | some bl=>
       obtain⟨j',q1,q2,b',q3,rfl⟩:=GH hm
       have:=rinj j hj j' q1 q2
       subst this
       rw[hb]at q3
       cases q3;rfl
     have hsz:=rel.below.size
     refine⟨u,S2,β3,rfl,rel.below,rel.sub,rel.news,⟨fun b hb=>by have:=hb.1;omega,inv.lt,fun k k' x x' k1 k2 r1 r2 e=>?_,fun k x k1 r1=>?_,fun k x k1=>?_,fun k bl k1=>?_,inv.dH⟩,fun k x hik hmv hx=>?_,Cy (fun k hk y hy=>b1 k (hr0 k hk) y hy) hu2⟩
     .obtain⟨j,_,e1,j2⟩:=b2 k x k1
      obtain⟨j',_,e2,j2'⟩:=b2 k' x' k2
      rw[<-e1,<-e2,inv.inj j j' x x' j2 j2' r1 r2 e]
     .obtain⟨j,_,e1,j2⟩:=b2 k x k1
      exact inv.new j x j2 r1
     .obtain⟨j,j1,e1,j2⟩:=b2 k x k1
      obtain⟨bl,d1,d2,d3⟩:=inv.di j x j2
      obtain⟨bl',c1,c2⟩:=hcl j j1
      rw[d1]at c1
      cases c1
      exact⟨bl.fD (jT ins new),by rw[<-e1];exact hat j j1 bl d1,fun hr=>(d2 hr).fD fun q hq y hy=>b1 q (c2 q hq) y hy,fun hr=>Ml (d3 hr)⟩
     .obtain⟨j,q1,q2,b,q3,rfl⟩:=GH k1
      obtain⟨x,hx⟩:=inv.il j b q3
      exact⟨x,by rw[q2];exact b1 j q1 x hx⟩
     .obtain⟨j,j1,e1,j2⟩:=b2 k x hx
      by_cases hj:j∈ins
      .rw[rin j hj]at e1
       subst e1
       exact rel.fix j x hik ((hins j hj).2 hmv) j2
      .rw[rnew j hj]at e1
       have:=pos_lt j j1 hj
       have:=hik.1
       omega
    .rw[T.aO]at h4;exact h4.elim
  .rw[T.aO]at hr;exact hr.elim
theorem dy.nil {G:Nat->Option GR} {f:FuncId} {rows:List Row} {r:AV} {H:Heap} (h1:rows=[]->dy P G f [.nz true []] r H) (h2:dy P G f [.nz false rows] r H):dy P G f [.sl rows] r H:=by
 intro w S cargs hlt hg hargs
 cases cargs with
 | nil=>exact hargs.elim
 | cons v l=>
  cases l with
  | cons u l=>exact hargs.2.elim
  | nil=>
   have h0:R0 w S (.sl rows) v:=hargs.1
   cases hv:LX v
   .exact h2 w S [v] hlt hg ⟨⟨h0,hv⟩,trivial⟩
   .have hr:rows=[]:=by
     cases h0 with
     | sl hc hm hA hl dJ hr=>
      by_cases hn:rows=[]
      .exact hn
      .rw[(hA hn).1]at hv;cases hv
    subst hr
    exact h1 rfl w S [v] hlt hg ⟨⟨h0,hv⟩,trivial⟩
end
end
end Go.Proofs.YtaobkfpnebbohaaGreatDoor.M
namespace Go.Proofs.YtaobkfpnebbohaaGreatDoor.M
open Go Go.RowKit
set_option linter.unusedVariables false
set_option linter.unusedSimpArgs false
section
variable {α β : Type} {P : Program} {G : Nat -> Option GR}
def ac (enc:α->β) (b:β):Option α:=by classical exact if h : ∃a,enc a=b then some (La h) else none
theorem CJ {enc:α->β} {b:β} {a:α} (h:ac enc b=some a):b=enc a:=by
 unfold ac at h
 split at h
 .rename_i hx
  have:=Lb hx
  simp only[eX]at h
  rw[h]at this
  exact this.symm
 .cases h
theorem ax {enc:α->β} (hi : ∀a a',enc a=enc a'->a=a') {b:β} (a:α) (hb:b=enc a):ac enc b=some a:=by
 subst hb
 unfold ac
 have hx : ∃a',enc a'=enc a:=⟨a,rfl⟩
 rw[dif_pos hx]
 exact congrArg some (hi _ _ (Lb hx))
def gI (x:AV):Prop:=∃w S β v,RV w S β x v
theorem GI {x:Value} (h:gI (.v x)):dh x:=by
 obtain⟨w,S,β,v,h⟩:=h
 exact(dD h).2
theorem W9 {n:Int} (h:gI (.v (.int .i64 n))) : -9223372036854775808<=n/\n<=9223372036854775807:=by
 have:=GI h
 simp only[dh,jB,iX,ii,fA]at this
 simp at this
 omega
theorem CK {s:ByteArray} (h:gI (.v (.string s))):s.size<=9223372036854775807:=GI h
theorem GJ {cs:List AV} (h:gI (.agg cs)) : ∀c∈cs,gI c:=by
 obtain⟨w,S,β,v,vs,h1,h2⟩:=h
 intro c hc
 obtain⟨i,hi⟩:=pg hc
 obtain⟨u,_,hu⟩:=h2.get hi
 exact⟨w,S,β,u,RT.rv (RC.rt hu)⟩
theorem jH {rows:List Row} (h:gI (.sl rows)):rows.length<=9223372036854775807 /\ ∀row∈rows,∀a∈row,gI a:=by
 obtain⟨w,S,β,v,h⟩:=h
 have h':R0 w S (.sl rows) v:=h
 cases h' with
 | sl hc hm hA hl dJ hr=>
  refine⟨by omega,fun row hrow a ha=>?_⟩
  obtain⟨i,hi⟩:=pg hrow
  obtain⟨j,hj⟩:=pg ha
  exact⟨w,S,β,_,RT.rv (RC.rt (R0.rc (hr i j row a hi hj)))⟩
theorem dy.ok {f:FuncId} {args:List AV} {r:AV} {H:Heap} (h:(∀x∈args,gI x)->dy P G f args r H):dy P G f args r H:=by
 intro w S cargs hlt hg hargs
 refine h (fun x hx=>?_) w S cargs hlt hg hargs
 obtain⟨i,hi⟩:=pg hx
 obtain⟨u,_,hu⟩:=hargs.get hi
 exact⟨w,S,dP,u,hu⟩
def re (bl:ah):Prop:=bl.rows.length<=9223372036854775807 /\ ∀row∈bl.rows,∀a∈row,gI a
theorem lx.ok {f:FuncId} {args:List AV} {hin:Heap} {r:AV} {H:Heap} {mv:List Nat} (h:(∀x∈args,gI x)->(∀k bl,an hin k=some bl->re bl)->lx P G f args hin r H mv):lx P G f args hin r H mv:=by
 intro w S β cargs inv hargs
 refine h (fun x hx=>?_) (fun k bl hk=>?_) w S β cargs inv hargs
 .obtain⟨i,hi⟩:=pg hx
  obtain⟨u,_,hu⟩:=hargs.get hi
  exact⟨w,S,β,u,hu⟩
 .obtain⟨x,hx⟩:=inv.il k bl hk
  obtain⟨bl',h1,h2,h3⟩:=inv.di k x hx
  rw[hk]at h1
  cases h1
  cases hr:x.real
  .rw[re,(h3 hr).1];simp
  .obtain⟨cs,ty,c1,c2,c3,c4,c5,c6,c7,c8⟩:=h2 hr
   refine⟨by omega,fun row hrow a ha=>?_⟩
   obtain⟨i,hi⟩:=pg hrow
   obtain⟨j,hj⟩:=pg ha
   obtain⟨v,_,hv⟩:=(c8 i row hi).2 j a hj
   cases hb:bl.box
   .rw[hb]at hv;exact⟨w,S,β,v,RT.rv (RC.rt (R0.rc (by simpa using hv)))⟩
   .rw[hb]at hv;exact⟨w,S,β,v,RT.rv (RC.rt (by simpa using hv))⟩
structure aW where
 f:FuncId
 flat:Bool
 o:List AV->T (AV×Heap)
def aY (f:FuncId) (flat:Bool) (enc:α->List AV) (pre:α->Bool) (cT:α->AV×Heap):aW:=
 ⟨f,flat,fun args=> .gS (ac enc args) fun a=> .bM (pre a) (.ret (cT a)) .fail⟩
def CL:List aW->FuncId->List AV->T (AV×Heap)
 | [],_,_=> .fail
 | x::r,f,args=>match bk x.f f with
  | true=>x.o args
  | false=>CL r f args
def CM:List aW->FuncId->Bool
 | [],_=>false
 | x::r,f=>match bk x.f f with
  | true=>x.flat
  | false=>CM r f
structure fT where
 f:FuncId
 o:List AV->Heap->T (AV×Heap×List Nat)
def jI (f:FuncId) (enc:α->List AV×Heap) (pre:α->Bool) (cT:α->AV×Heap×List Nat):fT:=
 ⟨f,fun args h=> .gS (ac enc (args,h)) fun a=> .bM (pre a) (.ret (cT a)) .fail⟩
def CN:List fT->FuncId->List AV->Heap->T (AV×Heap×List Nat)
 | [],_,_,_=> .fail
 | x::r,f,args,h=>match bk x.f f with
  | true=>x.o args h
  | false=>CN r f args h
def Xa:List fT->FuncId->Bool
 | [],_=>false
 | x::r,f=>match bk x.f f with
  | true=>true
  | false=>Xa r f
def Xb:List (Nat×(St->T (Ex×St)))->Nat->St->T (Ex×St)
 | [],_,_=> .fail
 | x::r,n,s=>match bk x.1 n with
  | true=>x.2 s
  | false=>Xb r n s
def im (enc:α->Row) (d:α):List Row->Nat->T Row:=fun rows k=>
 .gS (ac (ab enc) rows) fun xs=> .bM (decide (k<xs.length)) (.ret (enc (xs.getD k d))) .fail
structure Lk where
 t:Nat
 o:List Row->Nat->T Row
def GK (x:Lk):Prop:=∀rows k row,(x.o rows k).val=some row->rows[k]? = some row
theorem iK {enc:α->Row} {d:α} {t:Nat}:GK ⟨t,im enc d⟩:=by
 intro rows k row h
 simp only[im,T.lv,T.dv,T.bw,T.aO,and_false,or_false,aM]at h
 obtain⟨xs,h1,h2,h3⟩:=h
 have:=CJ h1
 subst this
 simp[<-h3,al,h2]
def CO:List Lk->Nat->List Row->Nat->T Row
 | [],_,rows,k=> .gS rows[k]? .ret
 | x::r,t,rows,k=>match bk x.t t with
  | true=>x.o rows k
  | false=>CO r t rows k
theorem ai3 {ks:List Lk} (h : ∀x∈ks,GK x) : ∀t rows k row,(CO ks t rows k).val=some row->rows[k]? = some row:=by
 induction ks with
 | nil=>
  intro t rows k row hr
  simp only[CO,T.lv,T.bw]at hr
  obtain⟨r,h1,rfl⟩:=hr
  exact h1
 | cons x r ih=>
  intro t rows k row hr
  simp only[CO]at hr
  split at hr
  .exact h x (by simp) _ _ _ hr
  .exact ih (fun y hy=>h y (by simp[hy])) t rows k row hr
def bq (ty:TypeId->Option TI) (dH:Nat->Option GR) (ks:List Lk) (fs:List aW) (hs:List fT) (mv:List Nat) (ls:List (Nat×(St->T (Ex×St)))):Env:=
 ⟨ty,dH,CM fs,CL fs,Xb ls,CO ks,fun k=>mv.elem k,Xa hs,CN hs⟩
structure fX (P:Program) (G:Nat->Option GR) (x:fT):Prop where
 spec : ∀args hin r H mv,(x.o args hin).val=some (r,H,mv)->lx P G x.f args hin r H mv
 here:pt P x.f
theorem GL {f:FuncId} {enc:α->List AV×Heap} {pre:α->Bool} {cT:α->AV×Heap×List Nat} (hh:pt P f)
  (h : ∀a,pre a=true->(∀x∈(enc a).1,gI x)->(∀k bl,an (enc a).2 k=some bl->re bl)->lx P G f (enc a).1 (enc a).2 (cT a).1 (cT a).2.1 (cT a).2.2):fX P G (jI f enc pre cT):=by
 refine⟨fun args hin r H mv hr=>?_,hh⟩
 simp only[jI,T.lv]at hr
 obtain⟨a,h1,h2⟩:=hr
 rw[T.dv]at h2
 rcases h2 with ⟨h2,h3⟩ | ⟨h2,h3⟩
 .rw[T.bw]at h3
  have e:=CJ h1
  have:=lx.ok (h a h2)
  rw[h3,<-e]at this
  exact this
 .rw[T.aO]at h3;exact h3.elim
theorem Xc {hs:List fT} {f:FuncId} {args:List AV} {hin:Heap} {p:AV×Heap×List Nat} (h:(CN hs f args hin).val=some p) : ∃x∈hs,x.f=f/\(x.o args hin).val=some p:=by
 induction hs with
 | nil=>simp only[CN]at h;rw[T.aO]at h;exact h.elim
 | cons x r ih=>
  simp only[CN]at h
  split at h
  .rename_i hb
   exact⟨x,by simp,beq_true.1 hb,h⟩
  .obtain⟨y,h1,h2,h3⟩:=ih h
   exact⟨y,by simp[h1],h2,h3⟩
structure aX (P:Program) (G:Nat->Option GR) (x:aW):Prop where
 spec : ∀args r H,(x.o args).val=some (r,H)->dy P G x.f args r H
 flat : ∀args r H,(x.o args).val=some (r,H)->x.flat=true->qW H=true/\qV r=true
 here:pt P x.f
theorem io {f:FuncId} {flat:Bool} {enc:α->List AV} {pre:α->Bool} {cT:α->AV×Heap} (hh:pt P f)
  (h : ∀a,pre a=true->(∀x∈enc a,gI x)->dy P G f (enc a) (cT a).1 (cT a).2) (hf:flat=true -> ∀a,qW (cT a).2=true/\qV (cT a).1=true):aX P G (aY f flat enc pre cT):=by
 have key : ∀args r H,((aY f flat enc pre cT).o args).val=some (r,H) -> ∃a,args=enc a/\pre a=true/\cT a=(r,H):=by
  intro args r H hr
  simp only[aY,T.lv]at hr
  obtain⟨a,h1,h2⟩:=hr
  rw[T.dv]at h2
  refine⟨a,CJ h1,?_⟩
  rcases h2 with ⟨h2,h3⟩ | ⟨h2,h3⟩
  .rw[T.bw]at h3
   exact⟨h2,h3⟩
  .rw[T.aO]at h3;exact h3.elim
 refine⟨fun args r H hr=>?_,fun args r H hr hfl=>?_,hh⟩
 .obtain⟨a,rfl,h2,h3⟩:=key args r H hr
  have:=dy.ok (h a h2)
  rw[h3]at this
  exact this
 .obtain⟨a,rfl,h2,h3⟩:=key args r H hr
  have:=hf hfl a
  rw[h3]at this
  exact this
theorem MI {fs:List aW} {f:FuncId} {args:List AV} {p:AV×Heap} (h:(CL fs f args).val=some p) : ∃x∈fs,x.f=f/\(x.o args).val=some p/\CM fs f=x.flat:=by
 induction fs with
 | nil=>simp only[CL]at h;rw[T.aO]at h;exact h.elim
 | cons x r ih=>
  simp only[CL]at h
  split at h
  .rename_i hb
   exact⟨x,by simp,beq_true.1 hb,h,by simp only[CM,hb]⟩
  .rename_i hb
   obtain⟨y,h1,h2,h3,h4⟩:=ih h
   exact⟨y,by simp[h1],h2,h3,by simp only[CM,hb];exact h4⟩
theorem mU {ty:TypeId->Option TI} {ks:List Lk} {fs:List aW} {hs:List fT} {mv:List Nat} {ls:List (Nat×(St->T (Ex×St)))} (hK : ∀x∈ks,GK x) (hT : ∀t ti,ty t=some ti->qS P t=some ti)
  (hF : ∀x∈fs,aX P G x) (hH : ∀x∈hs,fX P G x):aZ P (bq ty G ks fs hs mv ls):=by
 refine⟨⟨hT,ai3 hK⟩,⟨fun f args r H hr=>?_,fun f args r H hr hfl=>?_⟩,fun f args r H hr=>?_,fun f args hin r H mv hr=>?_,fun f args hin p hr=>?_⟩
 .obtain⟨x,h1,rfl,h3,_⟩:=MI (fs:=fs) hr
  exact(hF x h1).spec args r H h3
 .obtain⟨x,h1,rfl,h3,h4⟩:=MI (fs:=fs) hr
  exact(hF x h1).flat args r H h3 (by rw[<-h4];exact hfl)
 .obtain⟨x,h1,rfl,h3,_⟩:=MI (fs:=fs) hr
  exact(hF x h1).here
 .obtain⟨x,h1,rfl,h3⟩:=Xc (hs:=hs) hr
  exact(hH x h1).spec args hin r H mv h3
 .obtain⟨x,h1,rfl,h3⟩:=Xc (hs:=hs) hr
  exact(hH x h1).here
end
theorem ai4 {P:Program} {L:List (Nat×TI)} (h:L.map (fun p=>qS P p.1)=L.map (fun p=>some p.2)) : ∀t ti,an L t=some ti->qS P t=some ti:=by
 intro t ti ht
 have hm:=jf ht
 obtain⟨i,hi⟩:=pg hm
 have:=congrArg (fun l=>l[i]?) h
 simpa[hi]using this
section
variable {α : Type} {E : Env} {x : Code}
def lpo (kt kh:List Nat) (st:α->St) (pre:α->Bool) (out:α->T (Ex×St)):St->T (Ex×St):=fun s=>
 .gS (ac st (less kt kh s)) fun a=> .bM (pre a&&fS (st a)) (out a) .fail
theorem bS {kt kh:List Nat} {st:α->St} {pre:α->Bool} {out:α->T (Ex×St)} (h : ∀a,pre a=true -> ∀e s',(out a).val=some (e,s')->ba E x (st a) e s') :
  ∀s e s',(lpo kt kh st pre out s).val=some (e,s')->ba E x s e s':=by
 intro s e s' hr
 simp only[lpo,T.lv]at hr
 obtain⟨a,h1,h2⟩:=hr
 rw[T.dv]at h2
 rcases h2 with ⟨h2,h3⟩ | ⟨h2,h3⟩
 .simp only[aG]at h2
  have:=h a h2.1 e s' h3
  have e1:=CJ h1
  exact .G4 kt kh (by rw[e1];exact h2.2) (by rw[e1];exact this)
 .rw[T.aO]at h3;exact h3.elim
def bE (n e r:List Nat×List Nat) (p:Ex×St):T (Ex×St):=match p.1 with
 | .normal=>rb n.1 n.2 p
 | .exit _=>rb e.1 e.2 p
 | .ret=>rb r.1 r.2 p
theorem Xd {n e r:List Nat×List Nat} {t:T (Ex×St)} {ex:Ex} {s1:St} (h:(t.bind (bE n e r)).val=some (ex,s1)) : ∃k:List Nat×List Nat,(t.bind (rb k.1 k.2)).val=some (ex,s1):=by
 rw[T.bind_some]at h
 obtain⟨⟨e0,s0⟩,h1,h2⟩:=h
 cases e0
 .exact⟨n,T.bind_some.2 ⟨_,h1,h2⟩⟩
 .exact⟨e,T.bind_some.2 ⟨_,h1,h2⟩⟩
 .exact⟨r,T.bind_some.2 ⟨_,h1,h2⟩⟩
theorem ba.out {n e r:List Nat×List Nat} {s s1:St} {ex:Ex} (h:((exec E x s).bind (bE n e r)).val=some (ex,s1)) (hn:ex ≠ .normal) (hc:fS s1=true):ba E x s ex s1:=by
 obtain⟨k,hk⟩:=Xd h
 exact .stop k.1 k.2 hk hn hc
theorem ba.go {n e r:List Nat×List Nat} {s s1 s2:St} {ex:Ex} (h:((exec E x s).bind (bE n e r)).val=some (.normal,s1)) (hc:fS s1=true) (hl:ba E x s1 ex s2):ba E x s ex s2:=by
 obtain⟨k,hk⟩:=Xd h
 exact .next k.1 k.2 hk hc hl
def mV {γ σ:Type} (step:σ->γ->Sum σ (Ex×St)) (fin:σ->Ex×St):σ->List γ->Ex×St
 | a,[]=>fin a
 | a,y::l=>match step a y with
  | .inl a'=>mV step fin a' l
  | .inr o=>o
theorem MJ {γ σ:Type} {n e r:List Nat×List Nat} {xs:List γ} {st:σ->Nat->St} {step:σ->γ->Sum σ (Ex×St)} {fin:σ->Ex×St} {I:σ->Nat->Prop}
  (hfin : ∀a,I a xs.length->((exec E x (st a xs.length)).bind (bE n e r)).val=some (fin a))
  (hf1 : ∀a,I a xs.length->(fin a).1 ≠ .normal/\fS (fin a).2=true)
  (hgo : ∀a k y,xs[k]? = some y->I a k->match step a y with
   | .inl a'=>((exec E x (st a k)).bind (bE n e r)).val=some (.normal,st a' (k+1))/\fS (st a' (k+1))=true/\I a' (k+1)
   | .inr o=>((exec E x (st a k)).bind (bE n e r)).val=some o/\o.1 ≠ .normal/\fS o.2=true) :
  ∀a k,k<=xs.length->I a k->ba E x (st a k) (mV step fin a (xs.drop k)).1 (mV step fin a (xs.drop k)).2:=by
 have main : ∀n' a k,xs.length - k=n'->k<=xs.length->I a k->ba E x (st a k) (mV step fin a (xs.drop k)).1 (mV step fin a (xs.drop k)).2:=by
  intro n'
  induction n' with
  | zero=>
   intro a k hn hk hI
   have:k=xs.length:=by omega
   subst this
   rw[List.drop_length]
   exact .out (hfin a hI) (hf1 a hI).1 (hf1 a hI).2
  | succ m ih=>
   intro a k hn hk hI
   have hlt:k<xs.length:=by omega
   have hg:=hgo a k _ (bC hlt) hI
   rw[List.drop_eq_getElem_cons hlt]
   simp only[mV]
   split at hg
   .rename_i a' hs
    exact .go hg.1 hg.2.1 (ih a' (k+1) (by omega) hlt hg.2.2)
   .rename_i o hs
    exact .out hg.1 hg.2.1 hg.2.2
 exact fun a k=>main _ a k rfl
theorem Xe {γ:Type} {p:γ->Bool} {o:Ex×St} {fin:Unit->Ex×St} : ∀ {l:List γ},mV (fun _ y=>match p y with | true=> .inl () | false=> .inr o) fin () l=match l.all p with | true=>fin () | false=>o
 | []=>rfl
 | y::l=>by
  simp only[mV,K7]
  cases hp:p y
  .simp
  .simp only[fM];exact Xe
theorem Xf {γ σ:Type} {f:σ->γ->σ} {fin:σ->Ex×St} : ∀ {l:List γ} {a:σ},mV (fun a y=> .inl (f a y)) fin a l=fin (l.foldl f a)
 | [],_=>rfl
 | y::l,a=>by simp only[mV,List.foldl_cons];exact Xf
def bN {γ:Type} (g:γ->Int):List γ->Int
 | []=>0
 | y::l=>if g y=0 then bN g l else g y
theorem Xg {γ:Type} {g:γ->Int} {o:Int->Ex×St} {fin:Unit->Ex×St} : ∀ {l:List γ},mV (fun _ y=>if g y=0 then .inl () else .inr (o (g y))) fin () l=if bN g l=0 then fin () else o (bN g l)
 | []=>rfl
 | y::l=>by
  simp only[mV,bN]
  by_cases h:g y=0
  .simp only[h,if_true];exact Xg
  .simp only[h,if_false]
theorem pu {γ:Type} {n e r:List Nat×List Nat} {xs:List γ} {st:Nat->St} {p:γ->Bool} {o fin:Ex×St}
  (hfin:((exec E x (st xs.length)).bind (bE n e r)).val=some fin) (hf1:fin.1 ≠ .normal/\fS fin.2=true) (ho:o.1 ≠ .normal/\fS o.2=true) (hs : ∀k,fS (st k)=true)
  (hgo : ∀k y,xs[k]? = some y->((exec E x (st k)).bind (bE n e r)).val=match p y with | true=>some (.normal,st (k+1)) | false=>some o) :
  ∀k,k<=xs.length -> ∀ex s',(T.bM ((xs.drop k).all p) (.ret fin) (.ret o)).val=some (ex,s')->ba E x (st k) ex s':=by
 intro k hk ex s' h
 have:=MJ (E:=E) (x:=x) (xs:=xs) (n:=n) (e:=e) (r:=r) (st:=fun(_:Unit) k=>st k) (step:=fun _ y=>match p y with | true=> .inl () | false=> .inr o) (fin:=fun _=>fin) (I:=fun _ _=>True)
  (fun _ _=>hfin) (fun _ _=>hf1) (fun _ k y hy _=>by
   have:=hgo k y hy
   cases hp:p y
   .simp only[hp]at this ⊢;exact⟨this,ho⟩
   .simp only[hp]at this ⊢;exact⟨this,hs _,trivial⟩) () k hk trivial
 rw[Xe]at this
 cases hb:(xs.drop k).all p<;>simp only[hb,T.val,eX]at h this<;>subst h<;>exact this
theorem mW {γ:Type} {n e r:List Nat×List Nat} {xs:List γ} {st:Nat->St} {g:γ->Int} {o:Int->Ex×St} {fin:Ex×St}
  (hfin:((exec E x (st xs.length)).bind (bE n e r)).val=some fin) (hf1:fin.1 ≠ .normal/\fS fin.2=true) (ho : ∀c,(o c).1 ≠ .normal/\fS (o c).2=true) (hs : ∀k,fS (st k)=true)
  (hgo : ∀k y,xs[k]? = some y->((exec E x (st k)).bind (bE n e r)).val=if g y=0 then some (.normal,st (k+1)) else some (o (g y))) :
  ∀k,k<=xs.length -> ∀ex s',(T.bM (decide (bN g (xs.drop k)=0)) (.ret fin) (.ret (o (bN g (xs.drop k))))).val=some (ex,s')->ba E x (st k) ex s':=by
 intro k hk ex s' h
 have:=MJ (E:=E) (x:=x) (xs:=xs) (n:=n) (e:=e) (r:=r) (st:=fun(_:Unit) k=>st k) (step:=fun _ y=>if g y=0 then .inl () else .inr (o (g y))) (fin:=fun _=>fin) (I:=fun _ _=>True)
  (fun _ _=>hfin) (fun _ _=>hf1) (fun _ k y hy _=>by
   have:=hgo k y hy
   by_cases hp:g y=0
   .simp only[hp,if_true]at this ⊢;exact⟨this,hs _,trivial⟩
   .simp only[hp,if_false]at this ⊢;exact⟨this,ho _⟩) () k hk trivial
 rw[Xg]at this
 by_cases hb:bN g (xs.drop k)=0
 .simp only[hb,decide_true,T.val,eX,if_true]at h this;subst h;exact this
 .simp only[hb,decide_false,T.val,eX,if_false]at h this;rw[h]at this;exact this
theorem cE {σ:Type} {n e r:List Nat×List Nat} {st:σ->St} {out:σ->T (Ex×St)} {I:σ->Prop} (μ:σ->Nat)
  (h : ∀a,I a->(∃o,((exec E x (st a)).bind (bE n e r)).val=some o/\(out a).val=some o/\o.1 ≠ .normal/\fS o.2=true) \/
   (∃a',((exec E x (st a)).bind (bE n e r)).val=some (.normal,st a')/\fS (st a')=true/\I a'/\μ a'<μ a/\(out a').val=(out a).val)) :
  ∀a,I a -> ∀ex s',(out a).val=some (ex,s')->ba E x (st a) ex s':=by
 have main : ∀m a,μ a<=m->I a -> ∀ex s',(out a).val=some (ex,s')->ba E x (st a) ex s':=by
  intro m
  induction m with
  | zero=>
   intro a hm hI ex s' ho
   rcases h a hI with ⟨o,h1,h2,h3,h4⟩ | ⟨a',h1,h2,h3,h4,h5⟩
   .rw[ho]at h2;cases h2;exact .out h1 h3 h4
   .omega
  | succ m ih=>
   intro a hm hI ex s' ho
   rcases h a hI with ⟨o,h1,h2,h3,h4⟩ | ⟨a',h1,h2,h3,h4,h5⟩
   .rw[ho]at h2;cases h2;exact .out h1 h3 h4
   .exact .go h1 h2 (ih a' (by omega) h3 ex s' (h5.trans ho))
 exact fun a=>main _ a (bR _)
theorem ai5 {σ:Type} {n e r:List Nat×List Nat} {st:σ->St} {out:σ->T (Ex×St)} {I:σ->Prop} (μ:σ->Nat)
  (h : ∀a,I a->(∃o,((exec E x (st a)).bind (bE n e r)).val=some o/\(out a).val=some o/\o.1 ≠ .normal/\fS o.2=true) \/
   (∃a' s1 ks,((exec E x (st a)).bind (bE n e r)).val=some (.normal,s1)/\fS s1=true/\s1.oC ks=st a'/\I a'/\μ a'<μ a/\(out a').val=(out a).val)) :
  ∀a,I a -> ∀ex s',(out a).val=some (ex,s')->ba E x (st a) ex s':=by
 have main : ∀m a,μ a<=m->I a -> ∀ex s',(out a).val=some (ex,s')->ba E x (st a) ex s':=by
  intro m
  induction m with
  | zero=>
   intro a hm hI ex s' ho
   rcases h a hI with ⟨o,h1,h2,h3,h4⟩ | ⟨a',s1,ks,h1,h2,hf,h3,h4,h5⟩
   .rw[ho]at h2;cases h2;exact .out h1 h3 h4
   .omega
  | succ m ih=>
   intro a hm hI ex s' ho
   rcases h a hI with ⟨o,h1,h2,h3,h4⟩ | ⟨a',s1,ks,h1,h2,hf,h3,h4,h5⟩
   .rw[ho]at h2;cases h2;exact .out h1 h3 h4
   .exact .go h1 h2 (.fP ks (hf▸ih a' (by omega) h3 ex s' (h5.trans ho)))
 exact fun a=>main _ a (bR _)
theorem rh {γ σ:Type} {n e r:List Nat×List Nat} {xs:List γ} {st:σ->Nat->St} {f:σ->γ->σ} {fin:σ->Ex×St} {I:σ->Nat->Prop}
  (hfin : ∀a,I a xs.length->((exec E x (st a xs.length)).bind (bE n e r)).val=some (fin a)) (hf1 : ∀a,(fin a).1 ≠ .normal/\fS (fin a).2=true) (hs : ∀a k,fS (st a k)=true)
  (hgo : ∀a k y,xs[k]? = some y->I a k->((exec E x (st a k)).bind (bE n e r)).val=some (.normal,st (f a y) (k+1))/\I (f a y) (k+1)) :
  ∀a k,k<=xs.length->I a k -> ∀ex s',(T.ret (fin ((xs.drop k).foldl f a))).val=some (ex,s')->ba E x (st a k) ex s':=by
 intro a k hk hI ex s' h
 have:=MJ (E:=E) (x:=x) (xs:=xs) (n:=n) (e:=e) (r:=r) (st:=st) (step:=fun a y=> .inl (f a y)) (fin:=fin) (I:=I)
  hfin (fun a _=>hf1 a) (fun a k y hy hI=>by
   have:=hgo a k y hy hI
   exact⟨this.1,hs _ _,this.2⟩) a k hk hI
 rw[Xf]at this
 rw[T.bw]at h
 rw[h]at this
 exact this
theorem nS {fn:Func} (h:Func.loops fn=[]) : ∀x∈Func.loops fn,∀s e s',(E.lp (fg x) s).val=some (e,s')->ba E x s e s':=by
 rw[h];intro x hx;cases hx
theorem de {fn:Func} {x0:Code} (h:Func.loops fn=[x0]) (h0 : ∀s e s',(E.lp (fg x0) s).val=some (e,s')->ba E x0 s e s') :
  ∀x∈Func.loops fn,∀s e s',(E.lp (fg x) s).val=some (e,s')->ba E x s e s':=by
 rw[h];intro x hx
 rcases cK.1 hx with rfl | hx
 .exact h0
 .cases hx
theorem md {fn:Func} {x0 x1:Code} (h:Func.loops fn=[x0,x1]) (h0 : ∀s e s',(E.lp (fg x0) s).val=some (e,s')->ba E x0 s e s') (h1 : ∀s e s',(E.lp (fg x1) s).val=some (e,s')->ba E x1 s e s') :
  ∀x∈Func.loops fn,∀s e s',(E.lp (fg x) s).val=some (e,s')->ba E x s e s':=by
 rw[h];intro x hx
 rcases cK.1 hx with rfl | hx
 .exact h0
 rcases cK.1 hx with rfl | hx
 .exact h1
 .cases hx
theorem MK {fn:Func} {x0 x1 x2:Code} (h:Func.loops fn=[x0,x1,x2]) (h0 : ∀s e s',(E.lp (fg x0) s).val=some (e,s')->ba E x0 s e s') (h1 : ∀s e s',(E.lp (fg x1) s).val=some (e,s')->ba E x1 s e s')
  (h2 : ∀s e s',(E.lp (fg x2) s).val=some (e,s')->ba E x2 s e s') :
  ∀x∈Func.loops fn,∀s e s',(E.lp (fg x) s).val=some (e,s')->ba E x s e s':=by
 rw[h];intro x hx
 rcases cK.1 hx with rfl | hx
 .exact h0
 rcases cK.1 hx with rfl | hx
 .exact h1
 rcases cK.1 hx with rfl | hx
 .exact h2
 .cases hx
end
theorem mX {α:Type} {P:Program} {E:Env} {f:FuncId} {mv:List Nat} {enc:α->List AV×Heap} {pre:α->Bool} {cT:α->AV×Heap×List Nat} (fn:Func) (hf:P.funcs[f]? = some fn)
  (hn : ((fn.name == "runtime.NumGoroutine") || fn.body.isNone) = false) (ok : aZ P E) (hm : P.follows .mixedOrders = true)
  (hlp : ∀x∈Func.loops fn,∀s e s',(E.lp (fg x) s).val=some (e,s')->ba E x s e s')
  (h : ∀a,pre a=true->(∀x∈(enc a).1,gI x)->(∀k bl,an (enc a).2 k=some bl->re bl)->(eu E mv fn (enc a).1 (enc a).2).val=some (cT a)):fX P E.dH (jI f enc pre cT):=by
 simp only[jQ]at hn
 exact GL ⟨fn,hf,hn.1,hn.2⟩ (fun a h1 h2 h3=>MH ok hm hf hlp (mv:=mv) (h a h1 h2 h3))
theorem CP {α:Type} {P:Program} {E:Env} {f:FuncId} {flat keep:Bool} {enc:α->List AV} {pre:α->Bool} {cT:α->AV×Heap} (fn:Func) (hf:P.funcs[f]? = some fn)
  (hn : ((fn.name == "runtime.NumGoroutine") || fn.body.isNone) = false) (ok : aZ P E) (hm : P.follows .mixedOrders = true)
  (hlp : ∀x∈Func.loops fn,∀s e s',(E.lp (fg x) s).val=some (e,s')->ba E x s e s') (hfl:flat=true -> ∀a,qW (cT a).2=true/\qV (cT a).1=true)
  (h : ∀a,pre a=true->(∀x∈enc a,gI x)->(aB E keep fn (enc a)).val=some (cT a)):aX P E.dH (aY f flat enc pre cT):=by
 simp only[jQ]at hn
 exact io ⟨fn,hf,hn.1,hn.2⟩ (fun a h1 h2=>GG ok hm hf hlp (h a h1 h2)) hfl
end Go.Proofs.YtaobkfpnebbohaaGreatDoor.M
namespace Go.Proofs.YtaobkfpnebbohaaGreatDoor.M
open Go Go.RowKit
def ML : List (Nat × TI) :=
  [(2, .mk false 1 [] [.v (.int .i64 0)] 0 0 0 [] (some .i64) 3 []),
   (3, .mk false 1 [] [.v (.int .i64 0)] 0 0 0 [] (some .i64) 3 []),
   (4, .mk false 1 [] [.v (.bool false)] 0 0 0 [] none 1 []),
   (5, .mk false 1 [] [.v (.int .u8 0)] 0 0 0 [] (some .u8) 3 []),
   (6, .mk false 1 [] [.v (.int .u8 0)] 0 0 0 [] (some .u8) 3 []),
   (7, .mk true 4 [(0, false, 1), (1, false, 1), (2, false, 1), (3, false, 1)] [.v (.int .i64 0), .v (.int .i64 0), .v (.bool false), .v (.int .u8 0)] 0 0 0 [] none 5 [0, 0, 2, 0]),
   (8, .mk true 4 [(0, false, 1), (1, false, 1), (2, false, 1), (3, false, 1)] [.v (.int .i64 0), .v (.int .i64 0), .v (.bool false), .v (.int .u8 0)] 0 0 0 [] none 5 [0, 0, 2, 0]),
   (9, .mk false 1 [] [.v (.string ⟨#[]⟩)] 0 0 0 [] none 2 []),
   (10, .mk false 1 [] [.v (.string ⟨#[]⟩)] 0 0 0 [] none 2 []),
   (11, .mk false 1 [] [.v (.string ⟨#[]⟩)] 0 0 0 [] none 2 []),
   (12, .mk false 1 [] [.v (.int .u64 0)] 0 0 0 [] (some .u64) 3 []),
   (13, .mk true 2 [(0, false, 1), (1, false, 1)] [.v (.string ⟨#[]⟩), .v (.int .u64 0)] 0 0 0 [] none 5 []),
   (14, .mk true 2 [(0, false, 1), (1, false, 1)] [.v (.string ⟨#[]⟩), .v (.int .u64 0)] 0 0 0 [] none 5 []),
   (15, .mk false 1 [] [.v (.pointer none)] 0 0 0 [] none 0 []),
   (16, .mk false 1 [] [.v (.pointer none)] 0 0 0 [] none 0 []),
   (17, .mk false 1 [] [.v (.pointer none)] 0 0 0 [] none 0 []),
   (18, .mk true 1 [(0, false, 1)] [.v (.pointer none)] 0 0 0 [] none 5 []),
   (19, .mk true 1 [(0, false, 1)] [.v (.pointer none)] 0 0 0 [] none 5 []),
   (20, .mk false 1 [] [.v .nilIface] 0 0 0 [] none 0 []),
   (21, .mk false 1 [] [.v (.int .i32 0)] 0 0 0 [] (some .i32) 3 []),
   (22, .mk false 1 [] [.e0] 64 4 56 [.v (.string ⟨#[]⟩), .v (.int .i64 0), .v (.bool false), .e0] none 4 []),
   (23, .mk false 1 [] [.e0] 103 2 16 [.v (.int .i64 0), .v (.int .i64 0)] none 4 []),
   (24, .mk true 3 [(0, false, 1), (1, false, 1), (2, false, 1)] [.v (.int .i64 0), .v (.int .i64 0), .v (.int .i64 0)] 0 0 0 [] none 5 [0, 0, 0]),
   (25, .mk true 3 [(0, false, 1), (1, false, 1), (2, false, 1)] [.v (.int .i64 0), .v (.int .i64 0), .v (.int .i64 0)] 0 0 0 [] none 5 [0, 0, 0]),
   (26, .mk false 1 [] [.e0] 129 6 56 [.v (.int .i64 0), .v (.int .i64 0), .e0, .v (.int .i64 0), .v (.bool false), .v (.bool false)] none 4 []),
   (27, .mk false 1 [] [.e0] 3 1 8 [.v (.int .i64 0)] none 4 []),
   (28, .mk false 1 [] [.e0] 48 1 24 [.e0] none 4 []),
   (29, .mk false 1 [] [.e0] 42 5 56 [.v (.int .i64 0), .v (.int .i64 0), .v (.int .i64 0), .e0, .v (.bool false)] none 4 []),
   (30, .mk false 1 [] [.e0] 118 7 80 [.v (.string ⟨#[]⟩), .v (.string ⟨#[]⟩), .v (.int .i64 0), .v (.int .i64 0), .v (.int .i64 0), .v (.int .i64 0), .v (.string ⟨#[]⟩)] none 4 []),
   (31, .mk false 1 [] [.e0] 116 5 72 [.v (.string ⟨#[]⟩), .v (.string ⟨#[]⟩), .v (.string ⟨#[]⟩), .v (.bool false), .v (.string ⟨#[]⟩)] none 4 []),
   (32, .mk true 2 [(0, false, 1), (1, false, 1)] [.e0, .e0] 0 0 0 [] none 5 []),
   (33, .mk true 2 [(0, false, 1), (1, false, 1)] [.e0, .e0] 0 0 0 [] none 5 []),
   (34, .mk true 5 [(0, false, 1), (1, false, 1), (2, false, 1), (3, true, 2)] [.e0, .e0, .e0, .e0, .e0] 0 0 0 [] none 5 []),
   (35, .mk true 5 [(0, false, 1), (1, false, 1), (2, false, 1), (3, true, 2)] [.e0, .e0, .e0, .e0, .e0] 0 0 0 [] none 5 []),
   (36, .mk false 1 [] [.v (.int .i64 0)] 0 0 0 [] (some .i64) 3 []),
   (40, .mk false 1 [] [.e0] 53 7 88 [.v (.string ⟨#[]⟩), .v (.int .i64 0), .v (.bool false), .v (.int .i64 0), .v (.string ⟨#[]⟩), .v (.bool false), .e0] none 4 []),
   (41, .mk true 5 [(0, false, 1), (1, false, 1), (2, false, 1), (3, false, 1), (4, false, 1)] [.v (.int .i64 0), .v (.int .i64 0), .v (.int .i64 0), .e0, .v (.bool false)] 0 0 0 [] none 5 []),
   (42, .mk true 5 [(0, false, 1), (1, false, 1), (2, false, 1), (3, false, 1), (4, false, 1)] [.v (.int .i64 0), .v (.int .i64 0), .v (.int .i64 0), .e0, .v (.bool false)] 0 0 0 [] none 5 []),
   (43, .mk false 1 [] [.e0] 55 8 96 [.v (.int .i64 0), .v (.string ⟨#[]⟩), .v (.int .i64 0), .v (.bool false), .v (.int .i64 0), .v (.string ⟨#[]⟩), .v (.bool false), .e0] none 4 []),
   (44, .mk true 9 [(0, false, 1), (1, false, 1), (2, true, 5), (7, false, 1), (8, false, 1)] [.v (.bool false), .v (.int .i64 0), .v (.int .i64 0), .v (.int .i64 0), .v (.int .i64 0), .e0, .v (.bool false), .e0, .v (.int .i64 0)] 0 0 0 [] none 5 []),
   (45, .mk true 9 [(0, false, 1), (1, false, 1), (2, true, 5), (7, false, 1), (8, false, 1)] [.v (.bool false), .v (.int .i64 0), .v (.int .i64 0), .v (.int .i64 0), .v (.int .i64 0), .e0, .v (.bool false), .e0, .v (.int .i64 0)] 0 0 0 [] none 5 []),
   (48, .mk false 1 [] [.e0] 50 7 56 [.v (.int .i64 0), .v (.int .i64 0), .v (.int .i64 0), .v (.int .i64 0), .v (.int .i64 0), .v (.int .i64 0), .v (.int .i64 0)] none 4 []),
   (49, .mk true 7 [(0, false, 1), (1, false, 1), (2, false, 1), (3, false, 1), (4, false, 1), (5, false, 1), (6, false, 1)] [.v (.int .i64 0), .v (.int .i64 0), .v (.int .i64 0), .v (.int .i64 0), .v (.int .i64 0), .v (.int .i64 0), .v (.int .i64 0)] 0 0 0 [] none 5 [0, 0, 0, 0, 0, 0, 0]),
   (50, .mk true 7 [(0, false, 1), (1, false, 1), (2, false, 1), (3, false, 1), (4, false, 1), (5, false, 1), (6, false, 1)] [.v (.int .i64 0), .v (.int .i64 0), .v (.int .i64 0), .v (.int .i64 0), .v (.int .i64 0), .v (.int .i64 0), .v (.int .i64 0)] 0 0 0 [] none 5 [0, 0, 0, 0, 0, 0, 0]),
   (51, .mk false 1 [] [.e0] 9 1 16 [.v (.string ⟨#[]⟩)] none 4 []),
   (52, .mk true 7 [(0, false, 1), (1, false, 1), (2, false, 1), (3, false, 1), (4, false, 1), (5, false, 1), (6, false, 1)] [.v (.string ⟨#[]⟩), .v (.int .i64 0), .v (.bool false), .v (.int .i64 0), .v (.string ⟨#[]⟩), .v (.bool false), .e0] 0 0 0 [] none 5 []),
   (53, .mk true 7 [(0, false, 1), (1, false, 1), (2, false, 1), (3, false, 1), (4, false, 1), (5, false, 1), (6, false, 1)] [.v (.string ⟨#[]⟩), .v (.int .i64 0), .v (.bool false), .v (.int .i64 0), .v (.string ⟨#[]⟩), .v (.bool false), .e0] 0 0 0 [] none 5 []),
   (54, .mk true 8 [(0, false, 1), (1, true, 7)] [.v (.int .i64 0), .v (.string ⟨#[]⟩), .v (.int .i64 0), .v (.bool false), .v (.int .i64 0), .v (.string ⟨#[]⟩), .v (.bool false), .e0] 0 0 0 [] none 5 []),
   (55, .mk true 8 [(0, false, 1), (1, true, 7)] [.v (.int .i64 0), .v (.string ⟨#[]⟩), .v (.int .i64 0), .v (.bool false), .v (.int .i64 0), .v (.string ⟨#[]⟩), .v (.bool false), .e0] 0 0 0 [] none 5 []),
   (62, .mk false 1 [] [.e0] 214 5 40 [.v (.int .i64 0), .v (.int .i64 0), .v (.int .i64 0), .v (.int .i64 0), .v (.bool false)] none 4 []),
   (63, .mk true 4 [(0, false, 1), (1, false, 1), (2, false, 1), (3, false, 1)] [.v (.string ⟨#[]⟩), .v (.int .i64 0), .v (.bool false), .e0] 0 0 0 [] none 5 []),
   (64, .mk true 4 [(0, false, 1), (1, false, 1), (2, false, 1), (3, false, 1)] [.v (.string ⟨#[]⟩), .v (.int .i64 0), .v (.bool false), .e0] 0 0 0 [] none 5 []),
   (91, .mk false 1 [] [.e0] 26 1 24 [.e0] none 4 []),
   (97, .mk false 1 [] [.v (.pointer none)] 0 0 0 [] none 0 []),
   (102, .mk true 2 [(0, false, 1), (1, false, 1)] [.v (.int .i64 0), .v (.int .i64 0)] 0 0 0 [] none 5 [0, 0]),
   (103, .mk true 2 [(0, false, 1), (1, false, 1)] [.v (.int .i64 0), .v (.int .i64 0)] 0 0 0 [] none 5 [0, 0]),
   (115, .mk true 5 [(0, false, 1), (1, false, 1), (2, false, 1), (3, false, 1), (4, false, 1)] [.v (.string ⟨#[]⟩), .v (.string ⟨#[]⟩), .v (.string ⟨#[]⟩), .v (.bool false), .v (.string ⟨#[]⟩)] 0 0 0 [] none 5 [1, 1, 1, 2, 1]),
   (116, .mk true 5 [(0, false, 1), (1, false, 1), (2, false, 1), (3, false, 1), (4, false, 1)] [.v (.string ⟨#[]⟩), .v (.string ⟨#[]⟩), .v (.string ⟨#[]⟩), .v (.bool false), .v (.string ⟨#[]⟩)] 0 0 0 [] none 5 [1, 1, 1, 2, 1]),
   (117, .mk true 7 [(0, false, 1), (1, false, 1), (2, false, 1), (3, false, 1), (4, false, 1), (5, false, 1), (6, false, 1)] [.v (.string ⟨#[]⟩), .v (.string ⟨#[]⟩), .v (.int .i64 0), .v (.int .i64 0), .v (.int .i64 0), .v (.int .i64 0), .v (.string ⟨#[]⟩)] 0 0 0 [] none 5 [1, 1, 0, 0, 0, 0, 1]),
   (118, .mk true 7 [(0, false, 1), (1, false, 1), (2, false, 1), (3, false, 1), (4, false, 1), (5, false, 1), (6, false, 1)] [.v (.string ⟨#[]⟩), .v (.string ⟨#[]⟩), .v (.int .i64 0), .v (.int .i64 0), .v (.int .i64 0), .v (.int .i64 0), .v (.string ⟨#[]⟩)] 0 0 0 [] none 5 [1, 1, 0, 0, 0, 0, 1]),
   (128, .mk true 6 [(0, false, 1), (1, false, 1), (2, false, 1), (3, false, 1), (4, false, 1), (5, false, 1)] [.v (.int .i64 0), .v (.int .i64 0), .e0, .v (.int .i64 0), .v (.bool false), .v (.bool false)] 0 0 0 [] none 5 []),
   (129, .mk true 6 [(0, false, 1), (1, false, 1), (2, false, 1), (3, false, 1), (4, false, 1), (5, false, 1)] [.v (.int .i64 0), .v (.int .i64 0), .e0, .v (.int .i64 0), .v (.bool false), .v (.bool false)] 0 0 0 [] none 5 []),
   (132, .mk false 1 [] [.v (.int .u64 0)] 0 0 0 [] (some .u64) 3 []),
   (143, .mk false 1 [] [.v (.pointer none)] 0 0 0 [] none 0 []),
   (144, .mk false 1 [] [.e0] 5 1 1 [.v (.int .u8 0)] none 4 []),
   (145, .mk true 2 [(0, false, 1), (1, false, 1)] [.v (.pointer none), .e0] 0 0 0 [] none 5 []),
   (146, .mk true 2 [(0, false, 1), (1, false, 1)] [.v (.pointer none), .e0] 0 0 0 [] none 5 []),
   (147, .mk false 1 [] [.v .nilIface] 0 0 0 [] none 0 []),
   (148, .mk false 1 [] [.v .nilIface] 0 0 0 [] none 0 []),
   (156, .mk true 2 [(0, false, 1), (1, false, 1)] [.e0, .v (.int .i64 0)] 0 0 0 [] none 5 []),
   (157, .mk true 2 [(0, false, 1), (1, false, 1)] [.e0, .v (.int .i64 0)] 0 0 0 [] none 5 []),
   (162, .mk false 1 [] [.v (.pointer none)] 0 0 0 [] none 0 []),
   (167, .mk false 1 [] [.e0] 170 2 16 [.v (.int .i64 0), .v (.int .i64 0)] none 4 []),
   (169, .mk true 2 [(0, false, 1), (1, false, 1)] [.v (.int .i64 0), .v (.int .i64 0)] 0 0 0 [] none 5 [0, 0]),
   (170, .mk true 2 [(0, false, 1), (1, false, 1)] [.v (.int .i64 0), .v (.int .i64 0)] 0 0 0 [] none 5 [0, 0]),
   (175, .mk false 1 [] [.e0] 177 4 32 [.v (.bool false), .v (.int .i64 0), .v (.int .i64 0), .v (.int .i64 0)] none 4 []),
   (176, .mk true 4 [(0, false, 1), (1, false, 1), (2, false, 1), (3, false, 1)] [.v (.bool false), .v (.int .i64 0), .v (.int .i64 0), .v (.int .i64 0)] 0 0 0 [] none 5 [2, 0, 0, 0]),
   (177, .mk true 4 [(0, false, 1), (1, false, 1), (2, false, 1), (3, false, 1)] [.v (.bool false), .v (.int .i64 0), .v (.int .i64 0), .v (.int .i64 0)] 0 0 0 [] none 5 [2, 0, 0, 0]),
   (198, .mk false 1 [] [.v (.int .u64 0)] 0 0 0 [] (some .u64) 3 []),
   (200, .mk false 1 [] [.e0] 36 1 8 [.v (.int .i64 0)] none 4 []),
   (204, .mk false 1 [] [.v (.pointer none)] 0 0 0 [] none 0 []),
   (213, .mk true 5 [(0, false, 1), (1, false, 1), (2, false, 1), (3, false, 1), (4, false, 1)] [.v (.int .i64 0), .v (.int .i64 0), .v (.int .i64 0), .v (.int .i64 0), .v (.bool false)] 0 0 0 [] none 5 [0, 0, 0, 0, 2]),
   (214, .mk true 5 [(0, false, 1), (1, false, 1), (2, false, 1), (3, false, 1), (4, false, 1)] [.v (.int .i64 0), .v (.int .i64 0), .v (.int .i64 0), .v (.int .i64 0), .v (.bool false)] 0 0 0 [] none 5 [0, 0, 0, 0, 2]),
   (215, .mk false 1 [] [.e0] 219 6 40 [.v (.int .i64 0), .v (.int .i64 0), .v (.bool false), .v (.bool false), .v (.int .i64 0), .v (.int .i64 0)] none 4 []),
   (218, .mk true 6 [(0, false, 1), (1, false, 1), (2, false, 1), (3, false, 1), (4, false, 1), (5, false, 1)] [.v (.int .i64 0), .v (.int .i64 0), .v (.bool false), .v (.bool false), .v (.int .i64 0), .v (.int .i64 0)] 0 0 0 [] none 5 [0, 0, 2, 2, 0, 0]),
   (219, .mk true 6 [(0, false, 1), (1, false, 1), (2, false, 1), (3, false, 1), (4, false, 1), (5, false, 1)] [.v (.int .i64 0), .v (.int .i64 0), .v (.bool false), .v (.bool false), .v (.int .i64 0), .v (.int .i64 0)] 0 0 0 [] none 5 [0, 0, 2, 2, 0, 0]),
   (231, .mk false 1 [] [.v (.pointer none)] 0 0 0 [] none 0 []),
   (241, .mk true 2 [(0, false, 1), (1, false, 1)] [.v (.int .i64 0), .v (.int .u64 0)] 0 0 0 [] none 5 [0, 0]),
   (242, .mk true 2 [(0, false, 1), (1, false, 1)] [.v (.int .i64 0), .v (.int .u64 0)] 0 0 0 [] none 5 [0, 0]),
   (248, .mk true 24 [] [.v (.int .u8 0), .v (.int .u8 0), .v (.int .u8 0), .v (.int .u8 0), .v (.int .u8 0), .v (.int .u8 0), .v (.int .u8 0), .v (.int .u8 0), .v (.int .u8 0), .v (.int .u8 0), .v (.int .u8 0), .v (.int .u8 0), .v (.int .u8 0), .v (.int .u8 0), .v (.int .u8 0), .v (.int .u8 0), .v (.int .u8 0), .v (.int .u8 0), .v (.int .u8 0), .v (.int .u8 0), .v (.int .u8 0), .v (.int .u8 0), .v (.int .u8 0), .v (.int .u8 0)] 0 0 0 [] none 0 []),
   (253, .mk true 256 [] [.v (.int .u8 0), .v (.int .u8 0), .v (.int .u8 0), .v (.int .u8 0), .v (.int .u8 0), .v (.int .u8 0), .v (.int .u8 0), .v (.int .u8 0), .v (.int .u8 0), .v (.int .u8 0), .v (.int .u8 0), .v (.int .u8 0), .v (.int .u8 0), .v (.int .u8 0), .v (.int .u8 0), .v (.int .u8 0), .v (.int .u8 0), .v (.int .u8 0), .v (.int .u8 0), .v (.int .u8 0), .v (.int .u8 0), .v (.int .u8 0), .v (.int .u8 0), .v (.int .u8 0), .v (.int .u8 0), .v (.int .u8 0), .v (.int .u8 0), .v (.int .u8 0), .v (.int .u8 0), .v (.int .u8 0), .v (.int .u8 0), .v (.int .u8 0), .v (.int .u8 0), .v (.int .u8 0), .v (.int .u8 0), .v (.int .u8 0), .v (.int .u8 0), .v (.int .u8 0), .v (.int .u8 0), .v (.int .u8 0), .v (.int .u8 0), .v (.int .u8 0), .v (.int .u8 0), .v (.int .u8 0), .v (.int .u8 0), .v (.int .u8 0), .v (.int .u8 0), .v (.int .u8 0), .v (.int .u8 0), .v (.int .u8 0), .v (.int .u8 0), .v (.int .u8 0), .v (.int .u8 0), .v (.int .u8 0), .v (.int .u8 0), .v (.int .u8 0), .v (.int .u8 0), .v (.int .u8 0), .v (.int .u8 0), .v (.int .u8 0), .v (.int .u8 0), .v (.int .u8 0), .v (.int .u8 0), .v (.int .u8 0), .v (.int .u8 0), .v (.int .u8 0), .v (.int .u8 0), .v (.int .u8 0), .v (.int .u8 0), .v (.int .u8 0), .v (.int .u8 0), .v (.int .u8 0), .v (.int .u8 0), .v (.int .u8 0), .v (.int .u8 0), .v (.int .u8 0), .v (.int .u8 0), .v (.int .u8 0), .v (.int .u8 0), .v (.int .u8 0), .v (.int .u8 0), .v (.int .u8 0), .v (.int .u8 0), .v (.int .u8 0), .v (.int .u8 0), .v (.int .u8 0), .v (.int .u8 0), .v (.int .u8 0), .v (.int .u8 0), .v (.int .u8 0), .v (.int .u8 0), .v (.int .u8 0), .v (.int .u8 0), .v (.int .u8 0), .v (.int .u8 0), .v (.int .u8 0), .v (.int .u8 0), .v (.int .u8 0), .v (.int .u8 0), .v (.int .u8 0), .v (.int .u8 0), .v (.int .u8 0), .v (.int .u8 0), .v (.int .u8 0), .v (.int .u8 0), .v (.int .u8 0), .v (.int .u8 0), .v (.int .u8 0), .v (.int .u8 0), .v (.int .u8 0), .v (.int .u8 0), .v (.int .u8 0), .v (.int .u8 0), .v (.int .u8 0), .v (.int .u8 0), .v (.int .u8 0), .v (.int .u8 0), .v (.int .u8 0), .v (.int .u8 0), .v (.int .u8 0), .v (.int .u8 0), .v (.int .u8 0), .v (.int .u8 0), .v (.int .u8 0), .v (.int .u8 0), .v (.int .u8 0), .v (.int .u8 0), .v (.int .u8 0), .v (.int .u8 0), .v (.int .u8 0), .v (.int .u8 0), .v (.int .u8 0), .v (.int .u8 0), .v (.int .u8 0), .v (.int .u8 0), .v (.int .u8 0), .v (.int .u8 0), .v (.int .u8 0), .v (.int .u8 0), .v (.int .u8 0), .v (.int .u8 0), .v (.int .u8 0), .v (.int .u8 0), .v (.int .u8 0), .v (.int .u8 0), .v (.int .u8 0), .v (.int .u8 0), .v (.int .u8 0), .v (.int .u8 0), .v (.int .u8 0), .v (.int .u8 0), .v (.int .u8 0), .v (.int .u8 0), .v (.int .u8 0), .v (.int .u8 0), .v (.int .u8 0), .v (.int .u8 0), .v (.int .u8 0), .v (.int .u8 0), .v (.int .u8 0), .v (.int .u8 0), .v (.int .u8 0), .v (.int .u8 0), .v (.int .u8 0), .v (.int .u8 0), .v (.int .u8 0), .v (.int .u8 0), .v (.int .u8 0), .v (.int .u8 0), .v (.int .u8 0), .v (.int .u8 0), .v (.int .u8 0), .v (.int .u8 0), .v (.int .u8 0), .v (.int .u8 0), .v (.int .u8 0), .v (.int .u8 0), .v (.int .u8 0), .v (.int .u8 0), .v (.int .u8 0), .v (.int .u8 0), .v (.int .u8 0), .v (.int .u8 0), .v (.int .u8 0), .v (.int .u8 0), .v (.int .u8 0), .v (.int .u8 0), .v (.int .u8 0), .v (.int .u8 0), .v (.int .u8 0), .v (.int .u8 0), .v (.int .u8 0), .v (.int .u8 0), .v (.int .u8 0), .v (.int .u8 0), .v (.int .u8 0), .v (.int .u8 0), .v (.int .u8 0), .v (.int .u8 0), .v (.int .u8 0), .v (.int .u8 0), .v (.int .u8 0), .v (.int .u8 0), .v (.int .u8 0), .v (.int .u8 0), .v (.int .u8 0), .v (.int .u8 0), .v (.int .u8 0), .v (.int .u8 0), .v (.int .u8 0), .v (.int .u8 0), .v (.int .u8 0), .v (.int .u8 0), .v (.int .u8 0), .v (.int .u8 0), .v (.int .u8 0), .v (.int .u8 0), .v (.int .u8 0), .v (.int .u8 0), .v (.int .u8 0), .v (.int .u8 0), .v (.int .u8 0), .v (.int .u8 0), .v (.int .u8 0), .v (.int .u8 0), .v (.int .u8 0), .v (.int .u8 0), .v (.int .u8 0), .v (.int .u8 0), .v (.int .u8 0), .v (.int .u8 0), .v (.int .u8 0), .v (.int .u8 0), .v (.int .u8 0), .v (.int .u8 0), .v (.int .u8 0), .v (.int .u8 0), .v (.int .u8 0), .v (.int .u8 0), .v (.int .u8 0), .v (.int .u8 0), .v (.int .u8 0), .v (.int .u8 0), .v (.int .u8 0), .v (.int .u8 0), .v (.int .u8 0), .v (.int .u8 0), .v (.int .u8 0), .v (.int .u8 0), .v (.int .u8 0), .v (.int .u8 0), .v (.int .u8 0), .v (.int .u8 0), .v (.int .u8 0), .v (.int .u8 0), .v (.int .u8 0)] 0 0 0 [] none 0 []),
   (254, .mk true 2 [(0, false, 1), (1, false, 1)] [.v (.int .u8 0), .v (.int .u8 0)] 0 0 0 [] none 5 [0, 0]),
   (255, .mk true 2 [(0, false, 1), (1, false, 1)] [.v (.int .u8 0), .v (.int .u8 0)] 0 0 0 [] none 5 [0, 0]),
   (256, .mk true 32 [] [.v (.int .u8 0), .v (.int .u8 0), .v (.int .u8 0), .v (.int .u8 0), .v (.int .u8 0), .v (.int .u8 0), .v (.int .u8 0), .v (.int .u8 0), .v (.int .u8 0), .v (.int .u8 0), .v (.int .u8 0), .v (.int .u8 0), .v (.int .u8 0), .v (.int .u8 0), .v (.int .u8 0), .v (.int .u8 0), .v (.int .u8 0), .v (.int .u8 0), .v (.int .u8 0), .v (.int .u8 0), .v (.int .u8 0), .v (.int .u8 0), .v (.int .u8 0), .v (.int .u8 0), .v (.int .u8 0), .v (.int .u8 0), .v (.int .u8 0), .v (.int .u8 0), .v (.int .u8 0), .v (.int .u8 0), .v (.int .u8 0), .v (.int .u8 0)] 0 0 0 [] none 0 []),
   (260, .mk false 1 [] [.v (.int .i64 0)] 0 0 0 [] (some .i64) 3 []),
   (263, .mk false 1 [] [.v (.pointer none)] 0 0 0 [] none 0 []),
   (270, .mk false 1 [] [.v (.int .i64 0)] 0 0 0 [] (some .i64) 3 []),
   (276, .mk false 1 [] [.v (.int .u32 0)] 0 0 0 [] (some .u32) 3 []),
   (278, .mk true 20 [] [.v (.int .u64 0), .v (.int .u64 0), .v (.int .u64 0), .v (.int .u64 0), .v (.int .u64 0), .v (.int .u64 0), .v (.int .u64 0), .v (.int .u64 0), .v (.int .u64 0), .v (.int .u64 0), .v (.int .u64 0), .v (.int .u64 0), .v (.int .u64 0), .v (.int .u64 0), .v (.int .u64 0), .v (.int .u64 0), .v (.int .u64 0), .v (.int .u64 0), .v (.int .u64 0), .v (.int .u64 0)] 0 0 0 [] none 0 []),
   (279, .mk true 65 [] [.v (.int .u8 0), .v (.int .u8 0), .v (.int .u8 0), .v (.int .u8 0), .v (.int .u8 0), .v (.int .u8 0), .v (.int .u8 0), .v (.int .u8 0), .v (.int .u8 0), .v (.int .u8 0), .v (.int .u8 0), .v (.int .u8 0), .v (.int .u8 0), .v (.int .u8 0), .v (.int .u8 0), .v (.int .u8 0), .v (.int .u8 0), .v (.int .u8 0), .v (.int .u8 0), .v (.int .u8 0), .v (.int .u8 0), .v (.int .u8 0), .v (.int .u8 0), .v (.int .u8 0), .v (.int .u8 0), .v (.int .u8 0), .v (.int .u8 0), .v (.int .u8 0), .v (.int .u8 0), .v (.int .u8 0), .v (.int .u8 0), .v (.int .u8 0), .v (.int .u8 0), .v (.int .u8 0), .v (.int .u8 0), .v (.int .u8 0), .v (.int .u8 0), .v (.int .u8 0), .v (.int .u8 0), .v (.int .u8 0), .v (.int .u8 0), .v (.int .u8 0), .v (.int .u8 0), .v (.int .u8 0), .v (.int .u8 0), .v (.int .u8 0), .v (.int .u8 0), .v (.int .u8 0), .v (.int .u8 0), .v (.int .u8 0), .v (.int .u8 0), .v (.int .u8 0), .v (.int .u8 0), .v (.int .u8 0), .v (.int .u8 0), .v (.int .u8 0), .v (.int .u8 0), .v (.int .u8 0), .v (.int .u8 0), .v (.int .u8 0), .v (.int .u8 0), .v (.int .u8 0), .v (.int .u8 0), .v (.int .u8 0), .v (.int .u8 0)] 0 0 0 [] none 0 []),
   (284, .mk true 3 [(0, false, 1), (1, false, 1), (2, false, 1)] [.v (.string ⟨#[]⟩), .v (.string ⟨#[]⟩), .v .nilIface] 0 0 0 [] none 5 []),
   (285, .mk true 3 [(0, false, 1), (1, false, 1), (2, false, 1)] [.v (.string ⟨#[]⟩), .v (.string ⟨#[]⟩), .v .nilIface] 0 0 0 [] none 5 []),
   (290, .mk false 1 [] [.v (.int .u64 0)] 0 0 0 [] (some .u64) 3 []),
   (294, .mk false 1 [] [.v (.pointer none)] 0 0 0 [] none 0 []),
   (299, .mk false 1 [] [.v (.pointer none)] 0 0 0 [] none 0 []),
   (300, .mk true 1 [(0, false, 1)] [.v (.string ⟨#[]⟩)] 0 0 0 [] none 5 [1]),
   (301, .mk true 1 [(0, false, 1)] [.v (.string ⟨#[]⟩)] 0 0 0 [] none 5 [1]),
   (302, .mk false 1 [] [.v (.pointer none)] 0 0 0 [] none 0 []),
   (304, .mk true 32 [] [.v (.int .u8 0), .v (.int .u8 0), .v (.int .u8 0), .v (.int .u8 0), .v (.int .u8 0), .v (.int .u8 0), .v (.int .u8 0), .v (.int .u8 0), .v (.int .u8 0), .v (.int .u8 0), .v (.int .u8 0), .v (.int .u8 0), .v (.int .u8 0), .v (.int .u8 0), .v (.int .u8 0), .v (.int .u8 0), .v (.int .u8 0), .v (.int .u8 0), .v (.int .u8 0), .v (.int .u8 0), .v (.int .u8 0), .v (.int .u8 0), .v (.int .u8 0), .v (.int .u8 0), .v (.int .u8 0), .v (.int .u8 0), .v (.int .u8 0), .v (.int .u8 0), .v (.int .u8 0), .v (.int .u8 0), .v (.int .u8 0), .v (.int .u8 0)] 0 0 0 [] none 0 []),
   (305, .mk true 64 [] [.v (.int .u8 0), .v (.int .u8 0), .v (.int .u8 0), .v (.int .u8 0), .v (.int .u8 0), .v (.int .u8 0), .v (.int .u8 0), .v (.int .u8 0), .v (.int .u8 0), .v (.int .u8 0), .v (.int .u8 0), .v (.int .u8 0), .v (.int .u8 0), .v (.int .u8 0), .v (.int .u8 0), .v (.int .u8 0), .v (.int .u8 0), .v (.int .u8 0), .v (.int .u8 0), .v (.int .u8 0), .v (.int .u8 0), .v (.int .u8 0), .v (.int .u8 0), .v (.int .u8 0), .v (.int .u8 0), .v (.int .u8 0), .v (.int .u8 0), .v (.int .u8 0), .v (.int .u8 0), .v (.int .u8 0), .v (.int .u8 0), .v (.int .u8 0), .v (.int .u8 0), .v (.int .u8 0), .v (.int .u8 0), .v (.int .u8 0), .v (.int .u8 0), .v (.int .u8 0), .v (.int .u8 0), .v (.int .u8 0), .v (.int .u8 0), .v (.int .u8 0), .v (.int .u8 0), .v (.int .u8 0), .v (.int .u8 0), .v (.int .u8 0), .v (.int .u8 0), .v (.int .u8 0), .v (.int .u8 0), .v (.int .u8 0), .v (.int .u8 0), .v (.int .u8 0), .v (.int .u8 0), .v (.int .u8 0), .v (.int .u8 0), .v (.int .u8 0), .v (.int .u8 0), .v (.int .u8 0), .v (.int .u8 0), .v (.int .u8 0), .v (.int .u8 0), .v (.int .u8 0), .v (.int .u8 0), .v (.int .u8 0)] 0 0 0 [] none 0 []),
   (306, .mk true 4 [(0, false, 1), (1, false, 1), (2, false, 1), (3, false, 1)] [.v (.pointer none), .v (.pointer none), .v (.pointer none), .v (.string ⟨#[]⟩)] 0 0 0 [] none 5 []),
   (307, .mk true 4 [(0, false, 1), (1, false, 1), (2, false, 1), (3, false, 1)] [.v (.pointer none), .v (.pointer none), .v (.pointer none), .v (.string ⟨#[]⟩)] 0 0 0 [] none 5 []),
   (308, .mk true 0 [] [] 0 0 0 [] none 0 []),
   (311, .mk false 1 [] [.v (.int .u8 0)] 0 0 0 [] (some .u8) 3 []),
   (312, .mk false 1 [] [.v (.int .u8 0)] 0 0 0 [] (some .u8) 3 []),
   (314, .mk false 1 [] [.v (.int .i32 0)] 0 0 0 [] (some .i32) 3 []),
   (315, .mk false 1 [] [.v (.int .i32 0)] 0 0 0 [] (some .i32) 3 []),
   (316, .mk true 11 [(0, false, 1), (1, false, 1), (2, false, 1), (3, false, 1), (4, false, 1), (5, false, 1), (6, false, 1), (7, false, 1), (8, false, 1), (9, false, 1), (10, false, 1)] [.v (.int .u64 0), .v (.int .u64 0), .v (.int .u32 0), .v (.int .u8 0), .v (.int .u8 0), .v (.int .u8 0), .v (.int .u8 0), .v .nilFunc, .v (.pointer none), .v (.int .i32 0), .v (.int .i32 0)] 0 0 0 [] none 5 []),
   (317, .mk true 11 [(0, false, 1), (1, false, 1), (2, false, 1), (3, false, 1), (4, false, 1), (5, false, 1), (6, false, 1), (7, false, 1), (8, false, 1), (9, false, 1), (10, false, 1)] [.v (.int .u64 0), .v (.int .u64 0), .v (.int .u32 0), .v (.int .u8 0), .v (.int .u8 0), .v (.int .u8 0), .v (.int .u8 0), .v .nilFunc, .v (.pointer none), .v (.int .i32 0), .v (.int .i32 0)] 0 0 0 [] none 5 [])]
theorem ai6:ML.map (fun p=>qS Tryz.prog p.1)=ML.map (fun p=>some p.2):=by kernel_rfl
def ty (t:TypeId):Option TI:=an ML t
theorem mY : ∀t ti,ty t=some ti->qS Tryz.prog t=some ti:=ai4 ai6
end Go.Proofs.YtaobkfpnebbohaaGreatDoor.M
namespace Go.Proofs.YtaobkfpnebbohaaGreatDoor
open Go Go.RowKit
set_option linter.unusedVariables false
set_option linter.unusedSimpArgs false
set_option maxHeartbeats 1000000
structure ay where
 fr:Int
 tqq : Int
 lines:List ByteArray
 row:Int
 cZ:Bool
 dl:Bool
instance : Inhabited ay := ⟨⟨0, 0, [], 0, false, false⟩⟩
structure aK where
 number:Int
 fr:Int
 tqq : Int
 begin:Int
 length:Int
 bytes:Int
 lead:Int
instance : Inhabited aK := ⟨⟨0, 0, 0, 0, 0, 0, 0⟩⟩
structure cb where
 uri:ByteArray
 eK:Int
 brk:Bool
 date:Int
 key:ByteArray
 kK:Bool
 dz:List ByteArray
instance : Inhabited cb := ⟨⟨⟨#[]⟩, 0, false, 0, ⟨#[]⟩, false, []⟩⟩
structure bH where
 target:Int
 first:Int
 breaks:Int
 entries:List cb
 ended:Bool
instance : Inhabited bH := ⟨⟨0, 0, 0, [], false⟩⟩
structure dK where
 number:Int
 entry:cb
instance : Inhabited dK := ⟨⟨0, default⟩⟩
structure dQ where
 begun:Bool
 next:Int
 last:bH
 queue:List dK
 lost:Int
instance : Inhabited dQ := ⟨⟨false, 0, default, [], 0⟩⟩
structure bI where
 time:Int
 step:Int
 shift:Int
 size:Int
 key:Bool
instance : Inhabited bI := ⟨⟨0, 0, 0, 0, false⟩⟩
structure Std where
 name:ByteArray
 aU:Int
 sound:Bool
 aL:List bI
instance : Inhabited Std := ⟨⟨⟨#[]⟩, 0, false, []⟩⟩
structure cv where
 width:Int
 dL:Int
instance : Inhabited cv := ⟨⟨0, 0⟩⟩
structure b9 where
 aU:Int
 target:Int
 gv:Int
instance : Inhabited b9 := ⟨⟨0, 0, 0⟩⟩
structure fU where
 fr:Int
 tqq : Int
 key:Bool
 closed:Bool
 begin:Int
 fin:Int
instance : Inhabited fU := ⟨⟨0, 0, false, false, 0, 0⟩⟩
structure ci where
 time:Int
 j4:Int
instance : Inhabited ci := ⟨⟨0, 0⟩⟩
structure cc where
 can:Bool
 sum:Int
 many:Int
 next:Int
instance : Inhabited cc := ⟨⟨false, 0, 0, 0⟩⟩
structure aR where
 group:ByteArray
 name:ByteArray
 gM:ByteArray
 fH:Bool
 uri:ByteArray
instance : Inhabited aR := ⟨⟨⟨#[]⟩, ⟨#[]⟩, ⟨#[]⟩, false, ⟨#[]⟩⟩⟩
structure bu where
 name:ByteArray
 uri:ByteArray
 ip:Int
 jm:Int
 width:Int
 dL:Int
 sound:ByteArray
instance : Inhabited bu := ⟨⟨⟨#[]⟩, ⟨#[]⟩, 0, 0, 0, 0, ⟨#[]⟩⟩⟩
structure kJ where
 streams:List bu
 cG:List aR
instance : Inhabited kJ := ⟨⟨[], []⟩⟩
namespace M
abbrev vI (n:Int):AV:= .v (.int .i64 n)
abbrev vU (n:Int):AV:= .v (.int .u8 n)
abbrev vB (b:Bool):AV:= .v (.bool b)
abbrev vS (s:ByteArray):AV:= .v (.string s)
def au:Nat->Option GR:=fun g=>match bk g 2 with
 | true=>some ⟨[],fun cs=>∀c,c<256->cs[c]? = some (bh .u8 (Lib.firstT c))⟩
 | false=>match bk g 3 with
  | true=>some ⟨[],fun cs=>∀i,i<16->cs[2*i]? = some (bh .u8 (Lib.accLo i))/\cs[2*i+1]? = some (bh .u8 (Lib.accHi i))⟩
  | false=>match bk g 5 with
   | true=>some ⟨[],fun cs=>∃m,cs[0]? = some (bh .i64 m)⟩
   | false=>match bk g 4 with
    | true=>some ⟨[],fun cs=>cs=(Lib.pow10Tab.map fun z=>bh .u64 z).toArray⟩
    | false=>none
theorem cA {n:Int} (h1 : -9223372036854775808<=n) (h2:n<=9223372036854775807):am.wrap n=n:=by
 simp only[bQ,ii,fA]
 simp
 omega
theorem cg {a b:Nat} (h:a<=b):Nat.ble a b=true:=by rw[Nat.ble_eq];exact h
theorem mixed:Tryz.prog.follows .mixedOrders=true:=by kernel_rfl
theorem getD_at {α:Type} {xs:List α} {k:Nat} {y d:α} (h:xs[k]? = some y):xs.getD k d=y:=by simp[al,h]
theorem cy {α:Type} {xs:List α} {k:Nat} {y:α} (h:xs[k]? = some y):k<xs.length:=(cO.1 h).1
theorem ch {k n:Nat} (h:k<n) (hn:n<=9223372036854775807):am.wrap ((k:Int)+1)=((k+1:Nat):Int):=by
 rw[cA (by omega) (by omega)];rfl
theorem tw {a b:Int} (h:0<=a):a.tdiv b=a / b:=Int.tdiv_eq_ediv_of_nonneg h
theorem bA {k n:Nat} (h:k<n):decide ((k:Int)<(n:Int))=true:=aj (by omega)
theorem gJ {n:Nat}:decide ((n:Int)<(n:Int))=false:=aH (by omega)
theorem cR {x:Int} (h:x=0):(x != 0)=false:=by simp[h]
theorem cP {x:Int} (h : ¬x=0):(x != 0)=true:=by simp[h]
def aC (s:ByteArray):Row:=[vS s]
def eI (n:Int):Row:=[vI n]
def eB (b:Bool):Row:=[vB b]
theorem ai7 (a b:ByteArray) (h:aC a=aC b):a=b:=by
 simp only[aC]at h
 grind
theorem ai8 (a b:Int) (h:eI a=eI b):a=b:=by
 simp only[eI]at h
 grind
theorem iL {a b:List ByteArray}:a.map aC=b.map aC↔a=b:=jR ai7
theorem cY {a b:List Int}:a.map eI=b.map eI↔a=b:=jR ai8
theorem jV (xs:List ByteArray):ac (ab aC) (xs.map aC)=some xs:=ax (fun a b h=>iL.1 h) xs rfl
theorem eR (xs:List Int):ac (ab eI) (xs.map eI)=some xs:=ax (fun a b h=>cY.1 h) xs rfl
theorem MM (xs:List Int) (n:Int):xs.map eI++[[vI n]]=(xs++[n]).map eI:=by simp[eI]
theorem ai9 (xs:List ByteArray) (s:ByteArray):xs.map aC++[[vS s]]=(xs++[s]).map aC:=by simp[aC]
theorem MN (xs:List Int):((xs.map eI).all fun r=>bk (ae r) 1)=true:=by simp[eI]
theorem aja (xs:List ByteArray):((xs.map aC).all fun r=>bk (ae r) 1)=true:=by simp[aC]
def GM (l:List Int):Row:=[.sl (l.map eI)]
theorem aF3 (a b:List Int) (h:GM a=GM b):a=b:=by
 simp only[GM]at h
 simp[cY]at h
 exact h
def aq (x:ay):Row:=[vI x.fr,vI x.tqq, .sl (x.lines.map aC),vI x.row,vB x.cZ,vB x.dl]
theorem Xh (a b:ay) (h:aq a=aq b):a=b:=by
 obtain⟨a0,a1,a2,a3,a4,a5⟩:=a
 obtain⟨b0,b1,b2,b3,b4,b5⟩:=b
 simp only[aq]at h
 simp[iL]at h
 simp_all
theorem dT {a b:List ay}:a.map aq=b.map aq↔a=b:=jR Xh
theorem MO {a b:ay}:aq a=aq b↔a=b:=⟨Xh a b,fun h=>h▸rfl⟩
theorem iM (xs:List ay):ac (ab aq) (xs.map aq)=some xs:=ax (fun a b h=>dT.1 h) xs rfl
theorem jg (x:ay):ay.mk x.fr x.tqq x.lines x.row x.cZ x.dl=x:=rfl
theorem Xi (xs:List ay) (x_fr:Int) (x_to:Int) (x_lines:List ByteArray) (x_row:Int) (x_bef:Bool) (x_aft:Bool):xs.map aq++[[vI x_fr,vI x_to, .sl (x_lines.map aC),vI x_row,vB x_bef,vB x_aft]]=(xs++[(ay.mk x_fr x_to x_lines x_row x_bef x_aft)]).map aq:=by simp[aq]
theorem GN (xs:List ay) (i:Nat) (x_fr:Int) (x_to:Int) (x_lines:List ByteArray) (x_row:Int) (x_bef:Bool) (x_aft:Bool):(xs.map aq).set i [vI x_fr,vI x_to, .sl (x_lines.map aC),vI x_row,vB x_bef,vB x_aft]=(xs.set i (ay.mk x_fr x_to x_lines x_row x_bef x_aft)).map aq:=by simp[aq,List.map_set]
def fm (l:List ay):Row:=[.sl (l.map aq)]
theorem ajb (a b:List ay) (h:fm a=fm b):a=b:=by
 simp only[fm]at h
 simp[dT]at h
 exact h
theorem GO {a b:List (List ay)}:a.map fm=b.map fm↔a=b:=jR ajb
theorem MP (xs:List (List ay)):ac (ab fm) (xs.map fm)=some xs:=ax (fun a b h=>GO.1 h) xs rfl
theorem ajc (xs:List (List ay)) (l:List ay):xs.map fm++[[.sl (l.map aq)]]=(xs++[l]).map fm:=by simp[fm]
def bj (x:aK):Row:=[vI x.number,vI x.fr,vI x.tqq,vI x.begin,vI x.length,vI x.bytes,vI x.lead]
theorem Xj (a b:aK) (h:bj a=bj b):a=b:=by
 obtain⟨a0,a1,a2,a3,a4,a5,a6⟩:=a
 obtain⟨b0,b1,b2,b3,b4,b5,b6⟩:=b
 simp only[bj]at h
 simp[]at h
 simp_all
theorem jW {a b:List aK}:a.map bj=b.map bj↔a=b:=jR Xj
theorem Xk {a b:aK}:bj a=bj b↔a=b:=⟨Xj a b,fun h=>h▸rfl⟩
theorem jh (xs:List aK):ac (ab bj) (xs.map bj)=some xs:=ax (fun a b h=>jW.1 h) xs rfl
theorem tx (x:aK):aK.mk x.number x.fr x.tqq x.begin x.length x.bytes x.lead=x:=rfl
def b8 (l:List aK):Row:=[.sl (l.map bj)]
theorem ajd (a b:List aK) (h:b8 a=b8 b):a=b:=by
 simp only[b8]at h
 simp[jW]at h
 exact h
theorem pv {a b:List (List aK)}:a.map b8=b.map b8↔a=b:=jR ajd
theorem tz (xs:List (List aK)):ac (ab b8) (xs.map b8)=some xs:=ax (fun a b h=>pv.1 h) xs rfl
theorem aje (xs:List (List aK)) (l:List aK):xs.map b8++[[.sl (l.map bj)]]=(xs++[l]).map b8:=by simp[b8]
def bm (x:cb):Row:=[vS x.uri,vI x.eK,vB x.brk,vI x.date,vS x.key,vB x.kK, .sl (x.dz.map aC)]
theorem Xl (a b:cb) (h:bm a=bm b):a=b:=by
 obtain⟨a0,a1,a2,a3,a4,a5,a6⟩:=a
 obtain⟨b0,b1,b2,b3,b4,b5,b6⟩:=b
 simp only[bm]at h
 simp[iL]at h
 simp_all
theorem ri {a b:List cb}:a.map bm=b.map bm↔a=b:=jR Xl
theorem Xm {a b:cb}:bm a=bm b↔a=b:=⟨Xl a b,fun h=>h▸rfl⟩
theorem tA (xs:List cb):ac (ab bm) (xs.map bm)=some xs:=ax (fun a b h=>ri.1 h) xs rfl
theorem CQ (x:cb):cb.mk x.uri x.eK x.brk x.date x.key x.kK x.dz=x:=rfl
def cd (x:bH):Row:=[vI x.target,vI x.first,vI x.breaks, .sl (x.entries.map bm),vB x.ended]
theorem Xn (a b:bH) (h:cd a=cd b):a=b:=by
 obtain⟨a0,a1,a2,a3,a4⟩:=a
 obtain⟨b0,b1,b2,b3,b4⟩:=b
 simp only[cd]at h
 simp[ri]at h
 simp_all
theorem GP {a b:List bH}:a.map cd=b.map cd↔a=b:=jR Xn
theorem nT {a b:bH}:cd a=cd b↔a=b:=⟨Xn a b,fun h=>h▸rfl⟩
theorem ajf (xs:List bH):ac (ab cd) (xs.map cd)=some xs:=ax (fun a b h=>GP.1 h) xs rfl
theorem MQ (x:bH):bH.mk x.target x.first x.breaks x.entries x.ended=x:=rfl
def cw (x:dK):Row:=[vI x.number,vS x.entry.uri,vI x.entry.eK,vB x.entry.brk,vI x.entry.date,vS x.entry.key,vB x.entry.kK, .sl (x.entry.dz.map aC)]
theorem ajg (a b:dK) (h:cw a=cw b):a=b:=by
 obtain⟨a0,⟨a1_0,a1_1,a1_2,a1_3,a1_4,a1_5,a1_6⟩⟩:=a
 obtain⟨b0,⟨b1_0,b1_1,b1_2,b1_3,b1_4,b1_5,b1_6⟩⟩:=b
 simp only[cw]at h
 simp[iL]at h
 simp_all
theorem GQ {a b:List dK}:a.map cw=b.map cw↔a=b:=jR ajg
theorem Xo (xs:List dK):ac (ab cw) (xs.map cw)=some xs:=ax (fun a b h=>GQ.1 h) xs rfl
theorem ajh (x:dK):dK.mk x.number x.entry=x:=rfl
theorem aji (xs:List dK):((xs.map cw).all fun r=>bk (ae r) 8)=true:=by simp[cw]
def lB (x:dQ):Row:=[vB x.begun,vI x.next,vI x.last.target,vI x.last.first,vI x.last.breaks, .sl (x.last.entries.map bm),vB x.last.ended, .sl (x.queue.map cw),vI x.lost]
theorem ajj (a b:dQ) (h:lB a=lB b):a=b:=by
 obtain⟨a0,a1,⟨a2_0,a2_1,a2_2,a2_3,a2_4⟩,a3,a4⟩:=a
 obtain⟨b0,b1,⟨b2_0,b2_1,b2_2,b2_3,b2_4⟩,b3,b4⟩:=b
 simp only[lB]at h
 simp[ri,GQ]at h
 simp_all
theorem GS {a b:dQ}:lB a=lB b↔a=b:=⟨ajj a b,fun h=>h▸rfl⟩
theorem MR (x:dQ):dQ.mk x.begun x.next x.last x.queue x.lost=x:=rfl
def aQ (x:bI):Row:=[vI x.time,vI x.step,vI x.shift,vI x.size,vB x.key]
theorem ajk (a b:bI) (h:aQ a=aQ b):a=b:=by
 obtain⟨a0,a1,a2,a3,a4⟩:=a
 obtain⟨b0,b1,b2,b3,b4⟩:=b
 simp only[aQ]at h
 simp[]at h
 simp_all
theorem jX {a b:List bI}:a.map aQ=b.map aQ↔a=b:=jR ajk
theorem mf (xs:List bI):ac (ab aQ) (xs.map aQ)=some xs:=ax (fun a b h=>jX.1 h) xs rfl
theorem Xp (xs:List bI):((xs.map aQ).all fun r=>bk (ae r) 5)=true:=by simp[aQ]
def aE (x:Std):Row:=[vS x.name,vI x.aU,vB x.sound, .sl (x.aL.map aQ)]
theorem Xq (a b:Std) (h:aE a=aE b):a=b:=by
 obtain⟨a0,a1,a2,a3⟩:=a
 obtain⟨b0,b1,b2,b3⟩:=b
 simp only[aE]at h
 simp[jX]at h
 simp_all
theorem gT {a b:List Std}:a.map aE=b.map aE↔a=b:=jR Xq
theorem mZ {a b:Std}:aE a=aE b↔a=b:=⟨Xq a b,fun h=>h▸rfl⟩
theorem gK (xs:List Std):ac (ab aE) (xs.map aE)=some xs:=ax (fun a b h=>gT.1 h) xs rfl
theorem m0 (x:Std):Std.mk x.name x.aU x.sound x.aL=x:=rfl
theorem Xr (xs:List Std):((xs.map aE).all fun r=>bk (ae r) 4)=true:=by simp[aE]
def cp (x:cv):Row:=[vI x.width,vI x.dL]
theorem Xs (a b:cv) (h:cp a=cp b):a=b:=by
 obtain⟨a0,a1⟩:=a
 obtain⟨b0,b1⟩:=b
 simp only[cp]at h
 simp[]at h
 simp_all
theorem nU {a b:List cv}:a.map cp=b.map cp↔a=b:=jR Xs
theorem ajl {a b:cv}:cp a=cp b↔a=b:=⟨Xs a b,fun h=>h▸rfl⟩
theorem GU (xs:List cv):ac (ab cp) (xs.map cp)=some xs:=ax (fun a b h=>nU.1 h) xs rfl
theorem MS (x:cv):cv.mk x.width x.dL=x:=rfl
def gU (x:b9):Row:=[vI x.aU,vI x.target,vI x.gv]
theorem ajm (a b:b9) (h:gU a=gU b):a=b:=by
 obtain⟨a0,a1,a2⟩:=a
 obtain⟨b0,b1,b2⟩:=b
 simp only[gU]at h
 simp[]at h
 simp_all
theorem pw {a b:b9}:gU a=gU b↔a=b:=⟨ajm a b,fun h=>h▸rfl⟩
theorem px (x:b9):b9.mk x.aU x.target x.gv=x:=rfl
def eJ (x:fU):Row:=[vI x.fr,vI x.tqq,vB x.key,vB x.closed,vI x.begin,vI x.fin]
theorem ajn (a b:fU) (h:eJ a=eJ b):a=b:=by
 obtain⟨a0,a1,a2,a3,a4,a5⟩:=a
 obtain⟨b0,b1,b2,b3,b4,b5⟩:=b
 simp only[eJ]at h
 simp[]at h
 simp_all
theorem GV {a b:List fU}:a.map eJ=b.map eJ↔a=b:=jR ajn
theorem MT (xs:List fU):ac (ab eJ) (xs.map eJ)=some xs:=ax (fun a b h=>GV.1 h) xs rfl
def b7 (x:ci):Row:=[vI x.time,vI x.j4]
theorem ajo (a b:ci) (h:b7 a=b7 b):a=b:=by
 obtain⟨a0,a1⟩:=a
 obtain⟨b0,b1⟩:=b
 simp only[b7]at h
 simp[]at h
 simp_all
theorem rj {a b:List ci}:a.map b7=b.map b7↔a=b:=jR ajo
theorem rk (xs:List ci):ac (ab b7) (xs.map b7)=some xs:=ax (fun a b h=>rj.1 h) xs rfl
def cF (x:cc):Row:=[vB x.can,vI x.sum,vI x.many,vI x.next]
theorem Xt (a b:cc) (h:cF a=cF b):a=b:=by
 obtain⟨a0,a1,a2,a3⟩:=a
 obtain⟨b0,b1,b2,b3⟩:=b
 simp only[cF]at h
 simp[]at h
 simp_all
theorem CR {a b:List cc}:a.map cF=b.map cF↔a=b:=jR Xt
theorem ajp {a b:cc}:cF a=cF b↔a=b:=⟨Xt a b,fun h=>h▸rfl⟩
theorem xg (xs:List cc):ac (ab cF) (xs.map cF)=some xs:=ax (fun a b h=>CR.1 h) xs rfl
theorem ajq (x:cc):cc.mk x.can x.sum x.many x.next=x:=rfl
theorem ajr (xs:List cc) (i:Nat) (x_can:Bool) (x_sum:Int) (x_many:Int) (x_next:Int):(xs.map cF).set i [vB x_can,vI x_sum,vI x_many,vI x_next]=(xs.set i (cc.mk x_can x_sum x_many x_next)).map cF:=by simp[cF,List.map_set]
def bg (x:aR):Row:=[vS x.group,vS x.name,vS x.gM,vB x.fH,vS x.uri]
theorem Xu (a b:aR) (h:bg a=bg b):a=b:=by
 obtain⟨a0,a1,a2,a3,a4⟩:=a
 obtain⟨b0,b1,b2,b3,b4⟩:=b
 simp only[bg]at h
 simp[]at h
 simp_all
theorem iN {a b:List aR}:a.map bg=b.map bg↔a=b:=jR Xu
theorem nV {a b:aR}:bg a=bg b↔a=b:=⟨Xu a b,fun h=>h▸rfl⟩
theorem tB (xs:List aR):ac (ab bg) (xs.map bg)=some xs:=ax (fun a b h=>iN.1 h) xs rfl
theorem py (x:aR):aR.mk x.group x.name x.gM x.fH x.uri=x:=rfl
theorem ajs (xs:List aR):((xs.map bg).all fun r=>bk (ae r) 5)=true:=by simp[bg]
def bO (x:bu):Row:=[vS x.name,vS x.uri,vI x.ip,vI x.jm,vI x.width,vI x.dL,vS x.sound]
theorem Xv (a b:bu) (h:bO a=bO b):a=b:=by
 obtain⟨a0,a1,a2,a3,a4,a5,a6⟩:=a
 obtain⟨b0,b1,b2,b3,b4,b5,b6⟩:=b
 simp only[bO]at h
 simp[]at h
 simp_all
theorem oJ {a b:List bu}:a.map bO=b.map bO↔a=b:=jR Xv
theorem pz {a b:bu}:bO a=bO b↔a=b:=⟨Xv a b,fun h=>h▸rfl⟩
theorem MU (xs:List bu):ac (ab bO) (xs.map bO)=some xs:=ax (fun a b h=>oJ.1 h) xs rfl
theorem rl (x:bu):bu.mk x.name x.uri x.ip x.jm x.width x.dL x.sound=x:=rfl
theorem ajt (xs:List bu):((xs.map bO).all fun r=>bk (ae r) 7)=true:=by simp[bO]
def jY (x:kJ):Row:=[.sl (x.streams.map bO), .sl (x.cG.map bg)]
theorem aju (a b:kJ) (h:jY a=jY b):a=b:=by
 obtain⟨a0,a1⟩:=a
 obtain⟨b0,b1⟩:=b
 simp only[jY]at h
 simp[iN,oJ]at h
 simp_all
theorem MV {a b:kJ}:jY a=jY b↔a=b:=⟨aju a b,fun h=>h▸rfl⟩
def bp:List Lk:=[⟨9,im aC ⟨#[]⟩⟩,⟨3,im eI 0⟩,⟨36,im eI 0⟩,⟨129,im aq default⟩,⟨27,im GM []⟩,⟨26,im fm []⟩,⟨50,im bj default⟩,⟨53,im bm default⟩,⟨55,im cw default⟩,⟨214,im aQ default⟩,⟨64,im aE default⟩,⟨103,im cp default⟩,⟨219,im eJ default⟩,⟨170,im b7 default⟩,⟨177,im cF default⟩,⟨116,im bg default⟩,⟨118,im bO default⟩,⟨48,im b8 []⟩,⟨42,im cd default⟩]
theorem m6 : ∀x∈bp,GK x:=by
 simp only[bp,gQ]
 exact⟨iK,iK,iK,iK,iK,iK,iK,iK,iK,iK,iK,iK,iK,iK,iK,iK,iK,iK,iK,by simp⟩
end M
end Go.Proofs.YtaobkfpnebbohaaGreatDoor
namespace Go.Proofs.YtaobkfpnebbohaaGreatDoor.M
open Go.ChangeShapes Go.WideShapes Go.ChangeAt Go.RowKit Go.Deep
set_option linter.unusedVariables false
set_option linter.unusedSimpArgs false
def dU (w:World):Nat->Prop:=fun b=>b<w.heap.size
def GW {α:Type} (P:Program) (t:TypeId) (E:α->List AV) (K:α->Prop):Prop:=
 ∀(H:Type) (enc:TypeId×Value->H) (w:World) (fuel:Nat) (cs:List Value) (d:DataW H) (p:List MemPlace),
  agB enc P w 0 (fun _=>true) true fuel t cs=some (d,p)->(∀n∈d.weights P t,n<=reachBytes) -> ∃x,RL (R0 w (dU w)) (E x) cs/\K x
def cI (n:Int):List AV:=[.v (.int .i64 n)]
def cB (b:Bool):List AV:=[.v (.bool b)]
def cS (s:ByteArray):List AV:=[.v (.string s)]
def oK {α:Type} (E:α->List AV) (xs:List α):List AV:=[.sl (xs.map E)]
theorem ajv {P:Program} {t:TypeId} (ht:P.underlying t=some (.int .i64)):GW P t cI (fun _=>True):=by
 intro H enc w fuel cs d p h hw
 obtain⟨n,rfl,_,hn⟩:=DataW.trod_int ht h
 refine⟨n,⟨.v ?_,trivial⟩,trivial⟩
 have:=bounds_i64 hn
 simp only[dh,jB,iX,ii,fA]
 simp
 omega
theorem ajw {P:Program} {t:TypeId} (ht:P.underlying t=some .bool):GW P t cB (fun _=>True):=by
 intro H enc w fuel cs d p h hw
 obtain⟨n,rfl,_⟩:=DataW.trod_bool ht h
 exact⟨n,⟨.v trivial,trivial⟩,trivial⟩
theorem MW {H:Type} {P:Program} {e:TypeId} {d:DataW H} : ∀ {l:List (DataW H)},d∈l -> ∀n∈d.weights P e,n∈DataW.weightsAll P e l
 | x::r,h,n,hn=>by
  simp only[DataW.weightsAll,dn]
  rcases cK.1 h with rfl | h
  .exact .inl hn
  .exact .inr (MW h n hn)
theorem Xw {α:Type} {Q:Nat->α->Prop} : ∀(n:Nat),(∀i,i<n -> ∃x,Q i x) -> ∃xs:List α,xs.length=n /\ ∀i x,xs[i]? = some x->Q i x
 | 0,_=>⟨[],rfl,fun i x h=>by simp at h⟩
 | n+1,h=>by
  obtain⟨xs,hl,hx⟩:=Xw n fun i hi=>h i (by omega)
  obtain⟨y,hy⟩:=h n (by omega)
  refine⟨xs++[y],by simp[hl],fun i x hi=>?_⟩
  rw[KY]at hi
  split at hi
  .exact hx i x hi
  .have hlt:=(cO.1 hi).1
   have:i=n:=by simp at hlt;omega
   subst this
   rw[hl]at hi
   simp at hi
   subst hi
   exact hy
theorem ajx {w:World} {b o:Nat} {v:Value} (h:w.cell? ⟨b,o,none⟩=some v):b<w.heap.size:=by
 simp only[lW]at h
 cases hb:w.heap[b]? with
 | none=>rw[hb]at h;cases h
 | some x=>exact(ph.1 hb).1
theorem CS {H:Type} {P:Program} : ∀ {ts:List TypeId} {ds:List (DataW H)} {j:Nat} {t:TypeId} {d:DataW H},ts[j]? = some t->ds[j]? = some d -> ∀n∈d.weights P t,n∈DataW.weightsEach P ts ds:=
 DataW.weights_mem_each
theorem MX {α:Type} {P:Program} {G:Nat->Option GR} {f:FuncId} {flat:Bool} {enc:α->List AV} {pre:α->Bool} {cT:α->AV×Heap} (h:aX P G (aY f flat enc pre cT)) (hi : ∀a a',enc a=enc a'->a=a') (a:α) (hp:pre a=true) :
  dy P G f (enc a) (cT a).1 (cT a).2:=by
 refine h.spec (enc a) _ _ ?_
 simp only[aY,ax hi a rfl,T.val,hp]
theorem ajy {P:Program} {G:Nat->Option GR} {f:FuncId} {args:List AV} {W:World} (h:dy P G f args (.v (.bool true)) []) (hG : ∀g r,G g=some r->iJ W (dU W) g r) {cargs:List Value} (hargs:RL (RV W (dU W) dP) args cargs) :
  Calls P f cargs.toArray W fun e W1=>e = .returned (.bool true)/\Below W.heap.size W W1:=by
 refine(h W (dU W) cargs (fun _ h=>h) hG hargs).mono ?_
 rintro e W1 ⟨v,S',β',rfl,hb,_,_,_,_,_,_,_,hr⟩
 rw[(dD hr).1]
 exact⟨rfl,hb⟩
theorem dy.GX {P:Program} {G:Nat->Option GR} {f:FuncId} {x y r:Value} (hr:dh r) (h:dh x->dh y -> ∀w,Calls P f #[x,y] w fun e w'=>e = .returned r/\w'=w):dy P G f [.v x, .v y] (.v r) []:=by
 intro w S cargs hlt hg hargs
 match cargs,hargs with
 | [u,v],⟨h1,h2,_⟩=>
  obtain⟨rfl,k1⟩:=dD h1
  obtain⟨rfl,k2⟩:=dD h2
  refine(h k1 k2 w).mono ?_
  rintro e w' ⟨rfl,rfl⟩
  exact⟨r,S,dP,rfl,qw _ _,fun _ h=>h,fun _ h=> .inl h,hlt,(fun _ _ _ _ h=>by cases h),(fun _ _ h=>by cases h),(fun _ _ h=>by cases h),(fun _ _ h=>by cases h),dO hr⟩
theorem ajz {w:World} {S:Nat->Prop} {cs:List AV} {vs:Array Value} (h:RL (R0 w S) cs vs.toList):RV w S dP (.agg cs) (.agg vs):=⟨vs.toList,by simp,h.imp fun _ _ _ h=>h.rc⟩
theorem MY {w:World} {S:Nat->Prop} {rows:List Row} {v:Value} (h:RL (R0 w S) [.sl rows] [v]):RV w S dP (.sl rows) v:=h.1
theorem ajA {w:World} {S:Nat->Prop} {n:Int} (h:(Lit.int .i64 n).wf=true):RV w S dP (.v (.int .i64 n)) (.int .i64 n):=by
 refine dO ?_
 have:=bounds_i64 h
 simp only[dh,jB,iX,ii,fA]
 simp
 omega
end Go.Proofs.YtaobkfpnebbohaaGreatDoor.M
namespace Go.Proofs.YtaobkfpnebbohaaGreatDoor.M
open Go.ChangeShapes Go.WideShapes Go.ChangeAt Go.RowKit Go.Deep
set_option linter.unusedVariables false
set_option linter.unusedSimpArgs false
theorem lC.one_le {H:Type} (d:DataW H):1<=Rows.uptoBulk d:=by
 cases d with
 | lit l=>cases l<;>simp[Rows.uptoBulk]
 | nil=>simp[Rows.uptoBulk]
 | ptr d=>simp[Rows.uptoBulk]
 | slice elems spare=>simp[Rows.uptoBulk]
 | agg parts=>simp[Rows.uptoBulk]
 | iface t d=>simp[Rows.uptoBulk]
 | map entries=>simp[Rows.uptoBulk]
 | held h=>simp[Rows.uptoBulk]
theorem lC.rm {H:Type} {d:DataW H} {l:List (DataW H)} (h:d∈l):Rows.uptoBulk d<=Rows.uptoBulkAll l:=by
 induction l with
 | nil=>cases h
 | cons x r ih=>
  simp only[Rows.uptoBulkAll]
  cases cK.1 h with
  | inl e=>subst e;omega
  | inr e=>have:=ih e;omega
theorem lC.length_le {H:Type} (l:List (DataW H)):l.length<=Rows.uptoBulkAll l:=by
 induction l with
 | nil=>simp[Rows.uptoBulkAll]
 | cons x r ih=>have:=lC.one_le x;simp only[Rows.uptoBulkAll,gq];omega
theorem lC.ajB {H:Type} {l:List (DataW H)} (hk:Rows.uptoSmall H l=true):Rows.uptoBulkAll l<=1048576:=by
 simpa[Rows.uptoSmall]using hk
def ji {α:Type} (P:Program) (t:TypeId) (E:α->List AV) (K:α->Prop):Prop:=
 ∀(H:Type) (enc:TypeId×Value->H) (w:World) (fuel:Nat) (cs:List Value) (d:DataW H) (p:List MemPlace),
  agB enc P w 0 (fun _=>true) true fuel t cs=some (d,p)->(∀n∈d.weights P t,n<=reachBytes)->Rows.uptoBulk d<=1048576 -> ∃x,RL (R0 w (dU w)) (E x) cs/\K x
theorem GW.small {α:Type} {P:Program} {t:TypeId} {E:α->List AV} {K:α->Prop} (h:GW P t E K):ji P t E K:=
 fun H enc w fuel cs d p h1 h2 _=>h H enc w fuel cs d p h1 h2
def rn (s:ByteArray):Prop:=s.size<=1048576
theorem ajC {P:Program} {t:TypeId} (ht:P.underlying t=some .string):ji P t cS rn:=by
 intro H enc w fuel cs d p h hw hb
 obtain⟨n,rfl,hd,hn⟩:=DataW.trod_string ht h
 refine⟨n,⟨.v hn,trivial⟩,?_⟩
 unfold rn
 first | (obtain⟨rfl,_⟩:=Prod.mk.inj hd) | (obtain rfl:=hd) | (have hd:=congrArg Prod.fst hd;simp only at hd;subst hd)
 simp only[Rows.uptoBulk]at hb
 have:n.data.toList.length=n.size:=by simp
 omega
def KU {α:Type} (K:α->Prop) (xs:List α):Prop:=xs.length<=1048576 /\ ∀x∈xs,K x
theorem CT {α:Type} {P:Program} {t e:TypeId} {size bytes:Nat} {E:α->List AV} {K:α->Prop} (ht:P.underlying t=some (.slice e)) (hs:P.cellsOf e=size) (hb:P.bytesOf e=bytes) (h0:0<size) (hE : ∀x,(E x).length=size)
  (he:ji P e E K):ji P t (oK E) (KU K):=by
 intro H enc w fuel cs d p h hw hbk
 rcases open_slice ht h with ⟨rfl,hx⟩ | ⟨a,len,cap,m,n,D,Pl,rfl,_,hl,hm,hmm,hx,hi⟩
 .refine⟨[],⟨?_,trivial⟩,by simp[],by simp⟩
  exact R0.sl (rows:=[]) (size:=0) (b:=0) (off:=0) (vals:=fun _ _=> .nilFunc) (by simp) (by simp) (by simp) (by simp) (by simp) (by simp)
 .simp only[if_true]at hmm
  subst hmm
  simp only[ny]at hx
  obtain⟨rfl,_⟩:=hx
  have hwt : ∀i,i<m -> ∀k∈(D i).weights P e,k<=reachBytes:=by
   intro i him k hk
   refine hw k ?_
   simp only[agD,ht,cK,dn]
   rcases Nat.lt_or_ge i len with hlt | hge
   .exact .inr (.inl (MW (by simp;exact⟨i,hlt,rfl⟩) k hk))
   .exact .inr (.inr (MW (by simp;exact⟨i - len,by omega,by congr 1;omega⟩) k hk))
  have hbl : ∀i,i<m->Rows.uptoBulk (D i)<=1048576:=by
   intro i him
   rcases Nat.lt_or_ge i len with hlt | hge
   .refine iW (lC.rm (l:=(gG len).map D) (by simp;exact⟨i,hlt,rfl⟩)) ?_
    simp only[Rows.uptoBulk]at hbk;omega
   .refine iW (lC.rm (l:=(gG (m - len)).map fun i=>D (len+i)) (by simp;exact⟨i - len,by omega,by congr 1;omega⟩)) ?_
    simp only[Rows.uptoBulk]at hbk;omega
  have hlen:len<=1048576:=by
   have:=lC.length_le ((gG len).map D)
   simp only[Rows.uptoBulk]at hbk
   rw[aN,sN]at this
   omega
  have hown:(len+(m - len))*bytes<=reachBytes:=by
   refine hw _ ?_
   simp only[agD,ht,aN,sN,hb]
   exact dN
  obtain⟨xs,hxl,hxs⟩:=Xw (Q:=fun i x=>∃b off cs',a=⟨b,off,none⟩/\b<w.heap.size/\RL (R0 w (dU w)) (E x) cs'/\K x/\cs'.length=size /\ ∀j v,cs'[j]? = some v->w.cell? ⟨b,off+i*size+j,none⟩=some v) len (by
   intro i hi'
   obtain⟨cs',hc,ht'⟩:=hi i (by omega)
   obtain⟨_,hcl,hat⟩:=aFG hc
   rw[hs]at hcl hat
   obtain⟨x,hx,hk⟩:=he H enc w n cs' _ _ ht' (hwt i (by omega)) (hbl i (by omega))
   obtain⟨b,off,spot⟩:=a
   obtain⟨cs0,hc0,_⟩:=hi 0 (by omega)
   obtain⟨_,hcl0,hat0⟩:=aFG hc0
   rw[hs]at hcl0 hat0
   have hz0:=hat0 0 h0
   rw[bC (by omega)]at hz0
   have hspot:=World.cell?_spot hz0
   have hspot':spot=none:=by simpa[Addr.add]using hspot
   subst hspot'
   have dJ : ∀j v,cs'[j]? = some v->w.cell? ⟨b,off+i*size+j,none⟩=some v:=by
    intro j v hv
    have hj:j<size:=by rw[<-hcl];exact(cO.1 hv).1
    have:=hat j hj
    rw[hv]at this
    rw[<-this]
    congr 1
    simp only[Addr.add]
    by_cases h1:i*size=0<;>by_cases h2:j=0<;>simp[h1,h2]<;>omega
   have hin:=ajx (dJ 0 _ (bC (by omega)))
   exact⟨x,b,off,cs',rfl,hin,hx,hk,hcl,dJ⟩)
  have hr:reachBytes=140737488351232:=rfl
  have hlm:len<=len+(m - len):=by omega
  have h47:len*bytes<=140737488351232:=by
   have:=Nat.mul_le_mul_right bytes hlm
   omega
  have hm':m<=9223372036854775807:=by have:m<=maxLen:=hm;simpa[maxLen]using this
  refine⟨xs,⟨?_,trivial⟩,by rw[hxl];exact hlen,fun x hx=>?_⟩
  .obtain⟨b,off,spot⟩:=a
   have hval : ∀(i:Nat),∃cs':List Value,∀x,xs[i]? = some x->spot=none/\b<w.heap.size/\RL (R0 w (dU w)) (E x) cs' /\ ∀j v,cs'[j]? = some v->w.cell? ⟨b,off+i*size+j,none⟩=some v:=by
    intro i
    cases hx:xs[i]? with
    | none=>exact⟨[],fun x h=>by cases h⟩
    | some x=>
     obtain⟨b',off',cs',e1,h1,h2,h3,h4,h5⟩:=hxs i x hx
     cases e1
     exact⟨cs',fun y hy=>by cases hy;exact⟨rfl,h1,h2,h5⟩⟩
   let vals:Nat->Nat->Value:=fun i j=>((La (hval i))[j]?).getD .nilFunc
   have hv:=fun i=>Lb (hval i)
   have hne:xs.map E≠[]->spot=none/\b<w.heap.size:=by
    intro hn
    cases xs with
    | nil=>exact absurd rfl hn
    | cons x xs=>
     obtain⟨q1,q2,_⟩:=hv 0 x rfl
     exact⟨q1,q2⟩
   have key : ∀(i j:Nat) (row:Row) (c:AV),(xs.map E)[i]? = some row->row[j]? = some c->w.cell? ⟨b,off+i*size+j,none⟩=some (vals i j)/\R0 w (dU w) c (vals i j):=by
    intro i j row c hi hj
    simp only[dM,eZ]at hi
    obtain⟨x,hx,rfl⟩:=hi
    obtain⟨_,_,h2,h5⟩:=hv i x hx
    obtain⟨v,hv1,hv2⟩:=h2.get hj
    have e:vals i j=v:=by show((La (hval i))[j]?).getD .nilFunc=v;rw[hv1];rfl
    rw[e]
    exact⟨h5 j v hv1,hv2⟩
   have hlen:(xs.map E).length=len:=by simp[hxl]
   have:=R0.sl (w:=w) (S:=dU w) (rows:=xs.map E) (A:=some ⟨b,off,spot⟩) (cap:=m) (size:=size) (b:=b) (off:=off) (vals:=vals) (by rw[hlen];omega) hm'
    (fun hn=>by obtain⟨q1,q2⟩:=hne hn;subst q1;exact⟨rfl,q2⟩)
    (fun i row hi=>by
     simp only[dM,eZ]at hi
     obtain⟨x,_,rfl⟩:=hi
     exact hE x)
    (fun i j row c hi hj=>(key i j row c hi hj).1) (fun i j row c hi hj=>(key i j row c hi hj).2)
   rw[hlen]at this
   exact this
  .obtain⟨i,hi⟩:=pg hx
   obtain⟨_,_,_,_,_,_,hk,_⟩:=hxs i x hi
   exact hk
theorem CU {H:Type} {enc:TypeId×Value->H} {P:Program} {w:World} {fuel:Nat} {t:TypeId} {cs:List Value} {d:DataW H} {p:List MemPlace} {fs:Array Field}
  (ht:P.underlying t=some (.struct fs)) (h:agB enc P w 0 (fun _=>true) true fuel t cs=some (d,p)) (hw : ∀n∈d.weights P t,n<=reachBytes) (hbk:Rows.uptoBulk d<=1048576) :
  cs.length=P.cellsOf t /\ ∀(i:Nat) (f:Field),fs[i]? = some f -> ∀ {α:Type} {E:α->List AV} {K:α->Prop},ji P f.type E K -> ∃x,RL (R0 w (dU w)) (E x) ((cs.drop f.offset).take (P.cellsOf f.type))/\K x:=by
 obtain⟨xs,n,_,hx,hl,hxl,hf⟩:=DataW.trod_struct ht h
 simp only[ny]at hx
 obtain⟨rfl,_⟩:=hx
 refine⟨hl,fun i f hi α E K hR=>?_⟩
 have h1:=hf i f hi
 have hlt:i<xs.length:=by rw[hxl];exact(ph.1 hi).1
 rw[bC hlt]at h1
 refine hR H enc w n _ _ _ h1 (fun k hk=>hw k ?_) ?_
 .simp only[agD,ht]
  refine CS (j:=i) ?_ ?_ k hk
  .simp[hi]
  .simp[bC hlt]
 .refine iW (lC.rm (l:=xs.map (·.1)) (eQ.2 ⟨xs[i],List.getElem_mem hlt,rfl⟩)) ?_
  simp only[Rows.uptoBulk]at hbk
  omega
theorem dy.CV {P:Program} {G:Nat->Option GR} {f:FuncId} {x:Value} {r:AV} {rv:Value} (hr : ∀w S,RV w S dP r rv)
  (h:dh x -> ∀w (S:Nat->Prop),(∀g r,G g=some r->iJ w S g r)->Calls P f #[x] w fun e w'=>e = .returned rv/\Below w.heap.size w w'):dy P G f [.v x] r []:=by
 intro w S cargs hlt hg hargs
 match cargs,hargs with
 | [u],⟨h1,_⟩=>
  obtain⟨rfl,k1⟩:=dD h1
  refine(h k1 w S hg).mono ?_
  rintro e w' ⟨rfl,hb⟩
  exact⟨rv,S,dP,rfl,hb,fun _ h=>h,fun _ h=> .inl h,fun b h=>l5 (hlt b h) hb.size,(fun _ _ _ _ h=>by cases h),(fun _ _ h=>by cases h),(fun _ _ h=>by cases h),(fun _ _ h=>by cases h),hr _ _⟩
theorem dy.GY {P:Program} {G:Nat->Option GR} {f:FuncId} {x y:Value} {r:AV} {rv:Value} (hr : ∀w S,RV w S dP r rv)
  (h:dh x->dh y -> ∀w (S:Nat->Prop),(∀g r,G g=some r->iJ w S g r)->Calls P f #[x,y] w fun e w'=>e = .returned rv/\Below w.heap.size w w'):dy P G f [.v x, .v y] r []:=by
 intro w S cargs hlt hg hargs
 match cargs,hargs with
 | [u,v],⟨h1,h2,_⟩=>
  obtain⟨rfl,k1⟩:=dD h1
  obtain⟨rfl,k2⟩:=dD h2
  refine(h k1 k2 w S hg).mono ?_
  rintro e w' ⟨rfl,hb⟩
  exact⟨rv,S,dP,rfl,hb,fun _ h=>h,fun _ h=> .inl h,fun b h=>l5 (hlt b h) hb.size,(fun _ _ _ _ h=>by cases h),(fun _ _ h=>by cases h),(fun _ _ h=>by cases h),(fun _ _ h=>by cases h),hr _ _⟩
theorem MZ {P:Program} {w:World} {n:String} {cs:Array Value} {g:Nat} (hn:P.globalNamed n=some g) (h:w.var? P n=some cs) : ∃ty o,w.heap[g]? = some (.cells cs ty o):=by
 simp only[World.var?,hn,ar]at h
 split at h
 .rename_i hh
  cases h
  exact⟨_,_,hh⟩
 .cases h
theorem GZ {w:World} {g:Nat} {cs:Array Value} {ty:TypeId} {o:Nat×Nat} {c:Array Value->Prop} (h:w.heap[g]? = some (.cells cs ty o)) (hc:c cs):iJ w (dU w) g ⟨[],c⟩:=
 ⟨(ph.1 h).1,cs,ty,o,h,fun j a ha=>by simp at ha,hc⟩
theorem iJ.cell {w:World} {S:Nat->Prop} {g:Nat} {r:GR} (h:iJ w S g r) : ∃cs,r.cond cs /\ ∀j,w.cell? ⟨g,j,none⟩=cs[j]?:=by
 obtain⟨cs,ty,o,h1,h2⟩:=h.cells
 exact⟨cs,h2,fun j=>by simp[lW,h1]⟩
end Go.Proofs.YtaobkfpnebbohaaGreatDoor.M
namespace Go.Proofs.YtaobkfpnebbohaaGreatDoor.M
open Go Go.RowKit
set_option linter.unusedVariables false
set_option linter.unusedSimpArgs false
theorem T.CW {α β:Type} : ∀(x:T α) (g:α->T β),(x.bind g).val=x.val.bind fun a=>(g a).val
 | .ret _,_=>rfl
 | .fail,_=>rfl
 | .bM b x y,g=>by
  cases b
  .exact T.CW y g
  .exact T.CW x g
 | .gS o f,g=>by
  cases o with
  | none=>rfl
  | some z=>exact T.CW (f z) g
theorem T.pA {α β:Type} {x y:T α} {g h:α->T β} (h1:x.val=y.val) (h2 : ∀a,(g a).val=(h a).val):(x.bind g).val=(y.bind h).val:=by
 rw[T.CW,T.CW,h1]
 cases y.val with
 | none=>rfl
 | some a=>exact h2 a
theorem T.M3 {α:Type} {b:Bool} {x y x' y':T α} (h1:b=true->x.val=x'.val) (h2:b=false->y.val=y'.val):(T.bM b x y).val=(T.bM b x' y').val:=by
 cases b
 .exact h2 rfl
 .exact h1 rfl
def pB:dG->Nat->AV->dG
 | [],_,_=>[]
 | (k,x)::r,n,v=>match bk n k with
  | true=>(k,v)::r
  | false=>(k,x)::pB r n v
theorem Xx : ∀ {t:dG} {d:Nat} {v:AV},an t d=some v->pB t d v=t
 | [],_,_,h=>by cases h
 | (k,x)::r,d,v,h=>by
  unfold an at h
  unfold pB
  split
  .rename_i hb
   rw[hb]at h
   simp only[eX]at h
   rw[h]
  .rename_i hb
   rw[hb]at h
   rw[Xx h]
theorem G0 {t:dG} {d:Nat} {v:AV} (h:bJ t d=v) (hv:v ≠ .bL):pB t d v=t:=by
 unfold bJ at h
 split at h
 .rename_i a ha
  rw[h]at ha
  exact Xx ha
 .exact absurd h.symm hv
def G1 (E:Env) (s:St) (o:Oper) (d:Nat) (f want:Bool) (v1 v0:AV):T (St×Option (List Nat×List Nat)):=
 match lq E s o d want with
 | true=>match (lm E (cM E (some (d,want)) s.t) (an s.h) o).val with
  | some p=>match LQ p.1 with
   | true=> .ret (⟨ff s.t o.dst (.gd d f want p.1),s.h⟩,some ([],[]))
   | false=> .fail
  | none=> .bM f .fail (iI ⟨pB s.t d v0,s.h⟩ o d want)
 | false=> .bM f (step1 E (some (d,want)) ⟨pB s.t d v1,s.h⟩ o) (iI ⟨pB s.t d v0,s.h⟩ o d want)
theorem Xy {E:Env} {s:St} {o:Oper} {d:Nat} {f want:Bool} {v1 v0:AV} (h1:f=true->pB s.t d v1=s.t) (h0:f=false->pB s.t d v0=s.t) :
  (G1 E s o d f want v1 v0).val=(guarded E s o d f want).val:=by
 unfold G1 guarded
 cases lq E s o d want with
 | true=>
  simp only
  cases(lm E (cM E (some (d,want)) s.t) (an s.h) o).val with
  | some p=>rfl
  | none=>exact T.M3 (fun _=>rfl) (fun h=>by rw[h0 h])
 | false=>exact T.M3 (fun h=>by rw[h1 h]) (fun h=>by rw[h0 h])
def G2 (E:Env) (ops:List Oper) (s:St) (o:Oper):T (St×Option (List Nat×List Nat)):=match o.guard with
 | none=>step1 E none s o
 | some (j,want)=>match nK ops j with
  | some d=>match bJ s.t d with
   | .v (.bool b)=>G1 E s o d (asked b want) want (.v (.bool want)) (.v (.bool (!want)))
   | .gd j' f w (.v (.bool b))=>G1 E s o d (f&&asked b want) want (.gd j' true w (.v (.bool want))) (.gd j' f w (.v (.bool b)))
   | .gd _ f _ _=> .bM f .fail (iI s o d want)
   | _=> .fail
  | none=> .fail
theorem Xz {E:Env} {ops:List Oper} {s:St} {o:Oper}:(G2 E ops s o).val=(stepG E ops s o).val:=by
 unfold G2 stepG
 cases o.guard with
 | none=>rfl
 | some jw=>
  obtain⟨j,want⟩:=jw
  simp only
  cases nK ops j with
  | none=>rfl
  | some d=>
   simp only
   generalize hb:bJ s.t d=x
   split
   .rename_i b
    refine Xy (fun h=>?_) (fun h=>?_)
    .have:b=want:=by cases b<;>cases want<;>simp[asked]at h<;>rfl
     subst this
     exact G0 hb (by simp)
    .have:b = !want:=by cases b<;>cases want<;>simp[asked]at h<;>rfl
     subst this
     exact G0 hb (by simp)
   .rename_i j' f w b
    refine Xy (fun h=>?_) (fun _=>G0 hb (by simp))
    rw[aG]at h
    obtain⟨hf,h⟩:=h
    have:b=want:=by cases b<;>cases want<;>simp[asked]at h<;>rfl
    subst this
    subst hf
    exact G0 hb (by simp)
   .split<;>first | rfl | (rename_i hq;cases hq;rfl) | (exfalso;grind)
   .split<;>first | rfl | (rename_i hq;cases hq;rfl) | (exfalso;grind)
def M4 (E:Env) (ops:List Oper) (s:St) (o:Oper):T (St×Option (List Nat×List Nat)):=match FZ E s.t (an s.h) o with
 | some p=>mL E s o.dst p
 | none=>G2 E ops (s.oC (LR E s.t (an s.h) o)) o
theorem ajD {E:Env} {ops:List Oper} {s:St} {o:Oper}:(M4 E ops s o).val=(Ci E ops s o).val:=by
 unfold M4 Ci
 cases FZ E s.t (an s.h) o with
 | some p=>rfl
 | none=>exact Xz
def M5 (E:Env) (ops:List Oper):List Oper->St->T St
 | [],s=> .ret s
 | o::r,s=>(M4 E ops s o).bind fun p=>M5 E ops r p.1
theorem XA {E:Env} {ops:List Oper} : ∀ {l:List Oper} {s:St},(M5 E ops l s).val=(steps E ops l s).val
 | [],_=>rfl
 | o::r,s=>T.pA ajD fun _=>XA
def M6 (E:Env) (ops:List Oper):List Oper->St->List FP->T St
 | [],s,tr=>match wI ops tr&&s5 0 ops with
  | true=> .ret s
  | false=> .fail
 | o::r,s,tr=>(G2 E ops s o).bind fun p=>M6 E ops r p.1 (oF ops s o p.2 p.1::tr)
theorem XB {E:Env} {ops:List Oper} : ∀ {l:List Oper} {s:St} {tr:List FP},(M6 E ops l s tr).val=(s6 E ops l s tr).val
 | [],_,_=>rfl
 | o::r,s,tr=>T.pA Xz fun _=>XB
def nW (E:Env):Code->St->T (Ex×St)
 | .skip,s=>done s
 | .region _ ops dr,s=>match dr with
  | false=>(M5 E ops.toList ops.toList s).bind done
  | true=>(M6 E ops.toList ops.toList s []).bind done
 | .seq x y,s=>(nW E x s).bind fun p=>match p.1 with
  | .normal=>nW E y p.2
  | _=> .ret p
 | .cond c x y,s=>match nJ (ev E s.t c)with
  | some b=> .bM b (nW E x s) (nW E y s)
  | none=> .fail
 | .block id x,s=>(nW E x s).bind fun p=>match p.1 with
  | .exit i=>match bk i id with
   | true=> .ret (.normal,p.2)
   | false=> .ret p
  | _=> .ret p
 | .loop x,s=>E.lp (fg x) s
 | .exit id,s=> .ret (.exit id,s)
 | .ret,s=> .ret (.ret,s)
 | _,_=> .fail
theorem M7 {E:Env} (c:Code) : ∀s,(nW E c s).val=(exec E c s).val:=by
 induction c with
 | skip=>intro s;rfl
 | region id ops dr=>
  intro s
  cases dr
  .exact T.pA XA fun _=>rfl
  .exact T.pA XB fun _=>rfl
 | seq x y ihx ihy=>
  intro s
  refine T.pA (ihx s) fun p=>?_
  cases p.1
  .exact ihy p.2
  .rfl
  .rfl
 | cond c x y ihx ihy=>
  intro s
  show(match nJ (ev E s.t c)with | some b=>T.bM b (nW E x s) (nW E y s) | none=> .fail).val=(match nJ (ev E s.t c)with | some b=>T.bM b (exec E x s) (exec E y s) | none=> .fail).val
  cases nJ (ev E s.t c)with
  | none=>rfl
  | some b=>exact T.M3 (fun _=>ihx s) (fun _=>ihy s)
 | block id x ih=>intro s;exact T.pA (ih s) fun _=>rfl
 | loop x ih=>intro s;rfl
 | _=>intros;rfl
theorem cr {α:Type} {E:Env} (c:Code) (s:St) (g:Ex×St->T α):((nW E c s).bind g).val=((exec E c s).bind g).val:=T.pA (M7 c s) fun _=>rfl
def XC (E:Env) (keep:Bool) (fn:Func) (args:List AV):T (AV×Heap):=
 match fn.body with
 | none=> .fail
 | some c=>match fR fn.ntmps c with
  | true=>(nW E c ⟨lr 0 (args.map fC) [],[]⟩).bind fun p=>match p.1 with
   | .ret=>(kB E p.2 fn.results.toList).bind fun us=>finish keep p.2 (lu us)
   | _=> .fail
  | false=> .fail
theorem cm {E:Env} {keep:Bool} {fn:Func} {args:List AV}:(XC E keep fn args).val=(aB E keep fn args).val:=by
 unfold XC aB
 cases fn.body with
 | none=>rfl
 | some c=>
  simp only
  cases fR fn.ntmps c with
  | false=>rfl
  | true=>exact T.pA (M7 _ _) fun _=>rfl
def XD (E:Env) (mv:List Nat) (fn:Func) (args:List AV) (hin:Heap):T (AV×Heap×List Nat):=
 match fn.body with
 | none=> .fail
 | some c=>match fR fn.ntmps c&&(hin.map (·.1)).all (fun k=>sT k&&(mv.elem k || !(E.mv k)))with
  | true=>(nW E c ⟨lr 0 (args.map fC) [],hin⟩).bind fun p=>match p.1 with
   | .exit _=> .fail
   | _=>(kB E p.2 fn.results.toList).bind fun us=>F2 (hin.map (·.1)) mv p.2 (lu us)
  | false=> .fail
theorem lD {E:Env} {mv:List Nat} {fn:Func} {args:List AV} {hin:Heap}:(XD E mv fn args hin).val=(eu E mv fn args hin).val:=by
 unfold XD eu
 cases fn.body with
 | none=>rfl
 | some c=>
  simp only
  cases fR fn.ntmps c&&(hin.map (·.1)).all (fun k=>sT k&&(mv.elem k || !(E.mv k)))with
  | false=>rfl
  | true=>exact T.pA (M7 _ _) fun _=>rfl
end Go.Proofs.YtaobkfpnebbohaaGreatDoor.M
namespace Go.Proofs.YtaobkfpnebbohaaGreatDoor.M
open Go Go.RowKit
set_option linter.unusedVariables false
set_option linter.unusedSimpArgs false
def rq {α:Type} (f:FuncId) (enc:α->List AV×Heap) (pre:α->Bool) (cT:α->T (AV×Heap×List Nat)):fT:=
 ⟨f,fun args h=> .gS (ac enc (args,h)) fun a=> .bM (pre a) (cT a) .fail⟩
theorem G3 {α:Type} {P:Program} {G:Nat->Option GR} {f:FuncId} {enc:α->List AV×Heap} {pre:α->Bool} {cT:α->T (AV×Heap×List Nat)} (hh:pt P f)
  (h : ∀a r,pre a=true->(∀x∈(enc a).1,gI x)->(∀k bl,an (enc a).2 k=some bl->re bl)->(cT a).val=some r->lx P G f (enc a).1 (enc a).2 r.1 r.2.1 r.2.2):fX P G (rq f enc pre cT):=by
 refine⟨fun args hin r H mv hr=>?_,hh⟩
 simp only[rq,T.lv]at hr
 obtain⟨a,h1,h2⟩:=hr
 rw[T.dv]at h2
 rcases h2 with ⟨h2,h3⟩ | ⟨h2,h3⟩
 .have e:=CJ h1
  have:=lx.ok (fun hok hokk=>h a _ h2 hok hokk h3)
  rw[<-e]at this
  exact this
 .rw[T.aO]at h3;exact h3.elim
theorem ajE {α:Type} {P:Program} {E:Env} {f:FuncId} {mv:List Nat} {enc:α->List AV×Heap} {pre:α->Bool} {cT:α->T (AV×Heap×List Nat)} (fn:Func) (hf:P.funcs[f]? = some fn)
  (hn : ((fn.name == "runtime.NumGoroutine") || fn.body.isNone) = false) (ok : aZ P E) (hm : P.follows .mixedOrders = true)
  (hlp : ∀x∈Func.loops fn,∀s e s',(E.lp (fg x) s).val=some (e,s')->ba E x s e s')
  (h : ∀a r,pre a=true->(∀x∈(enc a).1,gI x)->(∀k bl,an (enc a).2 k=some bl->re bl)->(cT a).val=some r->(eu E mv fn (enc a).1 (enc a).2).val=some r):fX P E.dH (rq f enc pre cT):=by
 simp only[jQ]at hn
 exact G3 ⟨fn,hf,hn.1,hn.2⟩ (fun a r h1 h2 h3 h4=>MH ok hm hf hlp (mv:=mv) (h a r h1 h2 h3 h4))
def pC:AV->AV
 | .e0=> .sl []
 | a=>a
def ah.pC (b:ah):ah:=match b.box with
 | true=>⟨true,b.ty,b.sz,b.rows.map (·.map M.pC)⟩
 | false=>b
def CX (x:AV×Heap×List Nat):AV×Heap×List Nat:=(x.1,x.2.1.map fun p=>(p.1,p.2.pC),x.2.2)
theorem ajF {w:World} {S:Nat->Prop} {β:Nat->Option BI} {a:AV} {v:Value} (h:RC w S β a v):RC w S β (pC a) v:=by
 cases a
 case e0=>
  obtain⟨A,rfl⟩:=h
  exact R0.sl (rows:=[]) (A:=A) (cap:=0) (size:=0) (b:=0) (off:=0) (vals:=fun _ _=>undef) (bR _) (cf _) (fun h=>absurd rfl h) (fun i row hi=>by simp at hi) (fun i j row a hi=>by simp at hi) (fun i j row a hi=>by simp at hi)
 all_goals exact h
theorem lx.G4 {P:Program} {G:Nat->Option GR} {f:FuncId} {args:List AV} {hin:Heap} {r:AV×Heap×List Nat} (h:lx P G f args hin r.1 r.2.1 r.2.2):lx P G f args hin (CX r).1 (CX r).2.1 (CX r).2.2:=by
 intro w S β cargs inv hargs
 refine(h w S β cargs inv hargs).mono ?_
 rintro e w' ⟨v,S',β',he,h1,h2,h3,inv',h4,h5⟩
 refine⟨v,S',β',he,h1,h2,h3,⟨inv'.base,inv'.lt,inv'.inj,inv'.new,fun k x hx=>?_,fun k bl hk=>?_,inv'.dH⟩,h4,h5⟩
 .obtain⟨bl,a1,a2,a3⟩:=inv'.di k x hx
  refine⟨bl.pC,by show an (r.2.1.map fun p=>(p.1,p.2.pC)) k=_;rw[gf,a1];rfl,fun hr=>?_,fun hr=>?_⟩
  .obtain⟨cs,ty,c1,c2,c3,c4,c5,c6,c7,c8⟩:=a2 hr
   unfold ah.pC
   split
   .rename_i hb
    refine⟨cs,ty,c1,c2,by simpa using c3,c4,c5,(fun hh=>absurd hh (by simp)),(fun _=>c7 hb),(fun i row hi=>?_)⟩
    simp only[dM,eZ]at hi
    obtain⟨row0,hi0,rfl⟩:=hi
    obtain⟨c9,c10⟩:=c8 i row0 hi0
    refine⟨by simpa using c9,fun q y0 hq=>?_⟩
    simp only[dM,eZ]at hq
    obtain⟨y1,hq1,rfl⟩:=hq
    obtain⟨v1,hv1,hr1⟩:=c10 q y1 hq1
    rw[hb]at hr1
    exact⟨v1,hv1,ajF (by simpa using hr1)⟩
   .exact⟨cs,ty,c1,c2,c3,c4,c5,c6,c7,c8⟩
  .obtain⟨b1,b2⟩:=a3 hr
   unfold ah.pC
   rw[b2]
   exact⟨b1,b2⟩
 .have hk:an (r.2.1.map fun p=>(p.1,p.2.pC)) k=some bl:=hk
  rw[gf,eZ]at hk
  obtain⟨b0,hb0,_⟩:=hk
  exact inv'.il k b0 hb0
theorem ajG {α:Type} {P:Program} {E:Env} {f:FuncId} {mv:List Nat} {enc:α->List AV×Heap} {pre:α->Bool} {cT:α->T (AV×Heap×List Nat)} (fn:Func) (hf:P.funcs[f]? = some fn)
  (hn : ((fn.name == "runtime.NumGoroutine") || fn.body.isNone) = false) (ok : aZ P E) (hm : P.follows .mixedOrders = true)
  (hlp : ∀x∈Func.loops fn,∀s e s',(E.lp (fg x) s).val=some (e,s')->ba E x s e s')
  (h : ∀a r,pre a=true->(∀x∈(enc a).1,gI x)->(∀k bl,an (enc a).2 k=some bl->re bl)->(cT a).val=some r->((eu E mv fn (enc a).1 (enc a).2).val.map CX)=some r):fX P E.dH (rq f enc pre cT):=by
 simp only[jQ]at hn
 refine G3 ⟨fn,hf,hn.1,hn.2⟩ (fun a r h1 h2 h3 h4=>?_)
 have:=h a r h1 h2 h3 h4
 rw[eZ]at this
 obtain⟨r0,hr0,rfl⟩:=this
 exact(MH ok hm hf hlp (mv:=mv) hr0).G4
end Go.Proofs.YtaobkfpnebbohaaGreatDoor.M
namespace Go.Proofs.YtaobkfpnebbohaaGreatDoor
open Go.Shelf
def ajH:jS:=⟨fun | 172=>123 | 244=>156 | 245=>157 | 247=>178 | 279=>179 | 280=>180 | 281=>181 | 282=>182 | 287=>208 | 316=>209 | 171=>46 | 205=>210 | 321=>223 | 322=>224 | 243=>95 | 246=>135 | 283=>165 | 284=>166 | 285=>167 | 286=>168 | 129=>143 | 317=>198 | 318=>199 | 319=>200 | 320=>201 | 337=>219 | 338=>220 | n=>n,fun | 9=>9 | 3=>3 | 75=>148 | 76=>149 | 4=>4 | 5=>5 | 167=>260 | 37=>144 | 0=>0 | 85=>261 | 2=>2 | 168=>263 | 53=>132 | 175=>281 | 46=>198 | 210=>285 | 127=>204 | 145=>301 | 143=>299 | 21=>21 | 171=>248 | 173=>250 | 212=>278 | 51=>276 | 20=>20 | 213=>279 | 232=>304 | 233=>305 | 80=>154 | n=>n,fun | 15=>6 | 16=>7 | 17=>4 | 18=>8 | 19=>9 | n=>n⟩
theorem ajI:Go.Proofs.Lays.n172 Tryz.prog ajH:={
 mixed:=by kernel_rfl
 f129:=func143.trans (congrArg some (by kernel_rfl))
 f171:=func46.trans (congrArg some (by kernel_rfl))
 f172:=func123.trans (congrArg some (by kernel_rfl))
 f205:=func210.trans (congrArg some (by kernel_rfl))
 f243:=func95.trans (congrArg some (by kernel_rfl))
 f244:=func156.trans (congrArg some (by kernel_rfl))
 f245:=func157.trans (congrArg some (by kernel_rfl))
 f246:=func135.trans (congrArg some (by kernel_rfl))
 f247:=func178.trans (congrArg some (by kernel_rfl))
 f279:=func179.trans (congrArg some (by kernel_rfl))
 f280:=func180.trans (congrArg some (by kernel_rfl))
 f281:=func181.trans (congrArg some (by kernel_rfl))
 f282:=func182.trans (congrArg some (by kernel_rfl))
 f283:=func165.trans (congrArg some (by kernel_rfl))
 f284:=func166.trans (congrArg some (by kernel_rfl))
 f285:=func167.trans (congrArg some (by kernel_rfl))
 f286:=func168.trans (congrArg some (by kernel_rfl))
 f287:=func208.trans (congrArg some (by kernel_rfl))
 f316:=func209.trans (congrArg some (by kernel_rfl))
 f317:=func198.trans (congrArg some (by kernel_rfl))
 f318:=func199.trans (congrArg some (by kernel_rfl))
 f319:=func200.trans (congrArg some (by kernel_rfl))
 f320:=func201.trans (congrArg some (by kernel_rfl))
 f321:=func223.trans (congrArg some (by kernel_rfl))
 f322:=func224.trans (congrArg some (by kernel_rfl))
 f337:=func219.trans (congrArg some (by kernel_rfl))
 f338:=func220.trans (congrArg some (by kernel_rfl))
 t0:=underlying0
 a0:=isAgg0
 z0:=sizeOf0
 v0:=zeroValue0
 t2:=underlying2
 a2:=isAgg2
 z2:=sizeOf2
 v2:=zeroValue2
 t3:=underlying3
 a3:=isAgg3
 z3:=sizeOf3
 v3:=zeroValue3
 t4:=underlying4
 a4:=isAgg4
 z4:=sizeOf4
 v4:=zeroValue4
 t5:=underlying5
 a5:=isAgg5
 z5:=sizeOf5
 v5:=zeroValue5
 t9:=underlying9
 a9:=isAgg9
 z9:=sizeOf9
 v9:=zeroValue9
 t20:=underlying20
 a20:=isAgg20
 z20:=sizeOf20
 v20:=zeroValue20
 t21:=underlying21
 a21:=isAgg21
 z21:=sizeOf21
 v21:=zeroValue21
 t37:=underlying144
 a37:=isAgg144
 z37:=sizeOf144
 v37:=zeroValue144
 t46:=underlying198
 a46:=isAgg198
 z46:=sizeOf198
 v46:=zeroValue198
 t51:=underlying276
 a51:=isAgg276
 z51:=sizeOf276
 v51:=zeroValue276
 t53:=underlying132
 a53:=isAgg132
 z53:=sizeOf132
 v53:=zeroValue132
 t75:=underlying148
 a75:=isAgg148
 z75:=sizeOf148
 v75:=zeroValue148
 t76:=underlying149
 a76:=isAgg149
 z76:=sizeOf149
 v76:=zeroValue149
 t85:=underlying261
 a85:=isAgg261
 z85:=sizeOf261
 v85:=zeroValue261
 t127:=underlying204
 a127:=isAgg204
 z127:=sizeOf204
 v127:=zeroValue204
 t143:=underlying299
 a143:=isAgg299
 z143:=sizeOf299
 v143:=zeroValue299
 t145:=underlying301
 a145:=isAgg301
 z145:=sizeOf301
 v145:=zeroValue301
 t167:=underlying260
 a167:=isAgg260
 z167:=sizeOf260
 v167:=zeroValue260
 t168:=underlying263
 a168:=isAgg263
 z168:=sizeOf263
 v168:=zeroValue263
 t171:=underlying248
 a171:=isAgg248
 z171:=sizeOf248
 v171:=zeroValue248
 t173:=underlying250
 a173:=isAgg250
 z173:=sizeOf250
 v173:=zeroValue250
 t175:=underlying281
 a175:=isAgg281
 z175:=sizeOf281
 v175:=zeroValue281
 t210:=underlying285
 a210:=isAgg285
 z210:=sizeOf285
 v210:=zeroValue285
 t212:=underlying278
 a212:=isAgg278
 z212:=sizeOf278
 v212:=zeroValue278
 t213:=underlying279
 a213:=isAgg279
 z213:=sizeOf279
 t232:=underlying304
 a232:=isAgg304
 z232:=sizeOf304
 v232:=zeroValue304
 t233:=underlying305
 a233:=isAgg305
 z233:=sizeOf305
 v233:=zeroValue305
 g15:=by kernel_rfl
 g16:=by kernel_rfl
 g17:=by kernel_rfl
 g18:=by kernel_rfl
 g19:=by kernel_rfl }
open Go.RowKit in
theorem Tryz.strconv_Atoi (s:ByteArray) (n:Int) (hl:s.size<=18) (h:Lib.atoi s.data.toList=some n) (w:World) :
  Calls Tryz.prog 123 #[.string s] w fun e w'=>e = .returned (.tuple #[.int .i64 n, .nilIface]) /\ ∃t,w'=Lib.bytesWorld w 5 t:=Any.strconv_Atoi ajI s n hl h w
def ajJ:jS:=⟨fun | 129=>143 | n=>n,fun | 53=>132 | 3=>3 | 4=>4 | 46=>198 | 5=>5 | 9=>9 | n=>n,fun | n=>n⟩
theorem ajK:Go.Proofs.Lays.n129 Tryz.prog ajJ:={
 mixed:=by kernel_rfl
 f129:=func143.trans (congrArg some (by kernel_rfl))
 t3:=underlying3
 a3:=isAgg3
 z3:=sizeOf3
 v3:=zeroValue3
 t4:=underlying4
 a4:=isAgg4
 z4:=sizeOf4
 v4:=zeroValue4
 t5:=underlying5
 a5:=isAgg5
 z5:=sizeOf5
 v5:=zeroValue5
 t9:=underlying9
 a9:=isAgg9
 z9:=sizeOf9
 v9:=zeroValue9
 t46:=underlying198
 a46:=isAgg198
 z46:=sizeOf198
 v46:=zeroValue198
 t53:=underlying132
 a53:=isAgg132
 z53:=sizeOf132
 v53:=zeroValue132 }
theorem Tryz.bits_Len64 (x:Int) (w:World) (h0:0<=x) (h1:x<=18446744073709551615) :
  Calls Tryz.prog 143 #[.int .u64 x] w fun e w'=>e = .returned (.int .i64 (Lib.bitLen x.toNat))/\w'=w:=Any.bits_Len64 ajK x w h0 h1
def ajL:jS:=⟨fun | 171=>46 | 243=>95 | 246=>135 | 283=>165 | 284=>166 | 285=>167 | 286=>168 | 129=>143 | 317=>198 | 318=>199 | 319=>200 | 320=>201 | 337=>219 | 338=>220 | n=>n,fun | 3=>3 | 9=>9 | 2=>2 | 4=>4 | 171=>248 | 0=>0 | 53=>132 | 37=>144 | 5=>5 | 173=>250 | 212=>278 | 51=>276 | 20=>20 | 213=>279 | 46=>198 | 232=>304 | 233=>305 | n=>n,fun | 17=>4 | 18=>8 | 19=>9 | n=>n⟩
theorem ajM:Go.Proofs.LaysM.n171 Tryz.prog ajL:={
 mixed:=by kernel_rfl
 f129:=func143.trans (congrArg some (by kernel_rfl))
 f171:=func46.trans (congrArg some (by kernel_rfl))
 f243:=func95.trans (congrArg some (by kernel_rfl))
 f246:=func135.trans (congrArg some (by kernel_rfl))
 f283:=func165.trans (congrArg some (by kernel_rfl))
 f284:=func166.trans (congrArg some (by kernel_rfl))
 f285:=func167.trans (congrArg some (by kernel_rfl))
 f286:=func168.trans (congrArg some (by kernel_rfl))
 f317:=func198.trans (congrArg some (by kernel_rfl))
 f318:=func199.trans (congrArg some (by kernel_rfl))
 f319:=func200.trans (congrArg some (by kernel_rfl))
 f320:=func201.trans (congrArg some (by kernel_rfl))
 f337:=func219.trans (congrArg some (by kernel_rfl))
 f338:=func220.trans (congrArg some (by kernel_rfl))
 t0:=underlying0
 a0:=isAgg0
 z0:=sizeOf0
 v0:=zeroValue0
 t2:=underlying2
 a2:=isAgg2
 z2:=sizeOf2
 v2:=zeroValue2
 t3:=underlying3
 a3:=isAgg3
 z3:=sizeOf3
 v3:=zeroValue3
 t4:=underlying4
 a4:=isAgg4
 z4:=sizeOf4
 v4:=zeroValue4
 t5:=underlying5
 a5:=isAgg5
 z5:=sizeOf5
 v5:=zeroValue5
 t9:=underlying9
 a9:=isAgg9
 z9:=sizeOf9
 v9:=zeroValue9
 t20:=underlying20
 a20:=isAgg20
 z20:=sizeOf20
 v20:=zeroValue20
 t37:=underlying144
 a37:=isAgg144
 z37:=sizeOf144
 v37:=zeroValue144
 t46:=underlying198
 a46:=isAgg198
 z46:=sizeOf198
 v46:=zeroValue198
 t51:=underlying276
 a51:=isAgg276
 z51:=sizeOf276
 v51:=zeroValue276
 t53:=underlying132
 a53:=isAgg132
 z53:=sizeOf132
 v53:=zeroValue132
 t171:=underlying248
 a171:=isAgg248
 z171:=sizeOf248
 v171:=zeroValue248
 t173:=underlying250
 a173:=isAgg250
 z173:=sizeOf250
 v173:=zeroValue250
 t212:=underlying278
 a212:=isAgg278
 z212:=sizeOf278
 v212:=zeroValue278
 t213:=underlying279
 a213:=isAgg279
 z213:=sizeOf279
 t232:=underlying304
 a232:=isAgg304
 z232:=sizeOf304
 v232:=zeroValue304
 t233:=underlying305
 a233:=isAgg305
 z233:=sizeOf305
 v233:=zeroValue305
 g17:=by kernel_rfl
 g18:=by kernel_rfl
 g19:=by kernel_rfl
 i0:=by kernel_rfl
 i2:=by kernel_rfl
 i3:=by kernel_rfl
 i4:=by kernel_rfl
 i5:=by kernel_rfl
 i9:=by kernel_rfl
 i20:=by kernel_rfl
 i37:=by kernel_rfl
 i46:=by kernel_rfl
 i51:=by kernel_rfl
 i53:=by kernel_rfl
 i171:=by kernel_rfl
 i173:=by kernel_rfl
 i212:=by kernel_rfl
 i232:=by kernel_rfl
 i233:=by kernel_rfl
 m17:=by kernel_rfl
 m18:=by kernel_rfl
 m19:=by kernel_rfl }
open Go.RowKit Go.Sort Go.Lib in
theorem Tryz.strconv_Itoa (n : Int) (h0 : -9223372036854775808 <= n) (h1 : n <= 9223372036854775807) (w : World) (htab : Lib.TabIs Tryz.prog w "internal/strconv.uint64pow10" .u64 Lib.pow10Tab) :
  Calls Tryz.prog 46 #[.int .i64 n] w fun e w'=>e = .returned (.string ⟨(Lib.itoa n).toArray⟩) /\ ∃k os,w'=grow (w.drewN k) os:=Any.strconv_Itoa ajM n h0 h1 w htab
def ajN:jS:=⟨fun | 144=>142 | 143=>150 | 219=>175 | 217=>204 | 225=>205 | 224=>206 | 267=>207 | 266=>221 | 314=>222 | n=>n,fun | 9=>9 | 4=>4 | 3=>3 | 5=>5 | 46=>198 | 146=>296 | 51=>276 | n=>n,fun | 1=>5 | n=>n⟩
theorem ajO:Go.Proofs.Lays.n144 Tryz.prog ajN:={
 mixed:=by kernel_rfl
 f143:=func150.trans (congrArg some (by kernel_rfl))
 f144:=func142.trans (congrArg some (by kernel_rfl))
 f217:=func204.trans (congrArg some (by kernel_rfl))
 f219:=func175.trans (congrArg some (by kernel_rfl))
 f224:=func206.trans (congrArg some (by kernel_rfl))
 f225:=func205.trans (congrArg some (by kernel_rfl))
 f266:=func221.trans (congrArg some (by kernel_rfl))
 f267:=func207.trans (congrArg some (by kernel_rfl))
 f314:=func222.trans (congrArg some (by kernel_rfl))
 t3:=underlying3
 a3:=isAgg3
 z3:=sizeOf3
 v3:=zeroValue3
 t4:=underlying4
 a4:=isAgg4
 z4:=sizeOf4
 v4:=zeroValue4
 t5:=underlying5
 a5:=isAgg5
 z5:=sizeOf5
 v5:=zeroValue5
 t9:=underlying9
 a9:=isAgg9
 z9:=sizeOf9
 v9:=zeroValue9
 t46:=underlying198
 a46:=isAgg198
 z46:=sizeOf198
 v46:=zeroValue198
 t51:=underlying276
 a51:=isAgg276
 z51:=sizeOf276
 v51:=zeroValue276
 t146:=underlying296
 a146:=isAgg296
 z146:=sizeOf296
 v146:=zeroValue296
 g1:=by kernel_rfl }
open Go.RowKit Go.Lib in
theorem Tryz.strings_Contains (s sub:ByteArray) (m:Int) (w:World) (hs:s.size<4294967281) (hm:w.cell? ⟨5,0,none⟩=some (.int .i64 m)) :
  Calls Tryz.prog 142 #[.string s, .string sub] w fun e w'=>e = .returned (.bool (Lib.contains s.data.toList sub.data.toList))/\w'=w:=Any.strings_Contains ajO s sub m w hs hm
def ajP:jS:=⟨fun | 145=>121 | 220=>155 | 219=>175 | 217=>204 | 225=>205 | 224=>206 | 267=>207 | 266=>221 | 314=>222 | n=>n,fun | 9=>9 | 4=>4 | 59=>210 | 3=>3 | 5=>5 | 46=>198 | 146=>296 | 51=>276 | n=>n,fun | 1=>5 | n=>n⟩
theorem ajQ:Go.Proofs.Lays.n145 Tryz.prog ajP:={
 mixed:=by kernel_rfl
 f145:=func121.trans (congrArg some (by kernel_rfl))
 f217:=func204.trans (congrArg some (by kernel_rfl))
 f219:=func175.trans (congrArg some (by kernel_rfl))
 f220:=func155.trans (congrArg some (by kernel_rfl))
 f224:=func206.trans (congrArg some (by kernel_rfl))
 f225:=func205.trans (congrArg some (by kernel_rfl))
 f266:=func221.trans (congrArg some (by kernel_rfl))
 f267:=func207.trans (congrArg some (by kernel_rfl))
 f314:=func222.trans (congrArg some (by kernel_rfl))
 t3:=underlying3
 a3:=isAgg3
 z3:=sizeOf3
 v3:=zeroValue3
 t4:=underlying4
 a4:=isAgg4
 z4:=sizeOf4
 v4:=zeroValue4
 t5:=underlying5
 a5:=isAgg5
 z5:=sizeOf5
 v5:=zeroValue5
 t9:=underlying9
 a9:=isAgg9
 z9:=sizeOf9
 v9:=zeroValue9
 t46:=underlying198
 a46:=isAgg198
 z46:=sizeOf198
 v46:=zeroValue198
 t51:=underlying276
 a51:=isAgg276
 z51:=sizeOf276
 v51:=zeroValue276
 t59:=underlying210
 a59:=isAgg210
 z59:=sizeOf210
 v59:=zeroValue210
 t146:=underlying296
 a146:=isAgg296
 z146:=sizeOf296
 v146:=zeroValue296
 g1:=by kernel_rfl }
open Go.RowKit Go.Lib in
theorem Tryz.strings_Cut (s sep:ByteArray) (m:Int) (w:World) (hs:s.size<4294967281) (hm:w.cell? ⟨5,0,none⟩=some (.int .i64 m)) :
  Calls Tryz.prog 121 #[.string s, .string sep] w fun e w'=>e = .returned (.tuple #[.string ⟨(qz s.data.toList sep.data.toList).1.toArray⟩, .string ⟨(qz s.data.toList sep.data.toList).2.1.toArray⟩, .bool (qz s.data.toList sep.data.toList).2.2]) /\ ∃n,w'=w.drewN n:=Any.strings_Cut ajQ s sep m w hs hm
def ajR:jS:=⟨fun | 189=>130 | 125=>162 | 257=>161 | 128=>196 | 129=>143 | 294=>188 | 295=>189 | 296=>190 | 297=>191 | 298=>192 | 299=>193 | 216=>163 | 300=>194 | 301=>195 | 328=>214 | 329=>215 | 330=>216 | 331=>217 | 332=>218 | 215=>197 | 343=>225 | n=>n,fun | 28=>27 | 3=>3 | 46=>198 | 0=>0 | 51=>276 | 53=>132 | 4=>4 | 183=>271 | 182=>270 | 131=>222 | 5=>5 | 9=>9 | 218=>290 | 222=>294 | 228=>302 | 229=>196 | n=>n,fun | n=>n⟩
theorem XE:Go.Proofs.Lays.n189 Tryz.prog ajR:={
 mixed:=by kernel_rfl
 f125:=func162.trans (congrArg some (by kernel_rfl))
 f128:=func196.trans (congrArg some (by kernel_rfl))
 f129:=func143.trans (congrArg some (by kernel_rfl))
 f189:=func130.trans (congrArg some (by kernel_rfl))
 f215:=func197.trans (congrArg some (by kernel_rfl))
 f216:=func163.trans (congrArg some (by kernel_rfl))
 f257:=func161.trans (congrArg some (by kernel_rfl))
 f294:=func188.trans (congrArg some (by kernel_rfl))
 f295:=func189.trans (congrArg some (by kernel_rfl))
 f296:=func190.trans (congrArg some (by kernel_rfl))
 f297:=func191.trans (congrArg some (by kernel_rfl))
 f298:=func192.trans (congrArg some (by kernel_rfl))
 f299:=func193.trans (congrArg some (by kernel_rfl))
 f300:=func194.trans (congrArg some (by kernel_rfl))
 f301:=func195.trans (congrArg some (by kernel_rfl))
 f328:=func214.trans (congrArg some (by kernel_rfl))
 f329:=func215.trans (congrArg some (by kernel_rfl))
 f330:=func216.trans (congrArg some (by kernel_rfl))
 f331:=func217.trans (congrArg some (by kernel_rfl))
 f332:=func218.trans (congrArg some (by kernel_rfl))
 f343:=func225.trans (congrArg some (by kernel_rfl))
 t0:=underlying0
 a0:=isAgg0
 z0:=sizeOf0
 v0:=zeroValue0
 t3:=underlying3
 a3:=isAgg3
 z3:=sizeOf3
 v3:=zeroValue3
 t4:=underlying4
 a4:=isAgg4
 z4:=sizeOf4
 v4:=zeroValue4
 t5:=underlying5
 a5:=isAgg5
 z5:=sizeOf5
 v5:=zeroValue5
 t9:=underlying9
 a9:=isAgg9
 z9:=sizeOf9
 v9:=zeroValue9
 t28:=underlying27
 a28:=isAgg27
 z28:=sizeOf27
 v28:=zeroValue27
 t46:=underlying198
 a46:=isAgg198
 z46:=sizeOf198
 v46:=zeroValue198
 t51:=underlying276
 a51:=isAgg276
 z51:=sizeOf276
 v51:=zeroValue276
 t53:=underlying132
 a53:=isAgg132
 z53:=sizeOf132
 v53:=zeroValue132
 t131:=underlying222
 a131:=isAgg222
 z131:=sizeOf222
 v131:=zeroValue222
 t182:=underlying270
 a182:=isAgg270
 z182:=sizeOf270
 v182:=zeroValue270
 t183:=underlying271
 a183:=isAgg271
 z183:=sizeOf271
 v183:=zeroValue271
 t218:=underlying290
 a218:=isAgg290
 z218:=sizeOf290
 v218:=zeroValue290
 t222:=underlying294
 a222:=isAgg294
 z222:=sizeOf294
 v222:=zeroValue294
 t228:=underlying302
 a228:=isAgg302
 z228:=sizeOf302
 v228:=zeroValue302
 t229:=underlying196
 a229:=isAgg196
 z229:=sizeOf196
 v229:=zeroValue196 }
open Go.Sort Go.RowKit in
theorem Tryz.slices_Sort_int (blk off cap:Nat) (zs:List Int) (w:World) (hH:Holds (bh .i64) w blk off zs.toArray) (hblk:blk<w.heap.size) (hsz:zs.length<4611686018427387904) :
  Calls Tryz.prog 130 #[.slice (some ⟨blk,off,none⟩) zs.length cap] w fun e w'=>
   e = .returned (.tuple #[]) /\ ∃n os,w'=grow (putRow (bh .i64) (Lc w n) blk off (zs.mergeSort fun x y=>decide (x<=y)).toArray) os:=Any.slices_Sort_int XE blk off cap zs w hH hblk hsz
def ajS:jS:=⟨fun | 206=>138 | n=>n,fun | 9=>9 | 4=>4 | 3=>3 | n=>n,fun | n=>n⟩
theorem ajT:Go.Proofs.Lays.n206 Tryz.prog ajS:={
 mixed:=by kernel_rfl
 f206:=func138.trans (congrArg some (by kernel_rfl))
 t3:=underlying3
 a3:=isAgg3
 z3:=sizeOf3
 v3:=zeroValue3
 t4:=underlying4
 a4:=isAgg4
 z4:=sizeOf4
 v4:=zeroValue4
 t9:=underlying9
 a9:=isAgg9
 z9:=sizeOf9
 v9:=zeroValue9 }
open Go.RowKit Go.Lib in
theorem Tryz.stringslite_HasPrefix (s p:ByteArray) (w:World) :
  Calls Tryz.prog 138 #[.string s, .string p] w fun e w'=>e = .returned (.bool (B3 s.data.toList p.data.toList))/\w'=w:=Any.stringslite_HasPrefix ajT s p w
def ajU:jS:=⟨fun | 99=>105 | 206=>138 | n=>n,fun | 9=>9 | 4=>4 | 3=>3 | n=>n,fun | n=>n⟩
theorem ajV:Go.Proofs.Lays.n99 Tryz.prog ajU:={
 mixed:=by kernel_rfl
 f99:=func105.trans (congrArg some (by kernel_rfl))
 f206:=func138.trans (congrArg some (by kernel_rfl))
 t3:=underlying3
 a3:=isAgg3
 z3:=sizeOf3
 v3:=zeroValue3
 t4:=underlying4
 a4:=isAgg4
 z4:=sizeOf4
 v4:=zeroValue4
 t9:=underlying9
 a9:=isAgg9
 z9:=sizeOf9
 v9:=zeroValue9 }
open Go.RowKit Go.Lib in
theorem Tryz.strings_HasPrefix (s p:ByteArray) (w:World) :
  Calls Tryz.prog 105 #[.string s, .string p] w fun e w'=>e = .returned (.bool (B3 s.data.toList p.data.toList))/\w'=w:=Any.strings_HasPrefix ajV s p w
def ajW:jS:=⟨fun | 207=>170 | n=>n,fun | 9=>9 | 4=>4 | 3=>3 | n=>n,fun | n=>n⟩
theorem ajX:Go.Proofs.Lays.n207 Tryz.prog ajW:={
 mixed:=by kernel_rfl
 f207:=func170.trans (congrArg some (by kernel_rfl))
 t3:=underlying3
 a3:=isAgg3
 z3:=sizeOf3
 v3:=zeroValue3
 t4:=underlying4
 a4:=isAgg4
 z4:=sizeOf4
 v4:=zeroValue4
 t9:=underlying9
 a9:=isAgg9
 z9:=sizeOf9
 v9:=zeroValue9 }
open Go.RowKit Go.Lib in
theorem Tryz.stringslite_HasSuffix (s p:ByteArray) (w:World) (hs:s.size<=9223372036854775807) :
  Calls Tryz.prog 170 #[.string s, .string p] w fun e w'=>e = .returned (.bool (Ld s.data.toList p.data.toList))/\w'=w:=Any.stringslite_HasSuffix ajX s p w hs
def ajY:jS:=⟨fun | 100=>141 | 207=>170 | n=>n,fun | 9=>9 | 4=>4 | 3=>3 | n=>n,fun | n=>n⟩
theorem ajZ:Go.Proofs.Lays.n100 Tryz.prog ajY:={
 mixed:=by kernel_rfl
 f100:=func141.trans (congrArg some (by kernel_rfl))
 f207:=func170.trans (congrArg some (by kernel_rfl))
 t3:=underlying3
 a3:=isAgg3
 z3:=sizeOf3
 v3:=zeroValue3
 t4:=underlying4
 a4:=isAgg4
 z4:=sizeOf4
 v4:=zeroValue4
 t9:=underlying9
 a9:=isAgg9
 z9:=sizeOf9
 v9:=zeroValue9 }
open Go.RowKit Go.Lib in
theorem Tryz.strings_HasSuffix (s p:ByteArray) (w:World) (hs:s.size<=9223372036854775807) :
  Calls Tryz.prog 141 #[.string s, .string p] w fun e w'=>e = .returned (.bool (Ld s.data.toList p.data.toList))/\w'=w:=Any.strings_HasSuffix ajZ s p w hs
def aj0:jS:=⟨fun | 146=>117 | 221=>152 | 268=>177 | 138=>148 | 143=>150 | 195=>172 | 197=>151 | 218=>173 | 219=>175 | 260=>176 | 217=>204 | 225=>205 | 224=>206 | 267=>207 | 266=>221 | 314=>222 | n=>n,fun | 9=>9 | 31=>51 | 3=>3 | 4=>4 | 0=>0 | 105=>236 | 21=>21 | 5=>5 | 46=>198 | 119=>253 | 139=>256 | 138=>255 | 146=>296 | 51=>276 | n=>n,fun | 1=>5 | 3=>2 | 4=>3 | n=>n⟩
theorem aj1:Go.Proofs.Lays.n146 Tryz.prog aj0:={
 mixed:=by kernel_rfl
 f138:=func148.trans (congrArg some (by kernel_rfl))
 f143:=func150.trans (congrArg some (by kernel_rfl))
 f146:=func117.trans (congrArg some (by kernel_rfl))
 f195:=func172.trans (congrArg some (by kernel_rfl))
 f197:=func151.trans (congrArg some (by kernel_rfl))
 f217:=func204.trans (congrArg some (by kernel_rfl))
 f218:=func173.trans (congrArg some (by kernel_rfl))
 f219:=func175.trans (congrArg some (by kernel_rfl))
 f221:=func152.trans (congrArg some (by kernel_rfl))
 f224:=func206.trans (congrArg some (by kernel_rfl))
 f225:=func205.trans (congrArg some (by kernel_rfl))
 f260:=func176.trans (congrArg some (by kernel_rfl))
 f266:=func221.trans (congrArg some (by kernel_rfl))
 f267:=func207.trans (congrArg some (by kernel_rfl))
 f268:=func177.trans (congrArg some (by kernel_rfl))
 f314:=func222.trans (congrArg some (by kernel_rfl))
 t0:=underlying0
 a0:=isAgg0
 z0:=sizeOf0
 v0:=zeroValue0
 t3:=underlying3
 a3:=isAgg3
 z3:=sizeOf3
 v3:=zeroValue3
 t4:=underlying4
 a4:=isAgg4
 z4:=sizeOf4
 v4:=zeroValue4
 t5:=underlying5
 a5:=isAgg5
 z5:=sizeOf5
 v5:=zeroValue5
 t9:=underlying9
 a9:=isAgg9
 z9:=sizeOf9
 v9:=zeroValue9
 t21:=underlying21
 a21:=isAgg21
 z21:=sizeOf21
 v21:=zeroValue21
 t31:=underlying51
 a31:=isAgg51
 z31:=sizeOf51
 v31:=zeroValue51
 t46:=underlying198
 a46:=isAgg198
 z46:=sizeOf198
 v46:=zeroValue198
 t51:=underlying276
 a51:=isAgg276
 z51:=sizeOf276
 v51:=zeroValue276
 t105:=underlying236
 a105:=isAgg236
 z105:=sizeOf236
 v105:=zeroValue236
 t119:=underlying253
 a119:=isAgg253
 z119:=sizeOf253
 t138:=underlying255
 a138:=isAgg255
 z138:=sizeOf255
 v138:=zeroValue255
 t139:=underlying256
 a139:=isAgg256
 z139:=sizeOf256
 v139:=zeroValue256
 t146:=underlying296
 a146:=isAgg296
 z146:=sizeOf296
 v146:=zeroValue296
 g1:=by kernel_rfl
 g3:=by kernel_rfl
 g4:=by kernel_rfl }
open Go.RowKit Go.Lib in
theorem Tryz.strings_Split (s sep:ByteArray) (m:Int) (w:World) (hs:s.size<4294967281) (hm:w.cell? ⟨5,0,none⟩=some (.int .i64 m)) (h1:1<=sep.size) :
  Calls Tryz.prog 117 #[.string s, .string sep] w fun e w'=>
   e = .returned (.slice (some ⟨w.heap.size,0,none⟩) (vN s sep+1) (vN s sep+1))/\w'=w.alloc (.cells ((Lf sep 0 (vN s sep) s).map Value.string).toArray 9):=Any.strings_Split aj1 (by kernel_rfl) s sep m w hs hm h1
def XF:jS:=⟨fun | 155=>70 | 154=>116 | 138=>148 | 165=>149 | 143=>150 | 166=>68 | 197=>151 | 169=>72 | 195=>172 | 218=>173 | 240=>114 | 241=>174 | 219=>175 | 260=>176 | 276=>146 | 277=>203 | 217=>204 | 225=>205 | 224=>206 | 267=>207 | 266=>221 | 314=>222 | n=>n,fun | 9=>9 | 3=>3 | 4=>4 | 72=>146 | 0=>0 | 76=>149 | 105=>236 | 21=>21 | 5=>5 | 70=>143 | 20=>20 | 37=>144 | 75=>148 | 127=>204 | 164=>231 | 46=>198 | 119=>253 | 139=>256 | 138=>255 | 146=>296 | 51=>276 | 80=>154 | n=>n,fun | 1=>5 | 3=>2 | 4=>3 | n=>n⟩
theorem aj2:Go.Proofs.Lays.n155 Tryz.prog XF:={
 mixed:=by kernel_rfl
 f138:=func148.trans (congrArg some (by kernel_rfl))
 f143:=func150.trans (congrArg some (by kernel_rfl))
 f154:=func116.trans (congrArg some (by kernel_rfl))
 f155:=func70.trans (congrArg some (by kernel_rfl))
 f165:=func149.trans (congrArg some (by kernel_rfl))
 f166:=func68.trans (congrArg some (by kernel_rfl))
 f169:=func72.trans (congrArg some (by kernel_rfl))
 f195:=func172.trans (congrArg some (by kernel_rfl))
 f197:=func151.trans (congrArg some (by kernel_rfl))
 f217:=func204.trans (congrArg some (by kernel_rfl))
 f218:=func173.trans (congrArg some (by kernel_rfl))
 f219:=func175.trans (congrArg some (by kernel_rfl))
 f224:=func206.trans (congrArg some (by kernel_rfl))
 f225:=func205.trans (congrArg some (by kernel_rfl))
 f240:=func114.trans (congrArg some (by kernel_rfl))
 f241:=func174.trans (congrArg some (by kernel_rfl))
 f260:=func176.trans (congrArg some (by kernel_rfl))
 f266:=func221.trans (congrArg some (by kernel_rfl))
 f267:=func207.trans (congrArg some (by kernel_rfl))
 f276:=func146.trans (congrArg some (by kernel_rfl))
 f277:=func203.trans (congrArg some (by kernel_rfl))
 f314:=func222.trans (congrArg some (by kernel_rfl))
 t0:=underlying0
 a0:=isAgg0
 z0:=sizeOf0
 v0:=zeroValue0
 t3:=underlying3
 a3:=isAgg3
 z3:=sizeOf3
 v3:=zeroValue3
 t4:=underlying4
 a4:=isAgg4
 z4:=sizeOf4
 v4:=zeroValue4
 t5:=underlying5
 a5:=isAgg5
 z5:=sizeOf5
 v5:=zeroValue5
 t9:=underlying9
 a9:=isAgg9
 z9:=sizeOf9
 v9:=zeroValue9
 t20:=underlying20
 a20:=isAgg20
 z20:=sizeOf20
 v20:=zeroValue20
 t21:=underlying21
 a21:=isAgg21
 z21:=sizeOf21
 v21:=zeroValue21
 t37:=underlying144
 a37:=isAgg144
 z37:=sizeOf144
 v37:=zeroValue144
 t46:=underlying198
 a46:=isAgg198
 z46:=sizeOf198
 v46:=zeroValue198
 t51:=underlying276
 a51:=isAgg276
 z51:=sizeOf276
 v51:=zeroValue276
 t70:=underlying143
 a70:=isAgg143
 z70:=sizeOf143
 v70:=zeroValue143
 t72:=underlying146
 a72:=isAgg146
 z72:=sizeOf146
 v72:=zeroValue146
 t75:=underlying148
 a75:=isAgg148
 z75:=sizeOf148
 v75:=zeroValue148
 t76:=underlying149
 a76:=isAgg149
 z76:=sizeOf149
 v76:=zeroValue149
 t105:=underlying236
 a105:=isAgg236
 z105:=sizeOf236
 v105:=zeroValue236
 t119:=underlying253
 a119:=isAgg253
 z119:=sizeOf253
 t127:=underlying204
 a127:=isAgg204
 z127:=sizeOf204
 v127:=zeroValue204
 t138:=underlying255
 a138:=isAgg255
 z138:=sizeOf255
 v138:=zeroValue255
 t139:=underlying256
 a139:=isAgg256
 z139:=sizeOf256
 v139:=zeroValue256
 t146:=underlying296
 a146:=isAgg296
 z146:=sizeOf296
 v146:=zeroValue296
 t164:=underlying231
 a164:=isAgg231
 z164:=sizeOf231
 v164:=zeroValue231
 g1:=by kernel_rfl
 g3:=by kernel_rfl
 g4:=by kernel_rfl }
theorem aj3:Builder.Extra Tryz.prog XF:={
 sizeBuilder:=by kernel_rfl
 liesBuilder:=by kernel_rfl
 t5:=underlying5
 a5:=isAgg5
 z5:=sizeOf5
 v5:=zeroValue5
 infoByte:=by kernel_rfl
 cellsByte:=by kernel_rfl
 sizeByte:=by kernel_rfl
 neB5:=by decide }
open Go.RowKit Go.Lib in
theorem Tryz.strings_ReplaceAll (s dS new:ByteArray) (m:Int) (w:World) (hs:s.size<4294967281) (hm:w.cell? ⟨5,0,none⟩=some (.int .i64 m)) (h1:1<=dS.size) (hlen:s.size+vN s dS*new.size<=140737488355328) :
  Calls Tryz.prog 70 #[.string s, .string dS, .string new] w fun e w'=>
   e = .returned (.string ⟨(Lib.replaceAll s.data.toList dS.data.toList new.data.toList).toArray⟩)/\Below w.heap.size w w':=Any.strings_ReplaceAll aj2 aj3 s dS new m w hs hm h1 hlen
def aj4:jS:=⟨fun | 264=>59 | n=>n,fun | 53=>132 | 46=>198 | n=>n,fun | n=>n⟩
theorem aj5:Go.Proofs.Lays.n264 Tryz.prog aj4:={
 mixed:=by kernel_rfl
 f264:=func59.trans (congrArg some (by kernel_rfl))
 t46:=underlying198
 a46:=isAgg198
 z46:=sizeOf198
 v46:=zeroValue198
 t53:=underlying132
 a53:=isAgg132
 z53:=sizeOf132
 v53:=zeroValue132 }
open Go.RowKit Go.Lib in
theorem Tryz.bits_Mul64 (x y:Nat) (hx:x<18446744073709551616) (hy:y<18446744073709551616) (w:World) :
  Calls Tryz.prog 59 #[.int .u64 x, .int .u64 y] w fun e w'=>e = .returned (.tuple #[.int .u64 ((x*y / 18446744073709551616:Nat):Int), .int .u64 ((x*y % 18446744073709551616:Nat):Int)])/\w'=w:=Any.bits_Mul64 aj5 x y hx hy w
def XG:jS:=⟨fun | 260=>176 | n=>n,fun | 9=>9 | 21=>21 | 3=>3 | 4=>4 | 5=>5 | 119=>253 | 0=>0 | 46=>198 | 139=>256 | 138=>255 | n=>n,fun | 3=>2 | 4=>3 | n=>n⟩
theorem aj6:Go.Proofs.Lays.n260 Tryz.prog XG:={
 mixed:=by kernel_rfl
 f260:=func176.trans (congrArg some (by kernel_rfl))
 t0:=underlying0
 a0:=isAgg0
 z0:=sizeOf0
 v0:=zeroValue0
 t3:=underlying3
 a3:=isAgg3
 z3:=sizeOf3
 v3:=zeroValue3
 t4:=underlying4
 a4:=isAgg4
 z4:=sizeOf4
 v4:=zeroValue4
 t5:=underlying5
 a5:=isAgg5
 z5:=sizeOf5
 v5:=zeroValue5
 t9:=underlying9
 a9:=isAgg9
 z9:=sizeOf9
 v9:=zeroValue9
 t21:=underlying21
 a21:=isAgg21
 z21:=sizeOf21
 v21:=zeroValue21
 t46:=underlying198
 a46:=isAgg198
 z46:=sizeOf198
 v46:=zeroValue198
 t119:=underlying253
 a119:=isAgg253
 z119:=sizeOf253
 t138:=underlying255
 a138:=isAgg255
 z138:=sizeOf255
 v138:=zeroValue255
 t139:=underlying256
 a139:=isAgg256
 z139:=sizeOf256
 v139:=zeroValue256
 g3:=by kernel_rfl
 g4:=by kernel_rfl }
def aj7:jS:=⟨fun | 20=>131 | n=>n,fun | 22=>27 | 3=>3 | 4=>4 | 0=>0 | n=>n,fun | n=>n⟩
theorem XH:Go.Proofs.Lays2.n20 Tryz.prog aj7:={
 mixed:=by kernel_rfl
 f20:=func131.trans (congrArg some (by kernel_rfl))
 t0:=underlying0
 a0:=isAgg0
 z0:=sizeOf0
 v0:=zeroValue0
 t3:=underlying3
 a3:=isAgg3
 z3:=sizeOf3
 v3:=zeroValue3
 t4:=underlying4
 a4:=isAgg4
 z4:=sizeOf4
 v4:=zeroValue4
 t22:=underlying27
 a22:=isAgg27
 z22:=sizeOf27
 v22:=zeroValue27
 i3:=by kernel_rfl }
open Go.RowKit Go.Lib Go.Sort in
theorem Tryz.slices_Compact_int (blk off cap:Nat) (zs:List Int) (w:World) (hH:Holds (bh .i64) w blk off zs.toArray) (hsz:zs.length<=9223372036854775807) (hcap:zs.length<=cap) :
  Calls Tryz.prog 131 #[.slice (some ⟨blk,off,none⟩) zs.length cap] w fun e w'=>e = .returned (.slice (some ⟨blk,off,none⟩) (vO zs).length cap) /\ ∃q,w'=putRow (bh .i64) (Lc w q) blk off (vO zs++List.replicate (zs.length - (vO zs).length) 0).toArray:=Any.slices_Compact_int XH blk off cap zs w hH hsz hcap
open Go.RowKit Go.Lib Go.Sort in
theorem Tryz.slices_Compact_int_empty (a:Option Addr) (cap:Nat) (w:World) :
  Calls Tryz.prog 131 #[.slice a 0 cap] w fun e w'=>e = .returned (.slice a 0 cap)/\w'=w:=Any.slices_Compact_int_empty XH a cap w
def aj8:jS:=⟨fun | 25=>132 | 31=>163 | 32=>164 | 37=>197 | n=>n,fun | 22=>27 | 3=>3 | 4=>4 | 40=>198 | 0=>0 | n=>n,fun | n=>n⟩
theorem aj9:Go.Proofs.Lays2.n25 Tryz.prog aj8:={
 mixed:=by kernel_rfl
 f25:=func132.trans (congrArg some (by kernel_rfl))
 f31:=func163.trans (congrArg some (by kernel_rfl))
 f32:=func164.trans (congrArg some (by kernel_rfl))
 f37:=func197.trans (congrArg some (by kernel_rfl))
 t0:=underlying0
 a0:=isAgg0
 z0:=sizeOf0
 v0:=zeroValue0
 t3:=underlying3
 a3:=isAgg3
 z3:=sizeOf3
 v3:=zeroValue3
 t4:=underlying4
 a4:=isAgg4
 z4:=sizeOf4
 v4:=zeroValue4
 t22:=underlying27
 a22:=isAgg27
 z22:=sizeOf27
 v22:=zeroValue27
 t40:=underlying198
 a40:=isAgg198
 z40:=sizeOf198
 v40:=zeroValue198 }
open Go.RowKit Go.Lib in
theorem Tryz.slices_BinarySearch_int (b off n c:Nat) (zs:List Int) (x:Int) (w:World) (hz:n<=zs.length) (hbig:n<4611686018427387904) (hc : ∀j,j<zs.length->w.cell? ⟨b,off+j,none⟩=some (.int .i64 (zs.getD j 0))) (hs:(zs.take n).Pairwise (· <= ·)) :
  Calls Tryz.prog 132 #[.slice (some ⟨b,off,none⟩) n c, .int .i64 x] w fun e w'=>e = .returned (.tuple #[.int .i64 ((zs.take n).countP (· < x):Nat), .bool ((zs.take n).contains x)]) /\ ∃q,w'=w.drewN q:=Any.slices_BinarySearch_int aj9 b off n c zs x w hz hbig hc hs
open Go.RowKit Go.Sort in
theorem Tryz.slices_Sort_int_none (p:Option Addr) (cap:Nat) (w:World) :
  Calls Tryz.prog 130 #[.slice p 0 cap] w fun e w'=>e = .returned (.tuple #[])/\w'=w:=Any.slices_Sort_int_none XE p cap w
end Go.Proofs.YtaobkfpnebbohaaGreatDoor
namespace Go.Proofs.YtaobkfpnebbohaaGreatDoor
open Go Go.RowKit Go.Shelf
set_option linter.unusedVariables false
set_option linter.unusedSimpArgs false
def F.bs (s:ByteArray):List UInt8:=s.data.toList
theorem iF (s:ByteArray) (k:Nat):s[k]? = (F.bs s)[k]?:=by
 unfold F.bs
 by_cases h:k<s.size
 .have h':k<s.data.toList.length:=by simp;exact h
  rw[getElem?_pos s k h,bC h']
  simp[ByteArray.getElem_eq_getElem_data]
 .have h' : ¬k<s.data.toList.length:=by simp;simpa using h
  rw[getElem?_neg s k h,UY (by omega)]
theorem F.eC (s:ByteArray):(F.bs s).length=s.size:=by simp[F.bs]
def F.lt (a b:Int):Bool:=decide (a<b)
def F.le (a b:Int):Bool:=decide (a<=b)
def F.found {α:Type} (o:Option α):Bool:=o.isSome
def F.fp {α:Type} (o:Option α) (d:α):α:=o.getD d
def F.out (n l h:Int):Bool:=decide (n<l)||decide (h<n)
def km (n:Int):Bool:=decide (97<=n)&&decide (n<=122)
def F.digit (n:Int):Bool:=decide (48<=n)&&decide (n<=57)
def F.seq (a b:ByteArray):Bool:=a.toList==b.toList
theorem F.aka (s:ByteArray):F.seq s s=true:=by simp[F.seq]
theorem F.empty_eq (s:ByteArray):(s.toList==cU (az (aA []))) = !decide (s.size≠0):=by
 have:s.toList.length=s.size:=by simp[aFH]
 have e0:cU (az (aA []))=[]:=by simp[aFH]
 rw[e0]
 by_cases h:s.size=0
 .have:s.toList=[]:=sI (by omega)
  simp[h,this]
 .have:s.toList≠[]:=fun hh=>h (by rw[<-this,hh];rfl)
  simp[h,this]
def KI (s:ByteArray):Int:=match (F.bs s)[0]? with
 | some b=>(b.toNat:Int)
 | none=>0
def ago (b:UInt8):Bool:=km b.toNat||F.digit b.toNat||decide ((b.toNat:Int)=45)
def Fr (l:List UInt8):Bool:=l.all ago
def g8 (s:ByteArray):Bool:=decide (s.size≠0)&&decide (s.size<=40)&&km (KI s)&&Fr (F.bs s)
theorem af7 {α:Type} {g:α->Int} : ∀ {l:List α},M.bN g l=0 -> ∀y∈l,g y=0
 | y::l,h,z,hz=>by
  simp only[M.bN]at h
  split at h
  .rename_i h0
   rcases cK.1 hz with rfl | hz
   .exact h0
   .exact af7 h z hz
  .exact absurd h ‹_›
namespace M
theorem XI {j:Nat} (h:j+1<=9223372036854775807):idx (am.wrap (((j+1:Nat):Int) - 1))=some j:=by
 have:am.wrap (((j+1:Nat):Int) - 1)=((j:Nat):Int):=by rw[cA (by omega) (by omega)];omega
 rw[this];rfl
def dj:Env:=bq ty au bp [] [] [] []
theorem bF {P:Program}{G:Nat->Option GR}:∀x∈([]:List aW),aX P G x:=by simp
theorem aI {P:Program}{G:Nat->Option GR}{o:aW}{l:List aW}(h:aX P G o)(t:∀x∈l,aX P G x):∀x∈o::l,aX P G x:=by
 simp only[gQ]
 exact⟨h,t⟩
theorem bG {fs:List aW}{mv:List Nat}{ls:List (Nat×(St->T (Ex×St)))}(h:∀x∈fs,aX Tryz.prog au x):aZ Tryz.prog (bq ty au bp fs [] mv ls):=mU m6 mY h (by simp)
theorem cQ {α:Type}{E:Env}{f:FuncId}{flat:Bool}{enc:α->List AV}{pre:α->Bool}{cT:α->AV×Heap}(fn:Func)(ok:aZ Tryz.prog E)(hlp:∀x∈Func.loops fn,∀s e s',(E.lp (fg x) s).val=some (e,s')->ba E x s e s')(h:∀a,pre a=true->(∀x∈enc a,gI x)->(aB E false fn (enc a)).val=some (cT a))(hf:Tryz.prog.funcs[f]? = some fn:=by kernel_rfl)(hn:((fn.name== "runtime.NumGoroutine")||fn.body.isNone)=false:=by kernel_rfl)(hfl:flat=true -> ∀a,qW (cT a).2=true/\qV (cT a).1=true:=by first | exact fun _ _=>⟨rfl,rfl⟩ | (intro h;cases h)):aX Tryz.prog E.dH (aY f flat enc pre cT):=CP fn hf hn ok mixed hlp hfl h
theorem cx {α:Type}{E:Env}{f:FuncId}{flat:Bool}{enc:α->List AV}{pre:α->Bool}{cT:α->AV×Heap}(fn:Func)(ok:aZ Tryz.prog E)(h:∀a,pre a=true->(∀x∈enc a,gI x)->(aB E false fn (enc a)).val=some (cT a))(hl:Func.loops fn=[]:=by kernel_rfl)(hf:Tryz.prog.funcs[f]? = some fn:=by kernel_rfl)(hn:((fn.name== "runtime.NumGoroutine")||fn.body.isNone)=false:=by kernel_rfl)(hfl:flat=true -> ∀a,qW (cT a).2=true/\qV (cT a).1=true:=by first | exact fun _ _=>⟨rfl,rfl⟩ | (intro h;cases h)):aX Tryz.prog E.dH (aY f flat enc pre cT):=CP fn hf hn ok mixed (nS hl) hfl h
theorem gL:aZ Tryz.prog dj:=bG bF
theorem akb (n l h:Int):(aB dj false f38 [vI n,vI l,vI h]).val =
 some ((vB (bif decide (n<l) then true else decide (h<n))),[]):=by kernel_rfl
def G5 (n l h:Int):List AV:=[vI n,vI l,vI h]
def eT (a:Int×Int×Int):List AV:=G5 a.1 a.2.1 a.2.2
theorem akc a a' (h:eT a=eT a'):a=a':=by
 simp only[eT,G5]at h
 try simp at h
 grind
theorem jk (n l h:Int):ac eT ([(vI n),(vI l),(vI h)])=some (n,l,h):=ax akc (n,l,h) rfl
def M8 (n l h:Int):AV×Heap:=(vB (F.out n l h),[])
def akd (n l h:Int):Bool:=true
abbrev aT {α β:Type}{ω:Type _}(f:α->β->ω)(a:α×β):ω:=f a.1 a.2
abbrev bU {α β γ:Type}{ω:Type _}(f:α->β->γ->ω)(a:α×β×γ):ω:=f a.1 a.2.1 a.2.2
abbrev cD {α β γ δ:Type}{ω:Type _}(f:α->β->γ->δ->ω)(a:α×β×γ×δ):ω:=f a.1 a.2.1 a.2.2.1 a.2.2.2
abbrev fa {α β γ δ ε:Type}{ω:Type _}(f:α->β->γ->δ->ε->ω)(a:α×β×γ×δ×ε):ω:=f a.1 a.2.1 a.2.2.1 a.2.2.2.1 a.2.2.2.2
abbrev m7 {α β γ δ ε ζ:Type}{ω:Type _}(f:α->β->γ->δ->ε->ζ->ω)(a:α×β×γ×δ×ε×ζ):ω:=f a.1 a.2.1 a.2.2.1 a.2.2.2.1 a.2.2.2.2.1 a.2.2.2.2.2
abbrev G6 {α β γ δ ε ζ η:Type}{ω:Type _}(f:α->β->γ->δ->ε->ζ->η->ω)(a:α×β×γ×δ×ε×ζ×η):ω:=f a.1 a.2.1 a.2.2.1 a.2.2.2.1 a.2.2.2.2.1 a.2.2.2.2.2.1 a.2.2.2.2.2.2
abbrev XJ {α β γ δ ε ζ η θ:Type}{ω:Type _}(f:α->β->γ->δ->ε->ζ->η->θ->ω)(a:α×β×γ×δ×ε×ζ×η×θ):ω:=f a.1 a.2.1 a.2.2.1 a.2.2.2.1 a.2.2.2.2.1 a.2.2.2.2.2.1 a.2.2.2.2.2.2.1 a.2.2.2.2.2.2.2
abbrev xh {α β γ δ ε ζ η θ ι:Type}{ω:Type _}(f:α->β->γ->δ->ε->ζ->η->θ->ι->ω)(a:α×β×γ×δ×ε×ζ×η×θ×ι):ω:=f a.1 a.2.1 a.2.2.1 a.2.2.2.1 a.2.2.2.2.1 a.2.2.2.2.2.1 a.2.2.2.2.2.2.1 a.2.2.2.2.2.2.2.1 a.2.2.2.2.2.2.2.2
abbrev aF4 {α β γ δ ε ζ η θ ι κ:Type}{ω:Type _}(f:α->β->γ->δ->ε->ζ->η->θ->ι->κ->ω)(a:α×β×γ×δ×ε×ζ×η×θ×ι×κ):ω:=f a.1 a.2.1 a.2.2.1 a.2.2.2.1 a.2.2.2.2.1 a.2.2.2.2.2.1 a.2.2.2.2.2.2.1 a.2.2.2.2.2.2.2.1 a.2.2.2.2.2.2.2.2.1 a.2.2.2.2.2.2.2.2.2
abbrev aF5 {α β γ δ ε ζ η θ ι κ ν:Type}{ω:Type _}(f:α->β->γ->δ->ε->ζ->η->θ->ι->κ->ν->ω)(a:α×β×γ×δ×ε×ζ×η×θ×ι×κ×ν):ω:=f a.1 a.2.1 a.2.2.1 a.2.2.2.1 a.2.2.2.2.1 a.2.2.2.2.2.1 a.2.2.2.2.2.2.1 a.2.2.2.2.2.2.2.1 a.2.2.2.2.2.2.2.2.1 a.2.2.2.2.2.2.2.2.2.1 a.2.2.2.2.2.2.2.2.2.2
def jJ:aW:=aY 38 true eT (bU akd) (bU M8)
theorem jZ:aX Tryz.prog au jJ:=by
 refine cx f38 gL ?_
 rintro⟨n,l,h⟩ hpre hok
 show(aB dj false _ (G5 _ _ _)).val=some (M8 _ _ _)
 unfold G5 M8
 rw[akb]
 unfold F.out
 cases decide (n<l)<;>cases decide (h<n)<;>rfl
end M
def vC (s:ByteArray):Bool:=Lib.validD (F.bs s)
def KP (s p:ByteArray):Bool:=Lib.contains (F.bs s) (F.bs p)
def F.eV (s p:ByteArray):Bool:=B3 (F.bs s) (F.bs p)
def F.j0 (s p:ByteArray):Bool:=Ld (F.bs s) (F.bs p)
def F.split (s sep:ByteArray):List ByteArray:=Lf sep 0 (vN s sep) s
def ake:jS:=⟨fun | 196=>140 | 259=>169 | n=>n,fun | 0=>0 | 3=>3 | 4=>4 | 5=>5 | 9=>9 | 12=>12 | 46=>198 | 53=>132 | 119=>253 | 138=>255 | 139=>256 | n=>n,
 fun | 3=>2 | 4=>3 | n=>n⟩
theorem akf:Go.Proofs.Lays.n196 Tryz.prog ake:={
 mixed:=by kernel_rfl
 f196:=func140.trans (congrArg some (by kernel_rfl))
 f259:=func169.trans (congrArg some (by kernel_rfl))
 t0:=underlying0
 a0:=isAgg0
 z0:=sizeOf0
 v0:=zeroValue0
 t3:=underlying3
 a3:=isAgg3
 z3:=sizeOf3
 v3:=zeroValue3
 t4:=underlying4
 a4:=isAgg4
 z4:=sizeOf4
 v4:=zeroValue4
 t5:=underlying5
 a5:=isAgg5
 z5:=sizeOf5
 v5:=zeroValue5
 t9:=underlying9
 a9:=isAgg9
 z9:=sizeOf9
 v9:=zeroValue9
 t12:=underlying12
 a12:=isAgg12
 z12:=sizeOf12
 v12:=zeroValue12
 t46:=underlying198
 a46:=isAgg198
 z46:=sizeOf198
 v46:=zeroValue198
 t53:=underlying132
 a53:=isAgg132
 z53:=sizeOf132
 v53:=zeroValue132
 t119:=underlying253
 a119:=isAgg253
 z119:=sizeOf253
 t138:=underlying255
 a138:=isAgg255
 z138:=sizeOf255
 v138:=zeroValue255
 t139:=underlying256
 a139:=isAgg256
 z139:=sizeOf256
 v139:=zeroValue256
 g3:=by kernel_rfl
 g4:=by kernel_rfl }
namespace M
theorem akg {w:World} {S:Nat->Prop} (hG : ∀g r,au g=some r->iJ w S g r):Lib.Utf8Tabs 2 3 w:=by
 obtain⟨cs,h1,h2⟩:=(hG 2 _ rfl).cell
 obtain⟨cs',h3,h4⟩:=(hG 3 _ rfl).cell
 refine⟨fun c hc=>?_,fun i hi=>?_⟩
 .rw[h2];exact h1 c hc
 .rw[h4,h4];exact h3 i hi
theorem G7 {w:World} {S:Nat->Prop} (hG : ∀g r,au g=some r->iJ w S g r) : ∃m,w.cell? ⟨5,0,none⟩=some (.int .i64 m):=by
 obtain⟨cs,⟨m,h1⟩,h2⟩:=(hG 5 _ rfl).cell
 exact⟨m,by rw[h2];exact h1⟩
section
variable (s:ByteArray)
def XK:List AV:=[vS s]
def xi (a:ByteArray):List AV:=XK a
theorem akh a a' (h:xi a=xi a'):a=a':=by
 simp only[xi,XK]at h
 try simp at h
 grind
theorem aki:ac xi ([(vS s)])=some (s):=ax akh (s) rfl
def akj:AV×Heap:=(vB (vC s),[])
def akk (s:ByteArray):Bool:=true
def XL:aW:=aY 140 true xi akk akj
theorem akl:aX Tryz.prog au XL:=by
 refine io ⟨f140,by kernel_rfl,by kernel_rfl,by kernel_rfl⟩ (fun s _ _=>?_) (fun _ _=>⟨rfl,rfl⟩)
 refine dy.CV (fun w S=>dO trivial) fun hk w S hG=>?_
 exact Any.utf8_ValidString akf s w hk (akg hG)
def XM (p:ByteArray):List AV:=[vS s,vS p]
def xj (a:ByteArray×ByteArray):List AV:=XM a.1 a.2
theorem akm a a' (h:xj a=xj a'):a=a':=by
 simp only[xj,XM]at h
 try simp at h
 grind
theorem akn (p:ByteArray):ac xj ([(vS s),(vS p)])=some (s,p):=ax akm (s,p) rfl
def ako (p:ByteArray):AV×Heap:=(vB (KP s p),[])
def XN (p:ByteArray):Bool:=decide (s.size<=4294967280)
def XO:aW:=aY 142 true xj (aT XN) (aT ako)
theorem akp:aX Tryz.prog au XO:=by
 refine io ⟨f142,by kernel_rfl,by kernel_rfl,by kernel_rfl⟩ (fun x hp _=>?_) (fun _ _=>⟨rfl,rfl⟩)
 obtain⟨s,p⟩:=x
 simp only[XN,aT,aM]at hp
 refine dy.GY (fun w S=>dO trivial) fun hk _ w S hG=>?_
 obtain⟨m,hm⟩:=G7 hG
 refine(Tryz.strings_Contains s p m w (by omega) hm).mono ?_
 rintro e w' ⟨he,rfl⟩
 exact⟨he,qw _ _⟩
def XP (p:ByteArray):List AV:=[vS s,vS p]
def ru (a:ByteArray×ByteArray):List AV:=XP a.1 a.2
theorem akq a a' (h:ru a=ru a'):a=a':=by
 simp only[ru,XP]at h
 try simp at h
 grind
theorem xk (p:ByteArray):ac ru ([(vS s),(vS p)])=some (s,p):=ax akq (s,p) rfl
def akr (p:ByteArray):AV×Heap:=(vB (F.eV s p),[])
def aks (s:ByteArray) (p:ByteArray):Bool:=true
def M9:aW:=aY 105 true ru (aT aks) (aT akr)
theorem XQ:aX Tryz.prog au M9:=by
 refine io ⟨f105,by kernel_rfl,by kernel_rfl,by kernel_rfl⟩ (fun x _ _=>?_) (fun _ _=>⟨rfl,rfl⟩)
 exact dy.GX trivial fun _ _ w=>Tryz.strings_HasPrefix x.1 x.2 w
def XR (p:ByteArray):List AV:=[vS s,vS p]
def xl (a:ByteArray×ByteArray):List AV:=XR a.1 a.2
theorem akt a a' (h:xl a=xl a'):a=a':=by
 simp only[xl,XR]at h
 try simp at h
 grind
theorem aku (p:ByteArray):ac xl ([(vS s),(vS p)])=some (s,p):=ax akt (s,p) rfl
def akv (p:ByteArray):AV×Heap:=(vB (F.j0 s p),[])
end
def akw (s:ByteArray) (p:ByteArray):Bool:=true
def XS:aW:=aY 141 true xl (aT akw) (aT akv)
theorem akx:aX Tryz.prog au XS:=by
 refine io ⟨f141,by kernel_rfl,by kernel_rfl,by kernel_rfl⟩ (fun x _ _=>?_) (fun _ _=>⟨rfl,rfl⟩)
 exact dy.GX trivial fun hk _ w=>Tryz.strings_HasSuffix x.1 x.2 w hk
end M
end Go.Proofs.YtaobkfpnebbohaaGreatDoor
namespace Go.Proofs.YtaobkfpnebbohaaGreatDoor
open Go Go.RowKit
set_option linter.unusedVariables false
set_option linter.unusedSimpArgs false
set_option maxHeartbeats 1000000
namespace M
section
variable (n:Int)
theorem aky:(aB dj false f124 [vU n]).val =
 some ((vB (bif decide ((97:Int)<=n) then decide (n<=122) else false)),[]):=by kernel_rfl
def G8:List AV:=[vU n]
def rx (a:Int):List AV:=G8 a
theorem akz a a' (h:rx a=rx a'):a=a':=by
 simp only[rx,G8]at h
 try simp at h
 grind
theorem XT:ac rx ([(vU n)])=some (n):=ax akz (n) rfl
def Na:AV×Heap:=(vB (km n),[])
def akA (n:Int):Bool:=true
def XU:aW:=aY 124 true rx akA Na
theorem akB:aX Tryz.prog au XU:=by
 refine cx f124 gL ?_
 rintro n hpre hok
 show(aB dj false _ (G8 _)).val=some (Na _)
 unfold G8 Na
 rw[aky]
 unfold km
 cases decide ((97:Int)<=n)<;>rfl
theorem akC:(aB dj false Tryz.f125 [vU n]).val =
 some ((vB (bif decide ((48:Int)<=n) then decide (n<=57) else false)),[]):=by kernel_rfl
def G9:List AV:=[vU n]
def tC (a:Int):List AV:=G9 a
theorem akD a a' (h:tC a=tC a'):a=a':=by
 simp only[tC,G9]at h
 try simp at h
 grind
theorem akE:ac tC ([(vU n)])=some (n):=ax akD (n) rfl
def Nb:AV×Heap:=(vB (F.digit n),[])
end
section
variable (s:ByteArray) (k:Nat)
def akF (n:Int):Bool:=true
def XV:aW:=aY 125 true tC akF Nb
theorem akG:aX Tryz.prog au XV:=by
 refine cx Tryz.f125 gL ?_
 rintro n hpre hok
 show(aB dj false _ (G9 _)).val=some (Nb _)
 unfold G9 Nb
 rw[akC]
 unfold F.digit
 cases decide ((48:Int)<=n)<;>rfl
def xm:St:=⟨[(20,vI k),(19,vI s.size),(0,vS s)],[]⟩
def tD (a:ByteArray×Nat):St:=xm a.1 a.2
theorem akH a a' (h:tD a=tD a'):a=a':=by
 simp only[tD,xm]at h
 try simp at h
 grind
theorem akI: ac tD (St.mk [(20,(vI (0:Int))),(19,(vI (↑(aJ s):Int))),(0,(vS s))] [])=some (s,0):=ax akH (s,0) rfl
def XW:T (Ex×St):= .bM (Fr ((F.bs s).drop k)) (.ret (.exit 0,⟨[],[]⟩)) (.ret (.ret,⟨[(2,vB false)],[]⟩))
def Nc:Bool:=decide (s.size<=9223372036854775807)&&decide (k<=s.size)
def akJ:Nat×(St->T (Ex×St)):=(4,lpo [20,19,0] [] tD (aT Nc) (aT XW))
def CY:Env:=bq ty au bp [XU,XV] [] [] [akJ]
theorem akK:aZ Tryz.prog CY:=bG (aI akB (aI akG bF))
theorem XX:((exec CY (aw f81 0) (xm s k)).bind (bE ([20,19,0],[]) ([],[]) ([2],[]))).val =
 (fun(q:Option (Ex×St))=>bif decide ((↑k:Int)<(↑(aJ s):Int)) then ai s[k]? fun z=>ai (ac rx [(vU
 (↑(dF z):Int))]) fun z=>bif !km z then ai s[k]? fun z_1=>bif !km z then ai (ac tC [(vU
 (↑(dF z_1):Int))]) fun z_2=>(fun(q_1:Bool)=>bif q_1 then ai s[k]? fun z=>bif bif q_1 then (↑(dF z):Int) != 45 else false then some (Ex.ret,St.mk [(2,(vB false))] []) else q else bif q_1 then none else q) (bif !km z then !F.digit z_2 else false) else bif !km z
 then none else q else bif !km z then ai (ac tC [AV.bL]) fun z_1=>(fun(q_1:Bool)=>bif q_1 then ai s[k]? fun z=>
 bif bif q_1 then (↑(dF z):Int) != 45 else false then some (Ex.ret,St.mk [(2,(vB false))] []) else q else bif q_1 then none else q) (bif !km z
 then !F.digit z_1 else false) else bif !km z then none else q else some (Ex.exit (0:Nat),St.mk [] [])) (some (Ex.normal,St.mk [(20,(vI (bQ am
 ((↑k:Int)+1)))),(19,(vI (↑(aJ s):Int))),(0,(vS s))] [])):=by kernel_rfl
theorem akL (hp:Nc s k=true) : ∀ex s',(XW s k).val=some (ex,s')->ba CY (aw f81 0) (xm s k) ex s':=by
 simp only[Nc,aG,aM]at hp
 refine pu (xs:=F.bs s) (st:=xm s) (n:=([20,19,0],[])) (e:=([],[])) (r:=([2],[])) ?_ ⟨by simp,rfl⟩ ⟨by simp,rfl⟩ (fun _=>rfl) ?_ k (by rw[F.eC];exact hp.2)
 .rw[XX];rw[F.eC];simp
 .intro k y hy
  have hk:k<s.size:=by rw[<-F.eC];exact(cO.1 hy).1
  have hkz:((k:Int)<(s.size:Int)):=by omega
  have hw:am.wrap ((k:Int)+1)=((k+1:Nat):Int):=by rw[cA (by omega) (by omega)];rfl
  rw[XX]
  rw[iF,hy]
  simp only[hkz,decide_true,ar,hw,XT,akE,ago,xm]
  grind
theorem akM:(aB CY false f81 [vS s]).val =
 bif !bif (↑(aJ s):Int)==0 then true else decide ((40:Int)<(↑(aJ s):Int)) then ai s[(0:Nat)]? fun z=>bif
 !bif (↑(aJ s):Int)==0 then true else decide ((40:Int)<(↑(aJ s):Int)) then ai (ac rx [(vU (↑(dF z) :
 Int))]) fun z=>bif bif bif (↑(aJ s):Int)==0 then true else decide ((40:Int)<(↑(aJ s):Int)) then true else !km z
 then some ((vB false),[]) else ai (ac tD (St.mk [(20,(vI 0)),(19,(vI (↑(aJ s):Int))),(0,(vS s))] [])) fun z=>bif decide (aJ z.1<=9223372036854775807)&&decide (z.2<=aJ z.1)&&true then bif Fr (bn z.2 (F.bs z.1))
 then some ((vB true),[]) else some ((vB false),[]) else none else bif !bif (↑(aJ s):Int)==0 then true else decide ((40:Int)<(↑(aJ
 s):Int)) then none else some ((vB false),[]) else bif !bif (↑(aJ s):Int)==0 then true else decide ((40:Int)<(↑(aJ s):Int))
 then ai (ac rx [AV.bL]) fun z=>bif bif bif (↑(aJ s):Int)==0 then true else decide ((40:Int)<(↑(aJ s)
 : Int)) then true else !km z then some ((vB false),[]) else ai (ac tD (St.mk [(20,(vI 0)),(19,(vI (↑(aJ s):Int))),(0,(vS
 s))] [])) fun z=>bif decide (aJ z.1<=9223372036854775807)&&decide (z.2<=aJ z.1)&&true then bif Fr
 (bn z.2 (F.bs z.1)) then some ((vB true),[]) else some ((vB false),[]) else none else bif !bif (↑(aJ s):Int)==0 then true else decide
 ((40:Int)<(↑(aJ s):Int)) then none else some ((vB false),[]):=by kernel_rfl
def Ha:List AV:=[vS s]
def oL (a:ByteArray):List AV:=Ha a
theorem akN a a' (h:oL a=oL a'):a=a':=by
 simp only[oL,Ha]at h
 try simp at h
 grind
theorem Hb:ac oL ([(vS s)])=some (s):=ax akN (s) rfl
def Nd:AV×Heap:=(vB (g8 s),[])
end
def akO (s:ByteArray):Bool:=true
def CZ:aW:=aY 81 true oL akO Nd
theorem Hc:aX Tryz.prog au CZ:=by
 refine cQ f81 akK (de (x0:=aw f81 0) (by kernel_rfl) (bS ?_)) ?_
 .rintro⟨s,k⟩ hp
  exact akL s k hp
 rintro s hpre hok
 show(aB CY false _ (Ha _)).val=some (Nd _)
 unfold Ha Nd
 rw[akM]
 have hs:=CK (hok _ (dN ..))
 have h0:=F.eC s
 simp only[XT,akI,ar,ak,Bool.and_true,iF,g8,KI,hs,List.drop_zero,cf,decide_true]
 cases hb:F.bs s with
 | nil=>rw[hb]at h0;simp at h0;simp[<-h0]
 | cons b l=>
  rw[hb]at h0
  simp at h0
  have a1:((s.size:Int)==0)=false:=by rw[beq_eq_false_iff_ne];omega
  have a2:decide ((40:Int)<s.size) = !decide (s.size<=40):=by by_cases h:s.size<=40<;>simp[h]<;>omega
  have a3:decide (s.size≠0)=true:=aj (by omega)
  simp only[a1,a2,a3]
  cases decide (s.size<=40)<;>cases h1:km b.toNat<;>cases h2:Fr (b::l)<;>simp[h1]
end M
def ia (v:Int):Int:=v / 18446744073709551616
def gz (v:Int):Int:=v % 18446744073709551616
theorem KF (v:Int):v=18446744073709551616*ia v+gz v:=by
 unfold ia gz
 omega
theorem akP (x y b:Nat) (hb:b<=1) (w:World) :
  (callFunc 185 #[.int .u64 x, .int .u64 y, .int .u64 b]).run Tryz.prog w =
   .ok (.value (.tuple #[.int .u64 (((x+18446744073709551616 - y - b) % 18446744073709551616:Nat):Int), .int .u64 ((if x<y+b then 1 else 0:Nat):Int)])) w:=
 Any7.bits_Sub64 (ρ:=⟨fun | 26=>185 | n=>n,fun | 22=>132 | n=>n,fun n=>n⟩) ⟨by kernel_rfl,func185.trans (congrArg some (by kernel_rfl)),underlying132,isAgg132,sizeOf132,zeroValue132,by kernel_rfl⟩ x y b hb w
theorem XY (n:Int) (h0 : -9223372036854775808<=n) (h1:n<=9223372036854775807) (w:World) :
  Calls Tryz.prog 60 #[.int .i64 n] w fun e w'=>e = .returned (.int .u64 (n.natAbs:Int))/\w'=w:=by
 have e1:n<0->aD.wrap (-aD.wrap n)=(n.natAbs:Int):=fun h=>by rw[gR,gR];omega
 have e2 : ¬n<0->aD.wrap n=(n.natAbs:Int):=fun h=>by rw[gR];omega
 go_enter func60,ntmps60
 by_cases h:n<0
 .go_wp2
  go_ret
  exact⟨by simp[],rfl⟩
 .go_wp2
  go_ret
  exact⟨by simp[],rfl⟩
theorem akQ (a b:Int) (h:decide (a<0)=decide (b<0)):((a.natAbs*b.natAbs:Nat):Int)=a*b:=by
 by_cases ha:a<0
 .have hb:b<0:=by rw[aj ha]at h;exact of_decide_eq_true h.symm
  rw[sJ,U0 (by omega),U0 (by omega),Int.neg_mul_neg]
 .have hb : ¬b<0:=by rw[aH ha]at h;exact of_decide_eq_false h.symm
  rw[sJ,U1 (by omega),U1 (by omega)]
theorem akR (a b:Int) (h:decide (a<0)≠decide (b<0)):((a.natAbs*b.natAbs:Nat):Int) = -(a*b):=by
 by_cases ha:a<0
 .have hb : ¬b<0:=fun hb=>h (by rw[aj ha,aj hb])
  rw[sJ,U0 (by omega),U1 (by omega),Int.neg_mul]
 .have hb:b<0:=Decidable.byContradiction fun hb=>h (by rw[aH ha,aH hb])
  rw[sJ,U1 (by omega),U0 (by omega),Int.mul_neg]
theorem XZ (y b:Nat) (hb:b<=1) (w:World) :
  (callFunc 185 #[.int .u64 0, .int .u64 y, .int .u64 b]).run Tryz.prog w =
   .ok (.value (.tuple #[.int .u64 (((18446744073709551616 - y - b) % 18446744073709551616:Nat):Int), .int .u64 ((if 0<y+b then 1 else 0:Nat):Int)])) w:=by
 have h:=akP 0 y b hb w
 rw[gD]at h
 exact h
theorem akS (y:Nat) (w:World) :
  (callFunc 185 #[.int .u64 0, .int .u64 y, .int .u64 0]).run Tryz.prog w =
   .ok (.value (.tuple #[.int .u64 (((18446744073709551616 - y) % 18446744073709551616:Nat):Int), .int .u64 ((if 0<y then 1 else 0:Nat):Int)])) w:=XZ y 0 (by omega) w
theorem Hd (n:Int):wrap64 n=am.wrap n:=by rw[FF];unfold wrap64;omega
set_option maxHeartbeats 4000000 in
set_option maxRecDepth 100000 in
theorem akT (a b:Int) (h l:Nat) (a0 : -9223372036854775808<=a) (a1:a<=9223372036854775807) (b0 : -9223372036854775808<=b) (b1:b<=9223372036854775807)
  (hM : ∀w,Calls Tryz.prog 59 #[.int .u64 (a.natAbs:Int), .int .u64 (b.natAbs:Int)] w fun e w'=>e = .returned (.tuple #[.int .u64 (h:Int), .int .u64 (l:Int)])/\w'=w) (w:World) :
  Calls Tryz.prog 159 #[.int .i64 a, .int .i64 b] w fun e w'=>∃r1 r2:Int,e = .returned (.agg #[.int .i64 r1, .int .u64 r2])/\Below w.heap.size w w' /\
   (decide (a<0)=decide (b<0)->r1=am.wrap h/\r2=l) /\
   (decide (a<0)≠decide (b<0)->r1=am.wrap (((18446744073709551616 - h - (if 0<l then 1 else 0)) % 18446744073709551616:Nat):Int)/\r2=(((18446744073709551616 - l) % 18446744073709551616:Nat):Int)):=by
 obtain⟨d,bo,hd,hbo,s1⟩ : ∃d bo:Nat,d=(18446744073709551616 - l) % 18446744073709551616/\bo=(if 0<l then 1 else 0) /\ ∀w,(callFunc 185 #[.int .u64 0, .int .u64 l, .int .u64 0]).run Tryz.prog w =
   .ok (.value (.tuple #[.int .u64 (d:Int), .int .u64 (bo:Int)])) w:=⟨_,_,rfl,rfl,fun w=>akS l w⟩
 obtain⟨d2,b2,ni,hb2,s2⟩ : ∃d2 b2:Nat,d2=(18446744073709551616 - h - bo) % 18446744073709551616/\b2=(if 0<h+bo then 1 else 0) /\ ∀w,(callFunc 185 #[.int .u64 0, .int .u64 h, .int .u64 bo]).run Tryz.prog w =
   .ok (.value (.tuple #[.int .u64 (d2:Int), .int .u64 (b2:Int)])) w:=⟨_,_,rfl,rfl,fun w=>XZ h bo (by rw[hbo];split<;>omega) w⟩
 have hS : ∀n:Int, -9223372036854775808<=n->n<=9223372036854775807 -> ∀w,Calls Tryz.prog 60 #[.int .i64 n] w fun e w'=>e = .returned (.int .u64 (n.natAbs:Int))/\w'=w:=XY
 rw[<-hbo,<-hd,<-ni]
 clear hd hbo ni hb2
 go_enter func159,ntmps159
 by_cases ha:a<0<;>by_cases hb:b<0
 .go_wp2_with (first | (go_at_call 60;refine(hS _ (by assumption) (by assumption) _).mono ?_;rintro e w' ⟨rfl,rfl⟩) | (go_at_call 59;refine(hM _).mono ?_;rintro e w' ⟨rfl,rfl⟩))
  go_returns
  exact⟨_,_,rfl,U2 (qw _ _) (bR _) _,fun _=>⟨Hd _,rfl⟩,fun hh=>absurd (by rw[aj (show a<0 by omega),aj (show b<0 by omega)]) hh⟩
 .go_wp2_with (first | (go_at_call 60;refine(hS _ (by assumption) (by assumption) _).mono ?_;rintro e w' ⟨rfl,rfl⟩) | (go_at_call 59;refine(hM _).mono ?_;rintro e w' ⟨rfl,rfl⟩))
  go_returns
  exact⟨_,_,rfl,U2 (qw _ _) (bR _) _,fun hh=>absurd hh (by rw[aj (show a<0 by omega),aH (show ¬b<0 by omega)];decide),fun _=>⟨Hd _,rfl⟩⟩
 .go_wp2_with (first | (go_at_call 60;refine(hS _ (by assumption) (by assumption) _).mono ?_;rintro e w' ⟨rfl,rfl⟩) | (go_at_call 59;refine(hM _).mono ?_;rintro e w' ⟨rfl,rfl⟩))
  go_returns
  exact⟨_,_,rfl,U2 (qw _ _) (bR _) _,fun hh=>absurd hh (by rw[aH (show ¬a<0 by omega),aj (show b<0 by omega)];decide),fun _=>⟨Hd _,rfl⟩⟩
 .go_wp2_with (first | (go_at_call 60;refine(hS _ (by assumption) (by assumption) _).mono ?_;rintro e w' ⟨rfl,rfl⟩) | (go_at_call 59;refine(hM _).mono ?_;rintro e w' ⟨rfl,rfl⟩))
  go_returns
  exact⟨_,_,rfl,U2 (qw _ _) (bR _) _,fun _=>⟨Hd _,rfl⟩,fun hh=>absurd (by rw[aH (show ¬a<0 by omega),aH (show ¬b<0 by omega)]) hh⟩
theorem akU (a b:Int) (a0 : -9223372036854775808<=a) (a1:a<=9223372036854775807) (b0 : -9223372036854775808<=b) (b1:b<=9223372036854775807) (w:World) :
  Calls Tryz.prog 159 #[.int .i64 a, .int .i64 b] w fun e w'=>e = .returned (.agg #[.int .i64 (ia (a*b)), .int .u64 (gz (a*b))])/\Below w.heap.size w w':=by
 have hA:a.natAbs<=9223372036854775808:=by omega
 have hB:b.natAbs<=9223372036854775808:=by omega
 have hP:a.natAbs*b.natAbs<=9223372036854775808*9223372036854775808:=vP hA hB
 have hpos:=akQ a b
 have hneg:=akR a b
 refine(akT a b _ _ a0 a1 b0 b1 (fun w=>Tryz.bits_Mul64 a.natAbs b.natAbs (by omega) (by omega) w) w).mono ?_
 rintro e w' ⟨r1,r2,rfl,hb,h1,h2⟩
 generalize a.natAbs*b.natAbs=p at *
 generalize a*b=v at *
 refine⟨?_,hb⟩
 unfold ia gz
 by_cases h:decide (a<0)=decide (b<0)
 .obtain⟨rfl,rfl⟩:=h1 h
  have hv:=hpos h
  have e1:am.wrap ((p / 18446744073709551616:Nat):Int)=v / 18446744073709551616:=by rw[FF];omega
  have e2:((p % 18446744073709551616:Nat):Int)=v % 18446744073709551616:=by omega
  rw[e1,e2]
 .obtain⟨rfl,rfl⟩:=h2 h
  have hv:=hneg h
  have e1:am.wrap (((18446744073709551616 - p / 18446744073709551616 - (if 0<p % 18446744073709551616 then 1 else 0)) % 18446744073709551616:Nat):Int)=v / 18446744073709551616:=by
   rw[FF]
   split<;>omega
  have e2:(((18446744073709551616 - p % 18446744073709551616) % 18446744073709551616:Nat):Int)=v % 18446744073709551616:=by omega
  rw[e1,e2]
def wV (v:Int):Value:= .agg #[.int .i64 (ia v), .int .u64 (gz v)]
def KL (v:Int):Bool:=decide (-85070591730234615865843651857942052864<=v)&&decide (v<=85070591730234615865843651857942052864)
def bz (a:Int):Bool:=decide (-9223372036854775808<=a)&&decide (a<=9223372036854775807)
namespace M
def eW (v:Int):AV:= .agg [.v (.int .i64 (ia v)), .v (.int .u64 (gz v))]
theorem akV {a b:Int}:eW a=eW b↔a=b:=by
 constructor
 .intro h
  simp only[eW,AV.agg.injEq,qq,AV.v.injEq,bh.injEq,true_and,and_true]at h
  rw[KF a,KF b,h.1,h.2]
 .rintro rfl;rfl
theorem akW {v:Int} (h:KL v=true) (w:World) (S:Nat->Prop):RV w S dP (eW v) (wV v):=by
 simp only[KL,aG,aM]at h
 refine⟨[.int .i64 (ia v), .int .u64 (gz v)],rfl,R0.v (w:=w) (S:=S) ?_,R0.v (w:=w) (S:=S) ?_,trivial⟩
 .show am.min<=_/\_<=am.max
  simp only[jB,iX,ii,fA]
  unfold ia
  simp
  omega
 .show aD.min<=_/\_<=aD.max
  simp only[jB,iX,ii,fA]
  unfold gz
  simp
  omega
theorem akX {P:Program} {f:FuncId} {cargs:Array Value} {w:World} {S:Nat->Prop} {rv:Value} {r:AV} (hlt : ∀b,S b->b<w.heap.size) (hr : ∀w S,RV w S dP r rv)
  (h:Calls P f cargs w fun e w'=>e = .returned rv/\Below w.heap.size w w') :
  Calls P f cargs w fun e w'=>∃v S' β',e = .returned v/\Below w.heap.size w w'/\(∀b,S b->S' b)/\(∀b,S' b->S b\/w.heap.size<=b) /\
   (∀b,S' b->b<w'.heap.size)/\(∀k k' x x',β' k=some x->β' k'=some x'->x.real=true->x'.real=true->x.b=x'.b->k=k') /\
   (∀k x,β' k=some x->x.real=true->w.heap.size<=x.b/\x.b<w'.heap.size /\ ¬S' x.b) /\
   (∀k x,β' k=some x -> ∃bl,an ([]:Heap) k=some bl/\bl.box=false/\(x.real=true->fy w' S' dP bl x)/\(x.real=false->bl.rows=[])) /\
   (∀k bl,an ([]:Heap) k=some bl -> ∃x,β' k=some x)/\RV w' S' β' r v:=by
 refine h.mono ?_
 rintro e w' ⟨rfl,hb⟩
 exact⟨rv,S,dP,rfl,hb,fun _ h=>h,fun _ h=> .inl h,fun b h=>l5 (hlt b h) hb.size,(fun _ _ _ _ h=>by cases h),(fun _ _ h=>by cases h),(fun _ _ h=>by cases h),(fun _ _ h=>by cases h),hr _ _⟩
theorem akY {a b:Int} (ha:bz a=true) (hb:bz b=true):KL (a*b)=true:=by
 simp only[bz,aG,aM]at ha hb
 have h1:a.natAbs<=9223372036854775808:=by omega
 have h2:b.natAbs<=9223372036854775808:=by omega
 have h3:a.natAbs*b.natAbs<=9223372036854775808*9223372036854775808:=vP h1 h2
 rw[<-Int.natAbs_mul]at h3
 simp only[KL,aG,aM]
 omega
section
variable (a b:Int)
def X0:List AV:=[vI a,vI b]
def tE (a:Int×Int):List AV:=X0 a.1 a.2
theorem akZ a a' (h:tE a=tE a'):a=a':=by
 simp only[tE,X0]at h
 try simp at h
 grind
theorem ak0:ac tE ([(vI a),(vI b)])=some (a,b):=ax akZ (a,b) rfl
def ak1:AV×Heap:=(eW (a*b),[])
def X3:Bool:=bz a&&bz b
end
def X4:aW:=aY 159 true tE (aT X3) (aT ak1)
theorem ak2:aX Tryz.prog au X4:=by
 refine io ⟨f159,by kernel_rfl,by kernel_rfl,by kernel_rfl⟩ (fun x hp _=>?_) (fun _ _=>⟨rfl,rfl⟩)
 obtain⟨a,b⟩:=x
 simp only[X3,aT,aG]at hp
 have hw:=akY hp.1 hp.2
 obtain⟨h1,h2⟩:=hp
 simp only[bz,aG,aM]at h1 h2
 exact dy.GY (akW hw) fun _ _ w S hG=>akU a b h1.1 h1.2 h2.1 h2.2 w
end M
def fK (a b:Int):Int:=bif decide (a<b) then -1 else bif decide (b<a) then 1 else 0
theorem aEP (x y:Int):fK x y=bif fK (ia x) (ia y) != 0 then fK (ia x) (ia y) else fK (gz x) (gz y):=by
 have hx:=KF x
 have hy:=KF y
 have b1:0<=gz x/\gz x<18446744073709551616:=by unfold gz;omega
 have b2:0<=gz y/\gz y<18446744073709551616:=by unfold gz;omega
 generalize ia x=p at *
 generalize ia y=q at *
 generalize gz x=a at *
 generalize gz y=b at *
 unfold fK
 by_cases h1:p<q
 .rw[aj h1,aj (show x<y by omega)];rfl
 .by_cases h2:q<p
  .rw[aH h1,aj h2,aH (show ¬x<y by omega),aj (show y<x by omega)];rfl
  .have:p=q:=by omega
   subst this
   rw[aH h1]
   by_cases h3:a<b
   .rw[aj h3,aj (show x<y by omega)];rfl
   .by_cases h4:b<a
    .rw[aH h3,aj h4,aH (show ¬x<y by omega),aj (show y<x by omega)];rfl
    .rw[aH h3,aH h4,aH (show ¬x<y by omega),aH (show ¬y<x by omega)];rfl
theorem aFm (x y:Int):decide (fK x y<=(0:Int))=decide (x<=y):=by
 unfold fK
 by_cases h1:y<x
 .rw[aH (show ¬x<y by omega),aj h1,aH (show ¬x<=y by omega)];rfl
 .rw[aH h1,aj (show x<=y by omega)]
  cases decide (x<y)<;>rfl
set_option maxHeartbeats 4000000 in
set_option maxRecDepth 100000 in
theorem ak3 (l d:Nat) (hd:0<d) (hl:l<18446744073709551616) (w:World) :
  Calls Tryz.prog 61 #[.int .u64 0, .int .u64 (l:Int), .int .u64 (d:Int)] w fun e w'=>e = .returned (.tuple #[.int .u64 ((l / d:Nat):Int), .int .u64 ((l % d:Nat):Int)])/\Below w.heap.size w w':=by
 have h1 : ¬(d:Int)=0:=by omega
 have h2 : ¬(d:Int)<=0:=by omega
 have h3:(0:Int)<(d:Int):=by omega
 go_enter func61,ntmps61
 go_wp2
 go_region
 all_goals (go_wp2;go_ret2;refine⟨?_,Below.drew (qw _ _)⟩)
 all_goals
  have e1:aD.wrap ((l:Int) / (d:Int))=((l / d:Nat):Int):=by
   have:=Nat.div_le_self l d
   rw[gR,<-Int.natCast_ediv]
   generalize l / d=q at *
   omega
  show Ending.returned (Value.tuple #[.int .u64 (aD.wrap ((l:Int) / (d:Int))), .int .u64 ((l:Int) % (d:Int))])=_
  rw[e1]
  rfl
namespace M
section
variable (a:Int)
theorem ak4:(aB dj false f212 [vI a]).val =
 some ((vB (a != a)),[]):=(cm).symm.trans (by kernel_rfl)
def He:List AV:=[vI a]
def tF:List AV:=He a
theorem ak5 a a' (h:tF a=tF a'):a=a':=by
 simp only[tF,He]at h
 try simp at h
 grind
theorem ak6:ac tF ([(vI a)])=some (a):=ax ak5 (a) rfl
def Nf (a:Int):AV×Heap:=(vB false,[])
def ak7 (a:Int):Bool:=true
def X5:aW:=aY 212 true tF ak7 Nf
theorem ak8:aX Tryz.prog au X5:=by
 refine cx f212 gL ?_
 rintro a hpre hok
 show(aB dj false _ (He _)).val=some (Nf _)
 unfold He Nf
 rw[ak4]
 rw[bne_self_eq_false]
theorem ak9:(aB dj false f213 [.v (.int .u64 a)]).val =
 some ((vB (a != a)),[]):=(cm).symm.trans (by kernel_rfl)
def Hf:List AV:=[.v (.int .u64 a)]
def tG:List AV:=Hf a
theorem ala a a' (h:tG a=tG a'):a=a':=by
 simp only[tG,Hf]at h
 try simp at h
 grind
theorem alb:ac tG ([AV.v (bh aD a)])=some (a):=ax ala (a) rfl
def Ng (a:Int):AV×Heap:=(vB false,[])
def alc (a:Int):Bool:=true
def X6:aW:=aY 213 true tG alc Ng
theorem ald:aX Tryz.prog au X6:=by
 refine cx f213 gL ?_
 rintro a hpre hok
 show(aB dj false _ (Hf _)).val=some (Ng _)
 unfold Hf Ng
 rw[ak9]
 rw[bne_self_eq_false]
def Nh:Env:=bq ty au bp [X5] [] [] []
theorem ale:aZ Tryz.prog Nh:=bG (aI ak8 bF)
theorem alf (b:Int):(aB Nh false f186 [vI a,vI b]).val =
 ai (ac tF [(vI a)]) fun z=>ai (ac tF [(vI b)]) fun z=>bif decide (a<b) then some ((vI (-1:Int)),[]) else bif
 decide (b<a) then some ((vI 1),[]) else some ((vI 0),[]):=(cm).symm.trans (by kernel_rfl)
def Hg (b:Int):List AV:=[vI a,vI b]
def xn (a:Int×Int):List AV:=Hg a.1 a.2
theorem alg a a' (h:xn a=xn a'):a=a':=by
 simp only[xn,Hg]at h
 try simp at h
 grind
theorem alh (b:Int):ac xn ([(vI a),(vI b)])=some (a,b):=ax alg (a,b) rfl
def Ni (b:Int):AV×Heap:=(vI (fK a b),[])
def ali (a:Int) (b:Int):Bool:=true
def X7:aW:=aY 186 true xn (aT ali) (aT Ni)
theorem alj:aX Tryz.prog au X7:=by
 refine cx f186 ale ?_
 rintro⟨a,b⟩ hpre hok
 show(aB Nh false _ (Hg _ _)).val=some (Ni _ _)
 unfold Hg Ni
 rw[alf]
 simp only[ak6,ar,fK]
 cases decide (a<b)<;>cases decide (b<a)<;>rfl
def Nj:Env:=bq ty au bp [X6] [] [] []
theorem alk:aZ Tryz.prog Nj:=bG (aI ald bF)
theorem alm (b:Int):(aB Nj false f187 [.v (.int .u64 a), .v (.int .u64 b)]).val =
 ai (ac tG [AV.v (bh aD a)]) fun z=>ai (ac tG [AV.v (bh aD b)]) fun z=>bif decide (a <
 b) then some ((vI (-1:Int)),[]) else bif decide (b<a) then some ((vI 1),[]) else some ((vI 0),[]):=(cm).symm.trans (by kernel_rfl)
def Hh (b:Int):List AV:=[.v (.int .u64 a), .v (.int .u64 b)]
def xo (a:Int×Int):List AV:=Hh a.1 a.2
theorem aln a a' (h:xo a=xo a'):a=a':=by
 simp only[xo,Hh]at h
 try simp at h
 grind
theorem alo (b:Int):ac xo ([AV.v (bh aD a),AV.v (bh aD b)])=some (a,b):=ax aln (a,b) rfl
def Nk (b:Int):AV×Heap:=(vI (fK a b),[])
end
section
variable (x y:Int)
def alp (a:Int) (b:Int):Bool:=true
def X8:aW:=aY 187 true xo (aT alp) (aT Nk)
theorem alq:aX Tryz.prog au X8:=by
 refine cx f187 alk ?_
 rintro⟨a,b⟩ hpre hok
 show(aB Nj false _ (Hh _ _)).val=some (Nk _ _)
 unfold Hh Nk
 rw[alm]
 simp only[alb,ar,fK]
 cases decide (a<b)<;>cases decide (b<a)<;>rfl
def Nl:Env:=bq ty au bp [X7,X8] [] [] []
theorem alr:aZ Tryz.prog Nl:=bG (aI alj (aI alq bF))
theorem als:(aB Nl false f160 [eW x,eW y]).val =
 ai (ac xn [(vI (ia x)),(vI (ia y))]) fun z=>bif fK z.1 z.2 != 0 then some ((vI (fK z.1 z.2)),[]) else
 ai (ac xo [AV.v (bh aD (gz x)),AV.v (bh aD (gz y))]) fun z=>some ((vI (fK z.1 z.2)),[]):=(cm).symm.trans (by kernel_rfl)
def Hi:List AV:=[eW x,eW y]
def xp (a:Int×Int):List AV:=Hi a.1 a.2
theorem alt a a' (h:xp a=xp a'):a=a':=by
 simp only[xp,Hi]at h
 try simp[akV]at h
 grind
theorem alu:ac xp ([AV.agg [(vI (ia x)),AV.v (bh aD (gz x))],AV.agg [(vI (ia y)),AV.v (bh aD (gz y))]])=some (x,y):=ax alt (x,y) rfl
def Nn:AV×Heap:=(vI (fK x y),[])
end
def alv (x:Int) (y:Int):Bool:=true
def X9:aW:=aY 160 true xp (aT alv) (aT Nn)
theorem alw:aX Tryz.prog au X9:=by
 refine cx f160 alr ?_
 rintro⟨x,y⟩ hpre hok
 show(aB Nl false _ (Hi _ _)).val=some (Nn _ _)
 unfold Hi Nn
 rw[als]
 rw[aEP x y]
 simp only[alh,alo,ar]
 cases fK (ia x) (ia y) != 0<;>rfl
end M
namespace F
def jl (x y:Nat):Nat:=x*y / 18446744073709551616
def lE (x y:Nat):Nat:=x*y % 18446744073709551616
def dq (l d:Nat):Nat:=l / d
def dr (l d:Nat):Nat:=l % d
def gV (way:Int) (neg:Bool) (r d:Int):Bool:=bif way==1 then neg&&decide (0<r) else bif way==3 then !neg&&decide (0<r) else decide (d - r<=r)
def No (n m d:Int):Nat:=n.natAbs*m.natAbs / d.natAbs
def Ya (n m d:Int):Nat:=n.natAbs*m.natAbs % d.natAbs
def Np (n m d way:Int):Int:=bif gV way (decide (n<0)) (Ya n m d) d then (No n m d:Int)+1 else (No n m d:Int)
def Nq (n m d way:Int):Int:=bif decide (1152921504606846976<Np n m d way) then 1152921504606846976 else Np n m d way
def gW (n m d way:Int):Int:=bif decide (n<0) then -(Nq n m d way) else Nq n m d way
end F
end Go.Proofs.YtaobkfpnebbohaaGreatDoor
