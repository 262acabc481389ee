/- What is proved here: what functions of slices of numbers return on plain data (no statement of the seat). -/
import Derived.Lib.SplitLaws
import Derived.Lib.ItoaNum
import Derived.Lib.ItoaLen
import Derived.Lib.Repeat
import Derived.Sort.OwnSortedInts
import Derived.WalkKit
import Derived.Lib.Walk
import Derived.Lib.SliceRun
import Derived.Lib.JoinLaws
import Derived.Lib.AppendZeros
import Derived.Lib.AppendZerosOnto
import Derived.Lib.Overlaps
import Derived.Laws.Externs
import Derived.Laws.CopyRow
import Derived.Laws.NewBlocks
import Derived.Deep.RegionLaw
import Derived.Test.YtaobkfpnebbohaaGreatDoorRX2
open Go.Proofs.Tryz
open Array renaming ext'→vE,mk→aA
open Bool renaming and_eq_true→aG,and_eq_true_iff→aFL,and_self→bT,and_true→aS,cond_eq_ite→agJ,false_and→qD,false_or→nF,not_eq_true'→mD,not_false→dt,not_true→dC,true_and→fM
open ByteArray renaming ext→agK,extract→vV,mk→az,size→aJ,size_append→gE,size_extract→K1,toList→cU
open Classical renaming choose→La,choose_spec→Lb
open Go.IntKind renaming bits→fA,i64→am,max→iX,min→jB,signed→ii,u64→aD,wrap→bQ,wrap_i64→FF,wrap_u64→gR
open Go.Lib renaming bitLen→nE,bitLen_le→agI,compact→vO,compactUpTo→U8,countB→vN,decDigits→FG,decDigits_two→U7,index→ja,size_eq→U5,split→U3,splitB→Lf,splitK→sP
open Go.RowKit.Below renaming refl→qw
open Go.Sort renaming ahead→Lc
open Go.Value renaming int→bh,string→B4
open Go.World renaming cell?→lW
open Int renaming ediv→vR,eq_ofNat_of_zero_le→nG,fdiv→qB,fdiv_eq_ediv_of_nonneg→UM,natCast_mul→sJ,pow→B5,tdiv→ix,tmod→vT,tmod_eq_emod_of_nonneg→FI,toNat→sO
open List renaming all→fx,all_eq_true→bP,append_assoc→cq,append_nil→gH,concat_eq_append→aFR,cons_append→k6,drop→bn,drop_drop→sE,drop_eq_getElem_cons→pe,drop_left→sQ,drop_length→mA,drop_zero→df,eq_nil_or_concat→aFQ,filter_append→ot,filter_cons→vM,filter_cons_of_neg→agN,filter_cons_of_pos→Lm,forall_mem_cons→gQ,getD→al,getElem?_append_left→mC,getElem?_append_right→kw,getElem?_cons_succ→qu,getElem?_eq_getElem→bC,getElem?_eq_some_iff→cO,getElem?_map→dM,isPrefixOf→Lj,length→ae,length_append→ck,length_drop→fe,length_eq_zero_iff→jb,length_map→aN,length_nil→i6,length_reverse→aFP,length_set→FL,length_singleton→ou,length_take→eY,map→ab,map_cons→gP,mem_append→dn,mem_cons→cK,mem_cons_of_mem→iH,mem_cons_self→dN,mem_filter→nD,mem_iff_getElem→pi,mem_map→eQ,mem_of_getElem?→cL,mem_singleton→i7,mergeSort_perm→agL,nil_append→eh,pairwise_append→mE,pairwise_cons→l6,pairwise_iff_getElem→vY,replicate→ig,reverse_reverse→K9,set→sR,set_append_right→agO,set_cons_zero→aFN,take_append_drop→nA,take_left→nH,take_of_length_le→B6,zipIdx→lh
open List.cons renaming inj→aFM,injEq→qq
open Nat renaming add_assoc→K0,add_mul→fB,add_sub_cancel→vQ,add_sub_cancel_left→aFO,add_zero→jP,ble→aP,div_add_mod→vG,div_add_mod'→Lh,div_div_eq_div_mul→aFI,div_eq_of_lt→FD,div_le_self→Lg,div_lt_iff_lt_mul→FE,div_mul_le_self→aFK,le_refl→bR,le_trans→iW,lt_of_lt_of_le→l5,mod_eq_of_lt→BV,mod_lt→sK,mul_add→agE,mul_assoc→agF,mul_comm→oq,mul_div_mul_right→aFJ,mul_le_mul→vP,mul_le_mul_right→iY,pow_add→agG,pow_pos→agH,sub_self→qE,zero_add→gD,zero_le→cf,zero_mul→qC
open Nat.succ renaming inj→Lo
open Option renaming bind→ai,bind_some→ar,getD_some→k7,map_eq_some_iff→eZ,map_some→lZ
open Option.some renaming inj→jC,injEq→eX
open UInt8 renaming toNat→dF
noncomputable section
namespace Go.Proofs.YtaobkfpnebbohaaGreatDoor
open Go Go.RowKit
set_option linter.unusedVariables false
set_option linter.unusedSimpArgs false
set_option maxHeartbeats 1000000
namespace M
section
variable (way:Int) (neg:Bool) (r d:Int)
theorem alx:(aB dj false f62 [vI way,vB neg, .v (.int .u64 r), .v (.int .u64 d)]).val =
 bif way==1 then some ((vB (bif neg then decide ((0:Int)<r) else false)),[]) else bif way==3 then some ((vB (bif !neg then decide ((0:Int)<r)
 else false)),[]) else some ((vB (decide (bQ aD (d - r)<=r))),[]):=(cm).symm.trans (by kernel_rfl)
def Hn:List AV:=[vI way,vB neg, .v (.int .u64 r), .v (.int .u64 d)]
def pD (a:Int×Bool×Int×Int):List AV:=Hn a.1 a.2.1 a.2.2.1 a.2.2.2
theorem aly a a' (h:pD a=pD a'):a=a':=by
 simp only[pD,Hn]at h
 try simp at h
 grind
theorem Yb:ac pD ([(vI way),(vB neg),AV.v (bh aD r),AV.v (bh aD d)])=some (way,neg,r,d):=ax aly (way,neg,r,d) rfl
def Nr:AV×Heap:=(vB (F.gV way neg r d),[])
end
def Yc (way:Int) (neg:Bool) (r:Int) (d:Int):Bool:=decide (0<=r)&&decide (r<=d)&&decide (d<=18446744073709551615)
def Ns:aW:=aY 62 true pD (cD Yc) (cD Nr)
theorem Ye:aX Tryz.prog au Ns:=by
 refine cx f62 gL ?_
 rintro⟨way,neg,r,d⟩ hpre hok
 show(aB dj false _ (Hn _ _ _ _)).val=some (Nr _ _ _ _)
 unfold Hn Nr
 rw[alx]
 simp only[Yc,cD,aG,aM]at hpre
 obtain⟨⟨h1,h2⟩,h3⟩:=hpre
 have w1:aD.wrap (d - r)=d - r:=by rw[gR];omega
 simp only[w1,F.gV]
 cases way==1
 .cases way==3
  .rfl
  .cases neg<;>rfl
 .cases neg<;>rfl
def Yf (n:Int):List AV:=[vI n]
def tH (a:Int):List AV:=Yf a
theorem alz a a' (h:tH a=tH a'):a=a':=by
 simp only[tH,Yf]at h
 try simp at h
 grind
theorem Yg (n:Int):ac tH ([(vI n)])=some (n):=ax alz (n) rfl
section
variable (x y:Nat)
def alA (n:Int):AV×Heap:=(.v (.int .u64 (n.natAbs:Int)),[])
def Yh (n:Int):Bool:=bz n
def Nt:aW:=aY 60 true tH Yh alA
theorem Nu {n:Nat} (h:n<18446744073709551616):dh (.int .u64 (n:Int)):=by
 show aD.min<=_/\_<=aD.max
 simp only[jB,iX,ii,fA]
 simp
 omega
theorem Yi:aX Tryz.prog au Nt:=by
 refine io ⟨f60,by kernel_rfl,by kernel_rfl,by kernel_rfl⟩ (fun n hp _=>?_) (fun _ _=>⟨rfl,rfl⟩)
 simp only[Yh,bz,aG,aM]at hp
 refine dy.CV (fun w S=>dO (Nu (by omega))) fun _ w S hG=>?_
 refine(XY n hp.1 hp.2 w).mono ?_
 rintro e w' ⟨he,rfl⟩
 exact⟨he,qw _ _⟩
def Yj:List AV:=[.v (.int .u64 x), .v (.int .u64 y)]
def tI (a:Nat×Nat):List AV:=Yj a.1 a.2
theorem alB a a' (h:tI a=tI a'):a=a':=by
 simp only[tI,Yj]at h
 try simp at h
 grind
theorem Yk:ac tI ([AV.v (bh aD (↑x:Int)),AV.v (bh aD (↑y:Int))])=some (x,y):=ax alB (x,y) rfl
def alC:AV×Heap:=(.aF [.v (.int .u64 (F.jl x y:Nat)), .v (.int .u64 (F.lE x y:Nat))],[])
def Yl:Bool:=decide (x<18446744073709551616)&&decide (y<18446744073709551616)
end
def Nv:aW:=aY 59 true tI (aT Yl) (aT alC)
theorem Ym {a b:Nat} (ha:a<18446744073709551616) (hb:b<18446744073709551616) (w:World) (S:Nat->Prop):RV w S dP (.aF [.v (.int .u64 (a:Int)), .v (.int .u64 (b:Int))]) (.tuple #[.int .u64 (a:Int), .int .u64 (b:Int)]):=
 ⟨[.int .u64 (a:Int), .int .u64 (b:Int)],rfl,R0.v (w:=w) (S:=S) (Nu ha),R0.v (w:=w) (S:=S) (Nu hb),trivial⟩
theorem Yn:aX Tryz.prog au Nv:=by
 refine io ⟨f59,by kernel_rfl,by kernel_rfl,by kernel_rfl⟩ (fun z hp _=>?_) (fun _ _=>⟨rfl,rfl⟩)
 obtain⟨x,y⟩:=z
 simp only[Yl,aT,aG,aM]at hp
 have h1:x*y<=18446744073709551615*18446744073709551615:=vP (by omega) (by omega)
 refine dy.GY (Ym (by show x*y / 18446744073709551616<_;generalize x*y=p at h1;omega) (by unfold F.lE;omega)) fun _ _ w S hG=>?_
 refine(Tryz.bits_Mul64 x y hp.1 hp.2 w).mono ?_
 rintro e w' ⟨he,rfl⟩
 exact⟨he,qw _ _⟩
section
variable (l d:Nat)
def Yo:List AV:=[.v (.int .u64 0), .v (.int .u64 l), .v (.int .u64 d)]
def xq (a:Nat×Nat):List AV:=Yo a.1 a.2
theorem alD a a' (h:xq a=xq a'):a=a':=by
 simp only[xq,Yo]at h
 try simp at h
 grind
theorem alE:ac xq ([AV.v (bh aD (0:Int)),AV.v (bh aD (↑l:Int)),AV.v (bh aD (↑d:Int))])=some (l,d):=ax alD (l,d) rfl
def alF:AV×Heap:=(.aF [.v (.int .u64 (F.dq l d:Nat)), .v (.int .u64 (F.dr l d:Nat))],[])
def Yp:Bool:=decide (0<d)&&decide (l<18446744073709551616)
end
def Yq:aW:=aY 61 true xq (aT Yp) (aT alF)
theorem alG:aX Tryz.prog au Yq:=by
 refine io ⟨f61,by kernel_rfl,by kernel_rfl,by kernel_rfl⟩ (fun z hp _=>?_) (fun _ _=>⟨rfl,rfl⟩)
 obtain⟨l,d⟩:=z
 simp only[Yp,aT,aG,aM]at hp
 have h1:=Lg l d
 have h2:=Nat.mod_le l d
 have hr:=Ym (a:=F.dq l d) (b:=F.dr l d) (by unfold F.dq;omega) (by unfold F.dr;omega)
 intro w S cargs hlt hg hargs
 match cargs,hargs with
 | [u,v,t],⟨r1,r2,r3,_⟩=>
  obtain⟨rfl,_⟩:=dD r1
  obtain⟨rfl,_⟩:=dD r2
  obtain⟨rfl,_⟩:=dD r3
  exact akX hlt hr (ak3 l d hp.1 hp.2 w)
def Nw:Env:=bq ty au bp [Nt,Nv,Yq,Ns] [] [] []
theorem alH:aZ Tryz.prog Nw:=bG (aI Yi (aI Yn (aI alG (aI Ye bF))))
section
variable (n m d way:Int)
theorem alI:(aB Nw false Tryz.f31 [vI n,vI m,vI d,vI way]).val =
 (fun(q:List AV)=>(fun(q_1:Option (AV×Heap))=>ai (ac tH [(vI n)]) fun z=>bif bz z then ai (ac tI [AV.v (bh
 aD (↑(Int.natAbs z):Int)),AV.v (bh aD (bQ aD m))]) fun z=>bif decide (z.1<18446744073709551616)
 && decide (z.2<18446744073709551616) then bif decide ((↑(F.jl z.1 z.2):Int)<bQ aD d) then ai (ac xq (AV.v
 (bh aD (↑(F.jl z.1 z.2):Int))::AV.v (bh aD (↑(F.lE z.1 z.2):Int))::q)) fun z=>(fun(q_2:Int)=>(fun
 (q_3:Int)=>(fun(q_4:Int)=>bif decide ((0:Nat)<z.2)&&decide (z.1<18446744073709551616) then ai (ac pD ((vI way)::(vB (decide
 (n<0)))::AV.v (bh aD (↑(F.dr z.1 z.2):Int))::q)) fun z=>bif decide ((0:Int)<=z.2.2.1)&&decide
 (z.2.2.1<=z.2.2.2)&&decide (z.2.2.2<=18446744073709551615) then bif F.gV z.1 z.2.1 z.2.2.1 z.2.2.2 then bif decide
 ((1152921504606846976:Int)<q_3) then q_1 else bif decide (n<0) then some ((vI (am.wrap ((0:Int) - q_4))),[]) else some ((vI q_4),[])
 else bif decide ((1152921504606846976:Int)<q_2) then q_1 else bif decide (n<0) then some ((vI (am.wrap ((0:Int) - bQ am
 q_2))),[]) else some ((vI (am.wrap q_2)),[]) else none else none) (am.wrap q_3)) (bQ aD (q_2+1))) (↑(F.dq
 z.1 z.2):Int) else ai (ac pD ((vI way)::(vB (decide (n<0)))::AV.v (bh aD (0:Int))::q)) fun z=>bif decide ((0:Int)<=z.2.2.1)&&decide (z.2.2.1<=z.2.2.2)&&decide (z.2.2.2<=18446744073709551615) then bif F.gV z.1
 z.2.1 z.2.2.1 z.2.2.2 then q_1 else q_1 else none else none else none) (bif decide (n<0) then some ((vI (am.wrap ((0:Int) -
 am.wrap (1152921504606846976:Int)))),[]) else some ((vI (am.wrap (1152921504606846976:Int))),[]))) [AV.v (bh aD
 (bQ aD d))]:=(cm).symm.trans (by kernel_rfl)
def Ho:List AV:=[vI n,vI m,vI d,vI way]
def pE (a:Int×Int×Int×Int):List AV:=Ho a.1 a.2.1 a.2.2.1 a.2.2.2
theorem alJ a a' (h:pE a=pE a'):a=a':=by
 simp only[pE,Ho]at h
 try simp at h
 grind
theorem xr:ac pE ([(vI n),(vI m),(vI d),(vI way)])=some (n,m,d,way):=ax alJ (n,m,d,way) rfl
def Nx:AV×Heap:=(vI (F.gW n m d way),[])
def Yr (way:Int):Bool:=bz n&&decide (0<=m)&&decide (m<=1000000)&&decide (1<=d)&&decide (d<=9223372036854775807)&&decide (n.natAbs*m.natAbs<9223372036854775808)
end
def Hp:aW:=aY 31 true pE (cD Yr) (cD Nx)
theorem Ny:aX Tryz.prog au Hp:=by
 refine cx Tryz.f31 alH ?_
 rintro⟨n,m,d,way⟩ hpre hok
 show(aB Nw false _ (Ho _ _ _ _)).val=some (Nx _ _ _ _)
 unfold Ho Nx
 rw[alI]
 simp only[Yr,cD,aG,aM]at hpre
 obtain⟨⟨⟨⟨⟨h1,h2⟩,h3⟩,h4⟩,h5⟩,h6⟩:=hpre
 have hn:=h1
 simp only[bz,aG,aM]at hn
 have w1:aD.wrap m=((m.natAbs:Nat):Int):=by rw[gR];omega
 have w2:aD.wrap d=((d.natAbs:Nat):Int):=by rw[gR];omega
 have w3:((F.jl n.natAbs m.natAbs:Nat):Int)=0:=by unfold F.jl;omega
 have w4:F.lE n.natAbs m.natAbs=n.natAbs*m.natAbs:=by unfold F.lE;omega
 have hd:((d.natAbs:Nat):Int)=d:=by omega
 have hr:F.dr (n.natAbs*m.natAbs) d.natAbs<d.natAbs:=sK _ (by omega)
 have hq:F.dq (n.natAbs*m.natAbs) d.natAbs<=n.natAbs*m.natAbs:=Lg _ _
 simp only[Yg,Yk,alE,Yb,ar,ak,h1,w1,w2,w3,w4]
 simp (disch:=omega) only [aj,bT,ak]
 unfold F.gW F.Nq F.Np
 rw[show F.No n m d=F.dq (n.natAbs*m.natAbs) d.natAbs from rfl,show F.Ya n m d=F.dr (n.natAbs*m.natAbs) d.natAbs from rfl,hd]
 generalize F.dq (n.natAbs*m.natAbs) d.natAbs=q at *
 generalize F.dr (n.natAbs*m.natAbs) d.natAbs=r at *
 generalize n.natAbs*m.natAbs=p at *
 have u1:aD.wrap ((q:Int)+1)=(q:Int)+1:=by rw[gR];omega
 rw[u1]
 have key : ∀x:Int,0<=x->x<=1152921504606846976->am.wrap x=x/\am.wrap (0 - x) = -x:=fun x h1 h2=>by
  rw[FF,FF];omega
 have kF:=key 1152921504606846976 (by omega) (by omega)
 cases F.gV way (decide (n<0)) (r:Int) d
 .simp only[ap]
  by_cases hx:(1152921504606846976:Int)<q
  .rw[aj hx]
   cases decide (n<0)<;>simp only[ak,ap,kF.1,kF.2]
  .rw[aH hx]
   have k1:=key q (by omega) (by omega)
   cases decide (n<0)<;>simp only[ak,ap,k1.1,k1.2]
 .simp only[ak]
  by_cases hx:(1152921504606846976:Int)<q+1
  .rw[aj hx]
   cases decide (n<0)<;>simp only[ak,ap,kF.1,kF.2]
  .rw[aH hx]
   have k1:=key (q+1) (by omega) (by omega)
   cases decide (n<0)<;>simp only[ak,ap,k1.1,k1.2]
end M
namespace F
theorem Ys {u d y1 y0 q r:Nat} (h:q*y1+r=u) (hd:d<4294967296) (h0:y0<4294967296) (hu:u<y1*4294967296+y0) (hy:0<y1) (hQ:(u*4294967296+d) / (y1*4294967296+y0)<=q)
  (hx:(q<4294967296/\q*y0<=4294967296*r+d)\/4294967296<=r):(u*4294967296+d) / (y1*4294967296+y0)=q:=by
 refine Nat.le_antisymm hQ ((Nat.le_div_iff_mul_le (by omega)).2 ?_)
 rw[agE,<-agF]
 rcases hx with ⟨h1,h2⟩ | h1
 .generalize q*y1=P at *
  generalize q*y0=S at *
  omega
 .have h2:q*y1<4294967296*y1:=by
   generalize q*y1=P at *
   omega
  have h3:q<4294967296:=Nat.lt_of_mul_lt_mul_right h2
  have h4:q*y0<=4294967296*4294967296:=vP (by omega) (by omega)
  generalize q*y1=P at *
  generalize q*y0=S at *
  omega
theorem alK {u d y1 y0 q r:Nat} (h:q*y1+r=u) (hd:d<4294967296) (hu:u<y1*4294967296+y0) (hy:0<y1)
  (hx:4294967296<=q\/4294967296*r+d<q*y0):(u*4294967296+d) / (y1*4294967296+y0)<q:=by
 rw[FE (by omega)]
 rcases hx with h1 | h1
 .have h2:4294967296*(u+1)<=q*(y1*4294967296+y0):=vP h1 (by omega)
  omega
 .rw[agE,<-agF]
  generalize q*y1=P at *
  generalize q*y0=S at *
  omega
theorem alL {u d y1 y0:Nat} (hd:d<4294967296) (hy:0<y1):(u*4294967296+d) / (y1*4294967296+y0)<=u / y1:=by
 refine iW (Nat.div_le_div_left (Nat.le_add_right _ y0) (by omega)) ?_
 rw[oq y1,<-aFI]
 have:(u*4294967296+d) / 4294967296=u:=by omega
 rw[this]
 exact bR _
theorem alM {B N y k u e1 e0 q1 v q0 r:Nat} (hk:0<k) (hN:N*k=(u*B+e1)*B+e0)
  (h1:u*B+e1=y*k*q1+v) (h2:v*B+e0=y*k*q0+r) (hr:r<y*k):q1*B+q0=N / y/\r / k=N % y:=by
 have hY:0<y*k:=Nat.lt_of_le_of_lt (cf _) hr
 have hall:N*k=(y*k)*(q1*B+q0)+r:=by
  rw[hN,h1,fB,K0,h2,agE,<-agF,K0]
 have d1:N*k / (y*k)=q1*B+q0:=by
  rw[hall,Nat.mul_add_div hY,FD hr,jP]
 have d2:N*k % (y*k)=r:=by
  rw[hall,Nat.mul_add_mod,BV hr]
 rw[aFJ _ _ hk]at d1
 rw[Nat.mul_mod_mul_right]at d2
 refine⟨d1.symm,?_⟩
 rw[<-d2,Nat.mul_div_cancel _ hk]
theorem alN {hi lo k j W:Nat} (hj:j*k=W) (hk:0<k):(hi*W+lo)*k=(hi*k+lo / j)*W+lo*k % W:=by
 have h:=vG (lo*k) W
 have e:lo*k / W=lo / j:=by rw[<-hj,aFJ _ _ hk]
 rw[e]at h
 rw[fB,fB,Nat.mul_right_comm,K0,oq (lo / j) W,h]
theorem alO {y s:Nat} (hl:2 ^ (63 - s)<=y) (hu:y<2 ^ (64 - s)) (hs:s<=63):9223372036854775808<=y*2 ^ s/\y*2 ^ s<18446744073709551616:=by
 have e1:2 ^ (63 - s)*2 ^ s=9223372036854775808:=by rw[<-agG,show 63 - s+s=63 by omega]
 have e2:2 ^ (64 - s)*2 ^ s=18446744073709551616:=by rw[<-agG,show 64 - s+s=64 by omega]
 have hp:0<2 ^ s:=agH (by decide)
 exact⟨by rw[<-e1];exact iY _ hl,by rw[<-e2];exact Nat.mul_lt_mul_of_pos_right hu hp⟩
def lz (y:Nat):Nat:=64 - nE y
theorem alP {y:Nat} (h0:0<y) (h:y<18446744073709551616):lz y<=63/\2 ^ (63 - lz y)<=y/\y<2 ^ (64 - lz y):=by
 have h1:=Lib.bitLenAux_bounds 64 y (by omega) (by omega)
 have h2:nE y<=64:=agI y 64 (bR _) (by omega)
 have e:Lib.bitLenAux 64 y=nE y:=rfl
 rw[e]at h1
 unfold lz
 refine⟨by omega,?_,?_⟩
 .rw[show 63 - (64 - nE y)=nE y - 1 by omega];exact h1.2.1
 .rw[show 64 - (64 - nE y)=nE y by omega];exact h1.2.2
end F
namespace M
section
variable (y:Nat)
def Yt:List AV:=[.v (.int .u64 y)]
def xt (a:Nat):List AV:=Yt a
theorem alQ a a' (h:xt a=xt a'):a=a':=by
 simp only[xt,Yt]at h
 try simp at h
 grind
theorem alR:ac xt ([AV.v (bh aD (↑y:Int))])=some (y):=ax alQ (y) rfl
def alS:AV×Heap:=(vI (nE y:Nat),[])
def alT:Bool:=decide (y<18446744073709551616)
def Yu:aW:=aY 143 true xt alT alS
theorem alU:aX Tryz.prog au Yu:=by
 refine io ⟨Tryz.f143,by kernel_rfl,by kernel_rfl,by kernel_rfl⟩ (fun y hp _=>?_) (fun _ _=>⟨rfl,rfl⟩)
 have hp:y<18446744073709551616:=of_decide_eq_true hp
 have hl:nE y<=64:=agI y 64 (bR _) (by omega)
 refine dy.CV (fun w S=>dO (by show am.min<=_/\_<=am.max;simp only[jB,iX,ii,fA];simp;omega)) fun _ w S hG=>?_
 refine(Tryz.bits_Len64 (y:Int) w (by omega) (by omega)).mono ?_
 rintro e w' ⟨he,rfl⟩
 refine⟨?_,qw _ _⟩
 rw[he,show((y:Int)).toNat=y by omega]
def Nz:Env:=bq ty au bp [Yu] [] [] []
theorem alV:aZ Tryz.prog Nz:=bG (aI alU bF)
theorem alW:(aB Nz false f112 [.v (.int .u64 y)]).val =
 ai (ac xt [AV.v (bh aD (↑y:Int))]) fun z=>bif decide (z<18446744073709551616) then some ((vI (bQ
 am ((64:Int) - (↑(nE z):Int)))),[]) else none:=(cm).symm.trans (by kernel_rfl)
def Hq:List AV:=[.v (.int .u64 y)]
def xu (a:Nat):List AV:=Hq a
theorem alX a a' (h:xu a=xu a'):a=a':=by
 simp only[xu,Hq]at h
 try simp at h
 grind
theorem Yv:ac xu ([AV.v (bh aD (↑y:Int))])=some (y):=ax alX (y) rfl
def NA:AV×Heap:=(vI (F.lz y:Nat),[])
def alY:Bool:=decide (y<18446744073709551616)
end
def Yw:aW:=aY 112 true xu alY NA
theorem alZ:aX Tryz.prog au Yw:=by
 refine cx f112 alV ?_
 rintro y hpre hok
 show(aB Nz false _ (Hq _)).val=some (NA _)
 unfold Hq NA
 rw[alW]
 have hp:y<18446744073709551616:=of_decide_eq_true hpre
 have hl:nE y<=64:=agI y 64 (bR _) (by omega)
 have w1:am.wrap (64 - ((nE y:Nat):Int))=((F.lz y:Nat):Int):=by rw[cA (by omega) (by omega)];unfold F.lz;omega
 simp only[alR,ar,ak,aj hp,w1]
 try rfl
end M
end Go.Proofs.YtaobkfpnebbohaaGreatDoor
namespace Go.Proofs.YtaobkfpnebbohaaGreatDoor
open Go Go.RowKit
set_option linter.unusedVariables false
set_option linter.unusedSimpArgs false
set_option maxRecDepth 100000
namespace F
def mg (hi lo y:Nat):Nat:=(hi*18446744073709551616+lo) / y
def oM (hi lo y:Nat):Nat:=(hi*18446744073709551616+lo) % y
def tJ (n:Nat):Nat:=La (⟨n,rfl⟩ : ∃m,m=n)
theorem C1 (n:Nat):tJ n=n:=Lb (⟨n,rfl⟩ : ∃m,m=n)
def gX (u d y1 y0:Nat):Nat:=(u*4294967296+d) / (y1*4294967296+y0)
def kL (u d y1 y0 q r:Nat):Bool:=decide (q*y1+r=u)&&decide (u<y1*4294967296+y0)&&decide (gX u d y1 y0<=q)&&decide (0<y1)&&decide (y1<4294967296)&&decide (y0<4294967296)&&decide (d<4294967296)&&decide (r<4294967296)&&decide (q<=18446744073709551615)
theorem al0 {u d y1 y0:Nat} (hu:u<y1*4294967296+y0) (hd:d<4294967296):gX u d y1 y0<4294967296:=by
 unfold gX
 rw[FE (by omega)]
 omega
end F
namespace M
def vW (n:Nat):AV:= .v (.int .u64 n)
theorem NB {n:Nat} (h:n<18446744073709551616):aD.wrap (n:Int)=n:=by rw[gR];omega
theorem Hr {a b:Nat} (h:a*b<18446744073709551616):aD.wrap ((a:Int)*(b:Int))=((a*b:Nat):Int):=by rw[<-sJ,NB h]
section
variable (a:Nat×Nat×Nat×Nat×Nat×Nat×Nat×Nat×Nat)
def C2 (y2 s y1 y0 u d e q r:Nat):St:=⟨[(16,vW r),(15,vW q),(14,vW e),(13,vW d),(11,vW u),(10,vW y0),(9,vW y1),(8,vW s),(2,vW y2)],[]⟩
def tK:St:=C2 a.1 a.2.1 a.2.2.1 a.2.2.2.1 a.2.2.2.2.1 a.2.2.2.2.2.1 a.2.2.2.2.2.2.1 a.2.2.2.2.2.2.2.1 a.2.2.2.2.2.2.2.2
theorem al1 a a' (h:tK a=tK a'):a=a':=by
 simp only[tK,C2,vW]at h
 try simp at h
 grind
theorem Yx (y2 s y1 y0 u d e q r:Nat):ac tK (St.mk [(16,AV.v (bh aD (↑r:Int))),(15,AV.v (bh aD (↑q:Int))),(14,AV.v (bh aD (↑e:Int))),(13,AV.v (bh
 aD (↑d:Int))),(11,AV.v (bh aD (↑u:Int))),(10,AV.v (bh aD (↑y0:Int))),(9,AV.v (bh aD (↑y1:Int))),(8,
 AV.v (bh aD (↑s:Int))),(2,AV.v (bh aD (↑y2:Int)))] [])=some (y2,s,y1,y0,u,d,e,q,r):=ax al1 (y2,s,y1,y0,u,d,e,q,r) rfl
def NC (y2 s y1 y0 u d e q r:Nat):T (Ex×St):= .ret (.exit 0,⟨[(15,vW (F.gX u d y1 y0)),(14,vW e),(13,vW d),(11,vW u),(10,vW y0),(9,vW y1),(8,vW s),(2,vW y2)],[]⟩)
def ND (y2 s y1 y0 u d e q r:Nat):Bool:=F.kL u d y1 y0 q r
def al2:Nat×(St->T (Ex×St)):=(17,lpo [16,15,14,13,11,10,9,8,2] [] tK (xh ND) (xh NC))
def C3 (y2 s y1 y0 u e q1 q r:Nat):St:=⟨[(18,vW q),(17,vW u),(16,vW r),(15,vW q1),(14,vW e),(10,vW y0),(9,vW y1),(8,vW s),(2,vW y2)],[]⟩
def tL:St:=C3 a.1 a.2.1 a.2.2.1 a.2.2.2.1 a.2.2.2.2.1 a.2.2.2.2.2.1 a.2.2.2.2.2.2.1 a.2.2.2.2.2.2.2.1 a.2.2.2.2.2.2.2.2
end
theorem al3 a a' (h:tL a=tL a'):a=a':=by
 simp only[tL,C3,vW]at h
 try simp at h
 grind
theorem Yy (y2 s y1 y0 u e q1 q r:Nat):ac tL (St.mk [(18,AV.v (bh aD (↑q:Int))),(17,AV.v (bh aD (↑u:Int))),(16,AV.v (bh aD (↑r:Int))),(15,AV.v (bh
 aD (↑q1:Int))),(14,AV.v (bh aD (↑e:Int))),(10,AV.v (bh aD (↑y0:Int))),(9,AV.v (bh aD (↑y1:Int))),
 (8,AV.v (bh aD (↑s:Int))),(2,AV.v (bh aD (↑y2:Int)))] [])=some (y2,s,y1,y0,u,e,q1,q,r):=ax al3 (y2,s,y1,y0,u,e,q1,q,r) rfl
def NE (y2 s y1 y0 u e q1 q r:Nat):T (Ex×St):= .ret (.exit 2,⟨[(18,vW (F.gX u e y1 y0)),(17,vW u),(15,vW q1),(14,vW e),(8,vW s),(2,vW y2)],[]⟩)
def NF (y2 s y1 y0 u e q1 q r:Nat):Bool:=F.kL u e y1 y0 q r
def al4:Nat×(St->T (Ex×St)):=(24,lpo [18,17,16,15,14,10,9,8,2] [] tL (xh NF) (xh NE))
def tM:Env:=bq ty au bp [Yw] [] [] [al2,al4]
theorem al5:aZ Tryz.prog tM:=bG (aI alZ bF)
theorem NG {u d y1 y0 q r:Nat} (h:F.kL u d y1 y0 q r=true) :
  (¬(4294967296:Int)<=(q:Int)->aD.wrap ((q:Int)*(y0:Int))=((q*y0:Nat):Int)) /\
  aD.wrap (aD.wrap (4294967296*(r:Int))+(d:Int))=((4294967296*r+d:Nat):Int) /\
  ((¬(4294967296:Int)<=(q:Int) /\ ¬4294967296*r+d<q*y0)->F.gX u d y1 y0=q) /\
  (((4294967296:Int)<=(q:Int)\/4294967296*r+d<q*y0)->aD.wrap ((q:Int) - 1)=((q - 1:Nat):Int)/\aD.wrap ((r:Int)+(y1:Int))=((r+y1:Nat):Int)/\q - 1<q /\
   (¬(4294967296:Int)<=((r+y1:Nat):Int)->F.kL u d y1 y0 (q - 1) (r+y1)=true)/\((4294967296:Int)<=((r+y1:Nat):Int)->F.gX u d y1 y0=q - 1)):=by
 unfold F.kL at h
 simp only[aG,aM]at h
 obtain⟨⟨⟨⟨⟨⟨⟨⟨h1,h2⟩,h3⟩,h4⟩,h5⟩,h6⟩,h7⟩,h8⟩,h9⟩:=h
 have hQ:=F.al0 h2 h7
 refine⟨fun hq=>?_,?_,fun hx=>?_,fun hx=>?_⟩
 .have:q*y0<=4294967295*4294967295:=vP (by omega) (by omega)
  exact Hr (by omega)
 .rw[gR,gR];omega
 .exact F.Ys h1 h7 h6 h2 h4 h3 (.inl ⟨by omega,by omega⟩)
 .have hlt:F.gX u d y1 y0<q:=F.alK h1 h7 h2 h4 (by rcases hx with hx | hx;exact .inl (by omega);exact .inr hx)
  have hm:(q - 1)*y1+(r+y1)=u:=by
   obtain⟨p,rfl⟩ : ∃p,q=p+1:=⟨q - 1,by omega⟩
   rw[vQ,<-h1,fB,Nat.one_mul]
   omega
  refine⟨by rw[gR];omega,by rw[gR];omega,by omega,fun hr=>?_,fun hr=>?_⟩
  .unfold F.kL
   simp only[aG,aM]
   exact⟨⟨⟨⟨⟨⟨⟨⟨hm,h2⟩,by omega⟩,h4⟩,h5⟩,h6⟩,h7⟩,by omega⟩,by omega⟩
  .exact F.Ys hm h7 h6 h2 h4 (by unfold F.gX at hlt;omega) (.inr (by omega))
theorem Yz {u d y1 y0 q r:Nat} (h:F.kL u d y1 y0 q r=true) {α:Type} (X Y:α) :
  (bif !decide ((4294967296:Int)<=(q:Int)) then bif decide (aD.wrap (aD.wrap (4294967296*(r:Int))+(d:Int))<aD.wrap ((q:Int)*(y0:Int))) then X else Y else X) =
   bif decide ((4294967296:Int)<=(q:Int)\/4294967296*r+d<q*y0) then X else Y:=by
 obtain⟨k1,k2,k3,k4⟩:=NG h
 by_cases hq:(4294967296:Int)<=(q:Int)
 .rw[aj hq,aj (Or.inl hq)];rfl
 .rw[aH hq,k1 hq,k2]
  by_cases hc:4294967296*r+d<q*y0
  .rw[aj (Or.inr hc),aj (Int.ofNat_lt.2 hc)];rfl
  .have n1 : ¬((4294967296:Int)<=(q:Int)\/4294967296*r+d<q*y0):=fun e=>e.elim hq hc
   have n2 : ¬((4294967296*r+d:Nat):Int)<((q*y0:Nat):Int):=fun e=>hc (Int.ofNat_lt.1 e)
   rw[aH n1,aH n2];rfl
theorem NH (y2 s y1 y0 u d e q r:Nat):((exec tM (aw f61 0) (C2 y2 s y1 y0 u d e q r)).bind (bE ([16,15,14,13,11,10,9,8,2],[]) ([15,14,13,11,10,9,8,2],[]) ([],[]))).val =
 (fun(q_1:Int)=>(fun(q_2:List (Nat×AV))=>(fun(q_3:List (Nat×AV))=>(fun(q_4:Option (Ex×St))=>bif !decide ((4294967296:Int)<=(↑q:Int)) then bif
 decide (bQ aD (bQ aD ((4294967296:Int)*(↑r:Int))+(↑d:Int))<bQ aD ((↑q:Int)*(↑y0:Int))) then q_4
 else some (Ex.exit (0:Nat),St.mk ((15,AV.v (bh aD (↑q:Int)))::q_2) []) else q_4) (bif decide ((4294967296:Int)<=q_1) then some (Ex.exit (0 :
 Nat),St.mk q_3 []) else some (Ex.normal,St.mk ((16,AV.v (bh aD q_1))::q_3) []))) ((15,AV.v (bh aD (bQ aD ((↑q :
 Int) - (1:Int)))))::q_2)) [(14,AV.v (bh aD (↑e:Int))),(13,AV.v (bh aD (↑d:Int))),(11,AV.v (bh aD (↑u:Int))),
 (10,AV.v (bh aD (↑y0:Int))),(9,AV.v (bh aD (↑y1:Int))),(8,AV.v (bh aD (↑s:Int))),(2,AV.v (bh
 aD (↑y2:Int)))]) (bQ aD ((↑r:Int)+(↑y1:Int))):=(cr _ _ _).symm.trans (by kernel_rfl)
theorem al6 (y2 s y1 y0 u d e q r:Nat) (hp:ND y2 s y1 y0 u d e q r=true) : ∀ex s',(NC y2 s y1 y0 u d e q r).val=some (ex,s')->ba tM (aw f61 0) (C2 y2 s y1 y0 u d e q r) ex s':=by
 simp only[ND]at hp
 have h1:=hp
 refine cE (st:=fun a:Nat×Nat=>C2 y2 s y1 y0 u d e a.1 a.2) (out:=fun a=>NC y2 s y1 y0 u d e a.1 a.2) (I:=fun a=>F.kL u d y1 y0 a.1 a.2=true) (n:=([16,15,14,13,11,10,9,8,2],[])) (e:=([15,14,13,11,10,9,8,2],[])) (r:=([],[])) (fun a=>a.1) ?_ (q,r) h1
 clear h1 hp q r
 rintro⟨q,r⟩ h
 simp only at h
 obtain⟨k1,k2,k3,k4⟩:=NG h
 have ht:=@Yz _ _ _ _ _ _ h
 by_cases hc:(4294967296:Int)<=(q:Int)\/4294967296*r+d<q*y0
 .obtain⟨m1,m2,m3,m4,m5⟩:=k4 hc
  by_cases hr:(4294967296:Int)<=((r+y1:Nat):Int)
  .left
   refine⟨_,?_,rfl,by simp,rfl⟩
   rw[NH]
   simp only[ht,aj hc,ak,m1,m2,aj hr,m5 hr]
   rfl
  .right
   refine⟨(q - 1,r+y1),?_,rfl,m4 hr,m3,rfl⟩
   rw[NH]
   simp only[ht,aj hc,ak,ap,m1,m2,aH hr]
   rfl
 .left
  refine⟨_,?_,rfl,by simp,rfl⟩
  rw[NH]
  simp only[ht,aH hc,ap,k3 ⟨fun e=>hc (.inl e),fun e=>hc (.inr e)⟩]
  rfl
theorem NI (y2 s y1 y0 u e q1 q r:Nat):((exec tM (aw f61 1) (C3 y2 s y1 y0 u e q1 q r)).bind (bE ([18,17,16,15,14,10,9,8,2],[]) ([18,17,15,14,8,2],[]) ([],[]))).val =
 (fun(q_1:Int)=>(fun(q_2:Nat×AV)=>(fun(q_3:List (Nat×AV))=>(fun(q_4:List (Nat×AV))=>(fun(q_5:Option (Ex×St))=>bif !decide ((4294967296 :
 Int)<=(↑q:Int)) then bif decide (bQ aD (bQ aD ((4294967296:Int)*(↑r:Int))+(↑e:Int))<bQ aD ((↑q :
 Int)*(↑y0:Int))) then q_5 else some (Ex.exit (2:Nat),St.mk ((18,AV.v (bh aD (↑q:Int)))::q_4) []) else q_5) (bif decide ((4294967296:Int) <=
 q_1) then some (Ex.exit (2:Nat),St.mk (q_2::q_4) []) else some (Ex.normal,St.mk (q_2::(17,AV.v (bh aD (↑u:Int)))::(16,AV.v (bh
 aD q_1))::(15,AV.v (bh aD (↑q1:Int)))::(14,AV.v (bh aD (↑e:Int)))::(10,AV.v (bh aD (↑y0:Int))) ::
 (9,AV.v (bh aD (↑y1:Int)))::q_3) []))) ((17,AV.v (bh aD (↑u:Int)))::(15,AV.v (bh aD (↑q1:Int)))::(14,AV.v
 (bh aD (↑e:Int)))::q_3)) [(8,AV.v (bh aD (↑s:Int))),(2,AV.v (bh aD (↑y2:Int)))]) (18,AV.v (bh
 aD (bQ aD ((↑q:Int) - (1:Int)))))) (bQ aD ((↑r:Int)+(↑y1:Int))):=(cr _ _ _).symm.trans (by kernel_rfl)
theorem al7 (y2 s y1 y0 u e q1 q r:Nat) (hp:NF y2 s y1 y0 u e q1 q r=true) : ∀ex s',(NE y2 s y1 y0 u e q1 q r).val=some (ex,s')->ba tM (aw f61 1) (C3 y2 s y1 y0 u e q1 q r) ex s':=by
 simp only[NF]at hp
 have h1:=hp
 refine cE (st:=fun a:Nat×Nat=>C3 y2 s y1 y0 u e q1 a.1 a.2) (out:=fun a=>NE y2 s y1 y0 u e q1 a.1 a.2) (I:=fun a=>F.kL u e y1 y0 a.1 a.2=true) (n:=([18,17,16,15,14,10,9,8,2],[])) (e:=([18,17,15,14,8,2],[])) (r:=([],[])) (fun a=>a.1) ?_ (q,r) h1
 clear h1 hp q r
 rintro⟨q,r⟩ h
 simp only at h
 obtain⟨k1,k2,k3,k4⟩:=NG h
 have ht:=@Yz _ _ _ _ _ _ h
 by_cases hc:(4294967296:Int)<=(q:Int)\/4294967296*r+e<q*y0
 .obtain⟨m1,m2,m3,m4,m5⟩:=k4 hc
  by_cases hr:(4294967296:Int)<=((r+y1:Nat):Int)
  .left
   refine⟨_,?_,rfl,by simp,rfl⟩
   rw[NI]
   simp only[ht,aj hc,ak,m1,m2,aj hr,m5 hr]
   rfl
  .right
   refine⟨(q - 1,r+y1),?_,rfl,m4 hr,m3,rfl⟩
   rw[NI]
   simp only[ht,aj hc,ak,ap,m1,m2,aH hr]
   rfl
 .left
  refine⟨_,?_,rfl,by simp,rfl⟩
  rw[NI]
  simp only[ht,aH hc,ap,k3 ⟨fun e=>hc (.inl e),fun e=>hc (.inr e)⟩]
  rfl
theorem al8 {hi lo y:Nat} (h1:hi<y) (h2:lo<18446744073709551616) (h3:y<18446744073709551616) :
  ∃s k u Y e v r0:Nat,F.lz y=s/\s<=63/\k=2 ^ s/\0<k/\y*k=Y/\lo*k % 18446744073709551616=e/\hi*k+lo / 2 ^ (64 - s)=u/\(9223372036854775808<=Y/\Y<18446744073709551616)/\u<Y/\hi*k<18446744073709551616/\lo / 2 ^ (64 - s)<k /\
   u*4294967296+e / 4294967296=Y*F.gX u (e / 4294967296) (Y / 4294967296) (Y % 4294967296)+v/\v<Y /\
   v*4294967296+e % 4294967296=Y*F.gX v (e % 4294967296) (Y / 4294967296) (Y % 4294967296)+r0/\r0<Y /\
   F.gX u (e / 4294967296) (Y / 4294967296) (Y % 4294967296)*4294967296+F.gX v (e % 4294967296) (Y / 4294967296) (Y % 4294967296)=F.mg hi lo y/\r0 / k=F.oM hi lo y/\F.mg hi lo y<18446744073709551616:=by
 obtain⟨s1,s2,s3⟩:=F.alP (y:=y) (by omega) h3
 generalize F.lz y=s at s1 s2 s3 ⊢
 have hk:0<2 ^ s:=agH (by decide)
 have hY:=F.alO s2 s3 s1
 have hj:2 ^ (64 - s)*2 ^ s=18446744073709551616:=by rw[<-agG,show 64 - s+s=64 by omega]
 have hlk:lo / 2 ^ (64 - s)<2 ^ s:=by
  rw[FE (agH (by decide)),oq,hj];exact h2
 have hA:=F.alN (hi:=hi) (lo:=lo) hj hk
 have hhk:(hi+1)*2 ^ s<=y*2 ^ s:=iY _ h1
 rw[fB,Nat.one_mul]at hhk
 refine⟨s,2 ^ s,hi*2 ^ s+lo / 2 ^ (64 - s),y*2 ^ s,lo*2 ^ s % 18446744073709551616,((hi*2 ^ s+lo / 2 ^ (64 - s))*4294967296+lo*2 ^ s % 18446744073709551616 / 4294967296) % (y*2 ^ s),(((hi*2 ^ s+lo / 2 ^ (64 - s))*4294967296+lo*2 ^ s % 18446744073709551616 / 4294967296) % (y*2 ^ s)*4294967296+lo*2 ^ s % 18446744073709551616 % 4294967296) % (y*2 ^ s),rfl,s1,rfl,hk,rfl,rfl,rfl,hY,by omega,by omega,hlk,(vG _ (y*2 ^ s)).symm.trans ?_,sK _ (by omega),(vG _ (y*2 ^ s)).symm.trans ?_,sK _ (by omega),?_⟩
 .unfold F.gX
  rw[show y*2 ^ s / 4294967296*4294967296+y*2 ^ s % 4294967296=y*2 ^ s from Lh _ _]
 .unfold F.gX
  rw[show y*2 ^ s / 4294967296*4294967296+y*2 ^ s % 4294967296=y*2 ^ s from Lh _ _]
 .have hlt:F.mg hi lo y<18446744073709551616:=by
   unfold F.mg
   rw[FE (by omega)]
   omega
  have hJ:=F.alM (B:=4294967296) (N:=hi*18446744073709551616+lo) (y:=y) (k:=2 ^ s) hk (u:=hi*2 ^ s+lo / 2 ^ (64 - s)) (e1:=lo*2 ^ s % 18446744073709551616 / 4294967296) (e0:=lo*2 ^ s % 18446744073709551616 % 4294967296)
   (by
    rw[hA]
    have h5:=vG (lo*2 ^ s % 18446744073709551616) 4294967296
    omega) (vG _ _).symm (vG _ _).symm (sK _ (by omega))
  unfold F.gX
  rw[show y*2 ^ s / 4294967296*4294967296+y*2 ^ s % 4294967296=y*2 ^ s from Lh _ _]
  exact⟨hJ.1,hJ.2,hlt⟩
theorem al9 {a b k s:Nat} (hk:k=2 ^ s) (hb:b<k) (h:a*k+b<18446744073709551616):bits .or .u64 ((a*k:Nat):Int) (b:Int)=((a*k+b:Nat):Int):=by
 subst hk
 rw[bits_or_u64_nat _ _ (by omega) (by omega),oq a,Nat.two_pow_add_eq_or_of_lt hb]
theorem YA {a:Nat} (h:a<18446744073709551616):bits .and .u64 (a:Int) 4294967295=((a % 4294967296:Nat):Int):=by
 have:=bits_and_u64_nat a 4294967295 h (by omega)
 rw[show((4294967295:Nat):Int)=4294967295 from rfl]at this
 rw[this]
 congr 1
 exact Nat.and_two_pow_sub_one_eq_mod a 32
theorem YB {s:Nat} (hs:s<=64):B5 2 (min (sO (s:Int)) (fA aD))=((2 ^ s:Nat):Int):=by
 rw[Int.toNat_natCast,show fA aD=64 from rfl,Nat.min_eq_left hs]
 exact(Int.natCast_pow 2 s).symm
theorem YC:B5 2 (min (sO 32) (fA aD))=4294967296:=by kernel_rfl
theorem YD (a b:Nat):vR (a:Int) (b:Int)=((a / b:Nat):Int):=rfl
theorem YE (a:Nat):vR (a:Int) 4294967296=((a / 4294967296:Nat):Int):=rfl
theorem NJ {a b:Nat} (h:a<18446744073709551616):aD.wrap (ix (a:Int) (b:Int))=((a / b:Nat):Int):=by
 have e:ix (a:Int) (b:Int)=((a / b:Nat):Int):=rfl
 rw[e]
 exact NB (Nat.lt_of_le_of_lt (Lg _ _) h)
theorem YF {a b:Nat} (h:a<18446744073709551616):aD.wrap ((a:Int) - aD.wrap (((a / b:Nat):Int)*(b:Int)))=((a - a / b*b:Nat):Int):=by
 have:=aFK a b
 rw[Hr (by omega),gR]
 omega
theorem YG {u d P v:Nat} (h:u*4294967296+d=P+v) (hv:v<18446744073709551616) (hd:d<4294967296):aD.wrap (aD.wrap (aD.wrap ((u:Int)*4294967296)+(d:Int)) - aD.wrap (P:Int))=(v:Int):=by
 rw[gR,gR,gR,gR]
 omega
theorem ama {a b q:Nat} (h:a*4294967296+b=q) (hq:q<18446744073709551616):aD.wrap (aD.wrap ((a:Int)*4294967296)+(b:Int))=(q:Int):=by
 rw[gR,gR]
 omega
theorem YH {u d y1 y0:Nat} (hu:u<y1*4294967296+y0) (hU:u<18446744073709551616) (hd:d<4294967296) (h0:y0<4294967296) (h1:y1<4294967296) (hy:0<y1):F.kL u d y1 y0 (u / y1) (u - u / y1*y1)=true:=by
 have a1:=aFK u y1
 have a2:=sK u hy
 have a3:=Lh u y1
 have a4:=Lg u y1
 unfold F.kL
 simp only[aG,aM]
 exact⟨⟨⟨⟨⟨⟨⟨⟨by omega,hu⟩,F.alL hd hy⟩,hy⟩,h1⟩,h0⟩,hd⟩,by omega⟩,by omega⟩
section
variable (hi lo y:Nat)
theorem amb:(aB tM false f61 [vW hi,vW lo,vW y]).val =
 (fun(q:Int)=>bif (↑y:Int)==0 then none else bif decide ((↑y:Int)<=(↑hi:Int)) then none else bif (↑hi:Int)==0 then bif (↑y:Int)==0 then none else bif (↑y:Int)==0 then none else some (AV.aF [AV.v (bh aD (bQ aD (ix (↑lo:Int) (↑y:Int)))),
 AV.v (bh aD (vT (↑lo:Int) (↑y:Int)))],[]) else ai (ac xu [AV.v (bh aD (↑y:Int))]) fun z=>(fun(q_1 :
 Int)=>(fun(q_2:Int)=>(fun(q_3:Int)=>(fun(q_4:Int)=>(fun(q_5:Int)=>(fun(q_6:Int)=>(fun(q_7:Bool)=>(fun(q_8:Int)=>(fun(q_9:Bool)=>
 (fun(q_10:Int)=>(fun(q:Nat×AV)=>(fun(q_11:Nat×AV)=>(fun(q_12:Int)=>(fun(q_13:Int)=>(fun(q_14:Int)=>(fun(q_15:List (Nat×AV))=>bif
 decide (z<18446744073709551616) then bif q_7 then bif q_7 then bif q_2==1 then bif q_7 then bif q_9 then none else ai (ac tK (St.mk
 ((16,AV.v (bh aD (bQ aD (q_10 - bQ aD (q_13*q_8)))))::(15,AV.v (bh aD q_13))::q_11::q ::
 (11,AV.v (bh aD q_10))::q_15) [])) fun z=>(fun(q:Nat×Nat×Nat×Nat×Nat)=>(fun(q_16
 : Int)=>(fun(q_17:Int)=>(fun(q_18:Int)=>bif F.kL q.fst q.snd.fst z.2.2.1 z.2.2.2.1 q.snd.snd.snd.fst q.snd.snd.snd.snd&&true then bif
 (↑z.2.2.1:Int)==0 then none else ai (ac tL (St.mk [(18,AV.v (bh aD q_18)),(17,AV.v (bh aD q_17)),(16,
 AV.v (bh aD (bQ aD (q_17 - bQ aD (q_18*(↑z.2.2.1:Int)))))),(15,AV.v (bh aD q_16)),(14,
 AV.v (bh aD (↑q.snd.snd.fst:Int))),(10,AV.v (bh aD (↑z.2.2.2.1:Int))),(9,AV.v (bh aD (↑z.2.2.1 :
 Int))),(8,AV.v (bh aD (↑z.2.1:Int))),(2,AV.v (bh aD (↑z.1:Int)))] [])) fun z=>(fun(q:Nat×Nat×Nat×Nat×Nat)=>(fun(q_19:Int)=>(fun(q_20:AV)=>(fun(q_21:Int)=>bif F.kL q.fst q.snd.fst z.2.2.1 z.2.2.2.1
 q.snd.snd.snd.fst q.snd.snd.snd.snd&&true then bif (↑z.2.1:Int)==1 then some (AV.aF [q_20,AV.v (bh aD (qB q_21 (2:Int)))],[])
 else bif decide ((0:Int)<=(↑z.2.1:Int))&&decide ((↑z.2.1:Int)<=64) then some (AV.aF [q_20,AV.v (bh aD (vR q_21 (B5
 (2:Int) (min (sO (↑z.2.1:Int)) (fA aD)))))],[]) else none else none) (bQ aD (bQ aD (bQ
 aD ((↑q.fst:Int)*4294967296)+(↑q.snd.fst:Int)) - bQ aD (q_19*(↑z.1:Int))))) (AV.v (bh aD (bQ
 aD (bQ aD ((↑q.snd.snd.fst:Int)*4294967296)+q_19))))) (↑(F.gX q.fst q.snd.fst z.2.2.1 z.2.2.2.1):Int))
 z.2.2.2.2 else none) (bQ aD (ix q_17 (↑z.2.2.1:Int)))) (bQ aD (bQ aD (bQ
 aD ((↑q.fst:Int)*4294967296)+(↑q.snd.fst:Int)) - bQ aD (q_16*(↑z.1:Int))))) (↑(F.gX q.fst q.snd.fst z.2.2.1
 z.2.2.2.1):Int)) z.2.2.2.2 else none else bif decide ((0:Int)<=q_2)&&decide (q_2<=64) then bif q_7 then bif q_9 then none else ai
 (ac tK (St.mk ((16,AV.v (bh aD (bQ aD (q_12 - bQ aD (q_14*q_8)))))::(15,AV.v (bh aD
 q_14))::q_11::q::(11,AV.v (bh aD q_12))::q_15) [])) fun z=>(fun(q:Nat×Nat×Nat ×
 Nat×Nat)=>(fun(q_16:Int)=>(fun(q_17:Int)=>(fun(q_18:Int)=>bif F.kL q.fst q.snd.fst z.2.2.1 z.2.2.2.1 q.snd.snd.snd.fst q.snd.snd.snd.snd
 && true then bif (↑z.2.2.1:Int)==0 then none else ai (ac tL (St.mk [(18,AV.v (bh aD q_18)),(17,AV.v (bh
 aD q_17)),(16,AV.v (bh aD (bQ aD (q_17 - bQ aD (q_18*(↑z.2.2.1:Int)))))),(15,AV.v (bh
 aD q_16)),(14,AV.v (bh aD (↑q.snd.snd.fst:Int))),(10,AV.v (bh aD (↑z.2.2.2.1:Int))),(9,AV.v (bh
 aD (↑z.2.2.1:Int))),(8,AV.v (bh aD (↑z.2.1:Int))),(2,AV.v (bh aD (↑z.1:Int)))] [])) fun z=>(fun(q:Nat×Nat×Nat×Nat×Nat)=>(fun(q_19:Int)=>(fun(q_20:AV)=>(fun(q_21:Int)=>bif F.kL q.fst q.snd.fst
 z.2.2.1 z.2.2.2.1 q.snd.snd.snd.fst q.snd.snd.snd.snd&&true then bif (↑z.2.1:Int)==1 then some (AV.aF [q_20,AV.v (bh aD
 (qB q_21 (2:Int)))],[]) else bif decide ((0:Int)<=(↑z.2.1:Int))&&decide ((↑z.2.1:Int)<=64) then some (AV.aF [q_20,AV.v (bh
 aD (vR q_21 (B5 (2:Int) (min (sO (↑z.2.1:Int)) (fA aD)))))],[]) else none else none) (bQ aD
 (bQ aD (bQ aD ((↑q.fst:Int)*4294967296)+(↑q.snd.fst:Int)) - bQ aD (q_19*(↑z.1:Int))))) (AV.v
 (bh aD (bQ aD (bQ aD ((↑q.snd.snd.fst:Int)*4294967296)+q_19))))) (↑(F.gX q.fst q.snd.fst z.2.2.1
 z.2.2.2.1):Int)) z.2.2.2.2 else none) (bQ aD (ix q_17 (↑z.2.2.1:Int)))) (bQ aD (bQ
 aD (bQ aD ((↑q.fst:Int)*4294967296)+(↑q.snd.fst:Int)) - bQ aD (q_16*(↑z.1:Int))))) (↑(F.gX q.fst
 q.snd.fst z.2.2.1 z.2.2.2.1):Int)) z.2.2.2.2 else none else none else none else none else none) [(10,AV.v (bh aD (bits BinOp.and
 aD q_6 (4294967295:Int)))),(9,AV.v (bh aD q_8)),(8,AV.v (bh aD q_1)),(2,AV.v (bh aD q_6))]) (bQ
 aD (ix q_12 q_8))) (bQ aD (ix q_10 q_8))) (bits BinOp.or aD q_4 (vR (↑lo:Int) (B5 (2:Int) (min (sO
 q_2) (fA aD)))))) (14,AV.v (bh aD (bits BinOp.and aD q_5 (4294967295:Int))))) (13,AV.v (bh aD (vR q_5
 q)))) (bits BinOp.or aD q_4 (qB (↑lo:Int) (2:Int)))) (q_8==0)) (vR q_6 q)) (decide ((0:Int)<=q_1)&&decide (q_1<=64)))
 (bQ aD ((↑y:Int)*q_3))) (bQ aD ((↑lo:Int)*q_3))) (bQ aD ((↑hi:Int)*q_3))) (B5 (2:Int) (min
 (sO q_1) (fA aD)))) (bQ aD ((64:Int) - q_1))) (bQ aD (↑(F.lz z):Int))) (B5 (2:Int) (min
 (sO (32:Int)) (fA aD))):=(cm).symm.trans (by kernel_rfl)
def Hs:List AV:=[vW hi,vW lo,vW y]
def xv (a:Nat×Nat×Nat):List AV:=Hs a.1 a.2.1 a.2.2
theorem amc a a' (h:xv a=xv a'):a=a':=by
 simp only[xv,Hs,vW]at h
 try simp at h
 grind
theorem amd:ac xv ([AV.v (bh aD (↑hi:Int)),AV.v (bh aD (↑lo:Int)),AV.v (bh aD (↑y:Int))])=some (hi,lo,y):=ax amc (hi,lo,y) rfl
def NK:AV×Heap:=(.aF [vW (F.tJ (F.mg hi lo y)),vW (F.tJ (F.oM hi lo y))],[])
def YI:Bool:=decide (hi<y)&&decide (lo<18446744073709551616)&&decide (y<18446744073709551616)
end
def YJ:aW:=aY 61 true xv (bU YI) (bU NK)
theorem ame:aX Tryz.prog au YJ:=by
 refine cQ f61 al5 (md (x0:=aw f61 0) (x1:=aw f61 1) (by kernel_rfl) (bS ?_) (bS ?_)) ?_
 .rintro⟨y2,s,y1,y0,u,d,e,q,r⟩ hp
  exact al6 y2 s y1 y0 u d e q r hp
 .rintro⟨y2,s,y1,y0,u,e,q1,q,r⟩ hp
  exact al7 y2 s y1 y0 u e q1 q r hp
 rintro⟨hi,lo,y⟩ hpre hok
 show(aB tM false _ (Hs _ _ _)).val=some (NK _ _ _)
 unfold Hs NK
 rw[amb]
 simp only[YI,bU,aG,aM]at hpre
 obtain⟨⟨h1,h2⟩,h3⟩:=hpre
 rw[F.C1,F.C1]
 have y1:((y:Int)==0)=false:=by rw[beq_eq_false_iff_ne];omega
 have y2:decide ((y:Int)<=(hi:Int))=false:=aH (by omega)
 by_cases h0:hi=0
 .subst h0
  have t1:vT (lo:Int) (y:Int)=((lo % y:Nat):Int):=rfl
  have z:(((0:Nat):Int)==0)=true:=rfl
  simp only[y1,y2,z,ak,ap,NJ h2,t1]
  unfold F.mg F.oM vW
  rw[qC,gD]
 .have hz:((hi:Int)==0)=false:=by rw[beq_eq_false_iff_ne];omega
  obtain⟨s,k,u,Y,e,v,r0,hs,s1,rfl,hk,hY,he,hu,hY2,huY,hhk,hlk,e1,e2,e3,e4,e5,e6,e7⟩:=al8 h1 h2 h3
  generalize hQ1:F.gX u (e / 4294967296) (Y / 4294967296) (Y % 4294967296)=Q1 at *
  generalize hQ0:F.gX v (e % 4294967296) (Y / 4294967296) (Y % 4294967296)=Q0 at *
  have a1:aD.wrap (s:Int)=s:=NB (by omega)
  have a2:=YB (s:=s) (by omega)
  have a3:aD.wrap ((y:Int)*((2 ^ s:Nat):Int))=(Y:Int):=by rw[Hr (by omega),hY]
  have a4:aD.wrap ((lo:Int)*((2 ^ s:Nat):Int))=(e:Int):=by rw[<-sJ,gR,<-he];rfl
  have a5:aD.wrap ((hi:Int)*((2 ^ s:Nat):Int))=((hi*2 ^ s:Nat):Int):=Hr hhk
  have a6:aD.wrap (64 - (s:Int))=((64 - s:Nat):Int):=by rw[gR];omega
  have a7:(decide ((0:Int)<=(s:Int))&&decide ((s:Int)<=64))=true:=by rw[aj (by omega),aj (by omega)];rfl
  have a7':(decide ((0:Int)<=((64 - s:Nat):Int))&&decide (((64 - s:Nat):Int)<=64))=true:=by rw[aj (by omega),aj (by omega)];rfl
  have a8:=YA (a:=Y) (by omega)
  have a9:=YA (a:=e) (by omega)
  have hor:=al9 (a:=hi) (b:=lo / 2 ^ (64 - s)) rfl hlk (by omega)
  rw[hu]at hor
  have Y1:0<Y / 4294967296/\Y / 4294967296<4294967296:=by omega
  have Yd:Y / 4294967296*4294967296+Y % 4294967296=Y:=Lh _ _
  have b1:(((Y / 4294967296:Nat):Int)==0)=false:=by rw[beq_eq_false_iff_ne];omega
  have b2:=NJ (a:=u) (b:=Y / 4294967296) (by omega)
  have b3:=YF (a:=u) (b:=Y / 4294967296) (by omega)
  have b4:=YH (u:=u) (d:=e / 4294967296) (y1:=Y / 4294967296) (y0:=Y % 4294967296) (by omega) (by omega) (by omega) (by omega) Y1.2 Y1.1
  have mQ1:aD.wrap ((Q1:Int)*(Y:Int))=aD.wrap ((Y*Q1:Nat):Int):=by rw[oq,sJ]
  have mQ0:aD.wrap ((Q0:Int)*(Y:Int))=aD.wrap ((Y*Q0:Nat):Int):=by rw[oq,sJ]
  have c1:=YG (u:=u) (d:=e / 4294967296) (P:=Y*Q1) (v:=v) e1 (by omega) (by omega)
  have c2:=NJ (a:=v) (b:=Y / 4294967296) (by omega)
  have c3:=YF (a:=v) (b:=Y / 4294967296) (by omega)
  have c4:=YH (u:=v) (d:=e % 4294967296) (y1:=Y / 4294967296) (y0:=Y % 4294967296) (by omega) (by omega) (by omega) (by omega) Y1.2 Y1.1
  have d1:=YG (u:=v) (d:=e % 4294967296) (P:=Y*Q0) (v:=r0) e3 (by omega) (by omega)
  have d2:=ama (a:=Q1) (b:=Q0) e5 e7
  have fin:(bif ((s:Int)==1) then some (AV.aF [vW (F.mg hi lo y), .v (.int .u64 (qB (r0:Int) 2))],([]:Heap)) else some (AV.aF [vW (F.mg hi lo y), .v (.int .u64 (vR (r0:Int) ((2 ^ s:Nat):Int)))],[]))=some (AV.aF [vW (F.mg hi lo y),vW (F.oM hi lo y)],[]):=by
   unfold vW
   by_cases hc:s=1
   .subst hc
    rw[UM _ (by omega),<-e6]
    rfl
   .have:((s:Int)==1)=false:=by rw[beq_eq_false_iff_ne];omega
    rw[this,YD,e6]
    rfl
  by_cases hc:64 - s=1
  .have g1:(((64 - s:Nat):Int)==1)=true:=by rw[hc];rfl
   have g2:qB (lo:Int) 2=((lo / 2 ^ (64 - s):Nat):Int):=by rw[hc,UM _ (by omega)];rfl
   simp only[Yv,Yx,Yy,ar,ak,ap,aS,y1,y2,hz,hs,aj h3,a1,a2,a3,a4,a5,a6,a7,a7',a8,a9,YC,YE,g1,g2,hor,b1,b2,b3,b4,hQ1,mQ1,c1,c2,c3,c4,hQ0,mQ0,d1,d2]
   exact fin
  .have g1:(((64 - s:Nat):Int)==1)=false:=by rw[beq_eq_false_iff_ne];omega
   have g2:=YB (s:=64 - s) (by omega)
   simp only[Yv,Yx,Yy,ar,ak,ap,aS,y1,y2,hz,hs,aj h3,a1,a2,a3,a4,a5,a6,a7,a7',a8,a9,YC,YE,g1,g2,YD,hor,b1,b2,b3,b4,hQ1,mQ1,c1,c2,c3,c4,hQ0,mQ0,d1,d2]
   exact fin
end M
end Go.Proofs.YtaobkfpnebbohaaGreatDoor
namespace Go.Proofs.YtaobkfpnebbohaaGreatDoor
open Go Go.RowKit
set_option linter.unusedVariables false
set_option linter.unusedSimpArgs false
set_option maxHeartbeats 1000000
def UA (b:UInt8):Bool:= !(decide ((b.toNat:Int)<32)||decide ((b.toNat:Int)=127))
def KC (l:List UInt8):Bool:=l.all UA
def F.C4 (s:ByteArray):Bool:=decide (s.size≠0)&&vC s && !F.eV s ⟨⟨[32]⟩⟩ && !F.j0 s ⟨⟨[32]⟩⟩ && !KP s ⟨⟨[45,45,62]⟩⟩&&KC (F.bs s)
def F.line (s:ByteArray):Bool:=decide (s.size<=200)&&F.C4 s
def F.small (s:ByteArray):Bool:=decide (s.size<=4294967280)
theorem aEt (a:Nat):decide ((a:Int)<=200)=decide (a<=200):=by
 by_cases h:a<=200
 .rw[aj h,aj (by omega)]
 .rw[aH h,aH (by omega)]
namespace M
theorem amf (a b:Int):decide (a=b)=(a==b):=by by_cases h:a=b<;>simp[h]
section
variable (s:ByteArray) (k:Nat)
def xw:St:=⟨[(25,vI k),(24,vI s.size),(0,vS s)],[]⟩
def xx (a:ByteArray×Nat):St:=xw a.1 a.2
theorem amg a a' (h:xx a=xx a'):a=a':=by
 simp only[xx,xw]at h
 try simp at h
 grind
theorem amh: ac xx (St.mk [(25,(vI (0:Int))),(24,(vI (↑(aJ s):Int))),(0,(vS s))] [])=some (s,0):=ax amg (s,0) rfl
def YK:T (Ex×St):= .bM (KC ((F.bs s).drop k)) (.ret (.exit 0,⟨[],[]⟩)) (.ret (.ret,⟨[(2,vB false)],[]⟩))
def NL:Bool:=decide (s.size<=9223372036854775807)&&decide (k<=s.size)
def ami:Nat×(St->T (Ex×St)):=(4,lpo [25,24,0] [] xx (aT NL) (aT YK))
def C5:Env:=bq ty au bp [XL,M9,XS,XO] [] [] [ami]
theorem amj:aZ Tryz.prog C5:=bG (aI akl (aI XQ (aI akx (aI akp bF))))
theorem YL:((exec C5 (aw f111 0) (xw s k)).bind (bE ([25,24,0],[]) ([],[]) ([2],[]))).val =
 bif decide ((↑k:Int)<(↑(aJ s):Int)) then ai s[k]? fun z=>bif !decide ((↑(dF z):Int)<32) then ai s[k]?
 fun z_1=>bif bif decide ((↑(dF z):Int)<32) then true else (↑(dF z_1):Int)==127 then some (Ex.ret,St.mk [(2,(vB
 false))] []) else some (Ex.normal,St.mk [(25,(vI (am.wrap ((↑k:Int)+1)))),(24,(vI (↑(aJ s):Int))),(0,(vS s))] []) else bif
 !decide ((↑(dF z):Int)<32) then none else some (Ex.ret,St.mk [(2,(vB false))] []) else some (Ex.exit (0:Nat),St.mk [] []):=by kernel_rfl
theorem amk (hp:NL s k=true) : ∀ex s',(YK s k).val=some (ex,s')->ba C5 (aw f111 0) (xw s k) ex s':=by
 simp only[NL,aG,aM]at hp
 refine pu (xs:=F.bs s) (st:=xw s) (p:=UA) (n:=([25,24,0],[])) (e:=([],[])) (r:=([2],[])) ?_ ⟨by simp,rfl⟩ ⟨by simp,rfl⟩ (fun _=>rfl) ?_ k (by rw[F.eC];exact hp.2)
 .rw[YL];rw[F.eC];simp
 .intro k y hy
  have hk:k<s.size:=by rw[<-F.eC];exact cy hy
  rw[YL]
  rw[iF,hy]
  simp only[ar,ak,bA hk,ch hk hp.1,UA,xw]
  rw[amf]
  cases decide ((y.toNat:Int)<32)<;>cases((y.toNat:Int)==127)<;>rfl
theorem aml:(aB C5 false f111 [vS s]).val =
 bif !cU s==cU (az (aA [])) then ai (ac xi [(vS s)]) fun z=>bif !bif cU s ==
 cU (az (aA [])) then true else !vC z then ai (ac ru [(vS s),(vS ⟨⟨[32]⟩⟩)]) fun(z_1 :
 ByteArray×ByteArray)=>bif !bif bif cU s==cU (az (aA [])) then true else !vC z then true else F.eV z_1.1 z_1.2
 then ai (ac xl [(vS s),(vS ⟨⟨[32]⟩⟩)]) fun z_2=>bif !bif bif bif cU s ==
 cU (az (aA [])) then true else !vC z then true else F.eV z_1.1 z_1.2 then true else F.j0 z_2.1 z_2.2 then ai (ac
 xj [(vS s),(vS ⟨⟨[45,45,62]⟩⟩)]) fun z_3=>bif decide (aJ z_3.1 <=
 (4294967280:Nat)) then bif bif bif bif bif cU s==cU (az (aA [])) then true else !vC z then true else F.eV z_1.1
 z_1.2 then true else F.j0 z_2.1 z_2.2 then true else KP z_3.1 z_3.2 then some ((vB false),[]) else ai (ac xx (St.mk [(25,(vI 0)),
 (24,(vI (↑(aJ s):Int))),(0,(vS s))] [])) fun z=>bif decide (aJ z.1<=9223372036854775807)&&decide (z.2 <=
 aJ z.1)&&true then bif KC (bn z.2 (F.bs z.1)) then some ((vB true),[]) else some ((vB false),[]) else none else none else some ((vB false),
 []) else some ((vB false),[]) else some ((vB false),[]) else bif !cU s==cU (az (aA [])) then none else some ((vB false),
 []):=by kernel_rfl
def Ht:List AV:=[vS s]
def xy (a:ByteArray):List AV:=Ht a
theorem amm a a' (h:xy a=xy a'):a=a':=by
 simp only[xy,Ht]at h
 try simp at h
 grind
theorem amn:ac xy ([(vS s)])=some (s):=ax amm (s) rfl
def NM:AV×Heap:=(vB (F.C4 s),[])
def YM:Bool:=F.small s
def YN:aW:=aY 111 true xy YM NM
theorem amo:aX Tryz.prog au YN:=by
 refine cQ f111 amj (de (x0:=aw f111 0) (by kernel_rfl) (bS ?_)) ?_
 .rintro⟨s,k⟩ hp
  exact amk s k hp
 rintro s hpre hok
 show(aB C5 false _ (Ht _)).val=some (NM _)
 unfold Ht NM
 rw[aml]
 simp only[YM,F.small,aM]at hpre
 have hs:s.size<=9223372036854775807:=by omega
 have hp:decide (s.size<=4294967280)=true:=aj hpre
 simp only[aki,xk,aku,akn,amh,ar,ak,aS,hs,hp,F.C4,df,cf,decide_true,F.empty_eq]
 cases decide (s.size≠0)<;>cases vC s<;>cases F.eV s ⟨⟨[32]⟩⟩<;>cases F.j0 s ⟨⟨[32]⟩⟩<;>cases KP s ⟨⟨[45,45,62]⟩⟩<;>cases KC (F.bs s)<;>rfl
def NO:Env:=bq ty au bp [YN] [] [] []
theorem amp:aZ Tryz.prog NO:=bG (aI amo bF)
theorem amq:(aB NO false f58 [vS s]).val =
 bif decide ((↑(aJ s):Int)<=200) then ai (ac xy [(vS s)]) fun z=>bif F.small z then some ((vB (bif decide
 ((↑(aJ s):Int)<=200) then F.C4 z else false)),[]) else none else some ((vB false),[]):=by kernel_rfl
def Hu:List AV:=[vS s]
def ry (a:ByteArray):List AV:=Hu a
theorem amr a a' (h:ry a=ry a'):a=a':=by
 simp only[ry,Hu]at h
 try simp at h
 grind
theorem rz:ac ry ([(vS s)])=some (s):=ax amr (s) rfl
def NP:AV×Heap:=(vB (F.line s),[])
def YO:Bool:=F.small s
end
def NQ:aW:=aY 58 true ry YO NP
theorem YP:aX Tryz.prog au NQ:=by
 refine cx f58 amp ?_
 rintro s hpre hok
 show(aB NO false _ (Hu _)).val=some (NP _)
 unfold Hu NP
 rw[amq]
 simp only[YO]at hpre
 simp only[amn,ar,ak,hpre,F.line,aEt]
 cases decide (s.size<=200)<;>rfl
end M
def iR (a b:ay):Bool:=F.lt a.fr b.fr||((a.fr==b.fr)&&F.lt a.tqq b.tqq)
def F.gY (n:Int):Bool:=F.out n 0 359999999
def F.iO (l:List ByteArray):Bool:=l.all F.line
def F.tN (l:List ByteArray):Int:=bif l.isEmpty then 9 else bif decide (15<l.length) then 2 else bif F.iO l then 0 else 3
def F.xz (p:Option ay) (c:ay):Bool:=match p with
 | none=>false
 | some o=>iR c o
def F.lF (p:Option ay) (c:ay):Int:=
 bif F.gY c.fr||F.gY c.tqq then 1 else bif F.le c.tqq c.fr||F.xz p c then 8 else bif F.out c.row 0 15 then 1 else F.tN c.lines
def F.gN {α:Type} (f:Option α->α->Int):Option α->List α->Int
 | _,[]=>0
 | p,c::l=>bif f p c != 0 then f p c else F.gN f (some c) l
def gO {α:Type} (l:List α):Nat->Option α
 | 0=>none
 | k+1=>l[k]?
def F.dY (l:List ay):Int:=bif decide (500<l.length) then 2 else F.gN F.lF none l
def F.kM (l:List ByteArray):Bool:=l.all F.small
def F.gh (l:List ay):Bool:=l.all fun c=>F.kM c.lines
theorem aEn {l:List ay} (h:F.gh l=true) {c:ay} (hc:c∈l):F.kM c.lines=true:=bP.1 h c hc
theorem aFl {l:List ByteArray} (h:F.kM l=true) {s:ByteArray} (hs:s∈l):F.small s=true:=bP.1 h s hs
namespace M
theorem YQ {α:Type} {E:Env} {x:Code} {n e r:List Nat×List Nat} {l:List α} {f:Option α->α->Int} {st:Nat->St} {o:Int->Ex×St} {fin:Ex×St}
  (hfin:((exec E x (st l.length)).bind (bE n e r)).val=some fin) (hf1:fin.1 ≠ .normal/\fS fin.2=true) (ho : ∀c,(o c).1 ≠ .normal/\fS (o c).2=true) (hs : ∀k,fS (st k)=true)
  (hgo : ∀k y,l[k]? = some y->((exec E x (st k)).bind (bE n e r)).val=bif f (gO l k) y != 0 then some (o (f (gO l k) y)) else some (.normal,st (k+1))) :
  ∀k,k<=l.length -> ∀ex s',(T.bM (decide (F.gN f (gO l k) (l.drop k)=0)) (.ret fin) (.ret (o (F.gN f (gO l k) (l.drop k))))).val=some (ex,s')->ba E x (st k) ex s':=by
 refine cE (st:=st) (out:=fun k=>T.bM (decide (F.gN f (gO l k) (l.drop k)=0)) (.ret fin) (.ret (o (F.gN f (gO l k) (l.drop k))))) (I:=fun k=>k<=l.length) (n:=n) (e:=e) (r:=r) (fun k=>l.length - k) ?_
 intro k hk
 by_cases hlt:k<l.length
 .have hy:l[k]? = some l[k]:=bC hlt
  have hd:l.drop k=l[k]::l.drop (k+1):=pe hlt
  generalize l[k]=y at hy hd
  have hg:=hgo k y hy
  simp only[hd,F.gN]
  cases hf:f (gO l k) y != 0
  .right
   rw[hf]at hg
   simp only[ap]at hg ⊢
   exact⟨k+1,hg,hs _,hlt,by omega,by simp only[gO,hy]⟩
  .left
   rw[hf]at hg
   simp only[ak]at hg ⊢
   have hne:f (gO l k) y≠0:=by simpa using hf
   exact⟨_,hg,by simp[T.val,hne],(ho _).1,(ho _).2⟩
 .have:k=l.length:=by omega
  subst this
  left
  refine⟨_,hfin,?_,hf1.1,hf1.2⟩
  rw[mA]
  simp[F.gN,T.val]
theorem Hv (m n:Nat):decide ((m:Int)<(n:Int))=decide (m<n):=by
 by_cases h:m<n
 .rw[aj h,aj (by omega)]
 .rw[aH h,aH (by omega)]
theorem YR {α:Type} (l:List α):(((l.length:Nat):Int)==0)=l.isEmpty:=by
 cases l with
 | nil=>rfl
 | cons y l=>simp;omega
section
variable (a b:ay)
theorem ams:(aB dj false f57 [.agg (aq a), .agg (aq b)]).val =
 some ((vB (bif decide (a.fr<b.fr) then true else bif a.fr==b.fr then decide (a.tqq<b.tqq) else false)),[]):=by kernel_rfl
def Hw:List AV:=[.agg (aq a), .agg (aq b)]
def pF (a:ay×ay):List AV:=Hw a.1 a.2
theorem amt a a' (h:pF a=pF a'):a=a':=by
 simp only[pF,Hw]at h
 try simp[MO]at h
 grind
theorem NR (a_fr:Int) (a_to:Int) (a_lines:List ByteArray) (a_row:Int) (a_bef:Bool) (a_aft:Bool) (b_fr:Int) (b_to:Int) (b_lines:List ByteArray) (b_row:Int) (b_bef:Bool) (b_aft:Bool):ac pF ([AV.agg [(vI a_fr),(vI a_to),AV.sl (ab aC a_lines),(vI a_row),(vB a_bef),(vB a_aft)],AV.agg [(vI b_fr),(vI b_to),AV.sl (ab aC b_lines),(vI b_row),
 (vB b_bef),(vB b_aft)]])=some ((ay.mk a_fr a_to a_lines a_row a_bef a_aft),(ay.mk b_fr b_to b_lines b_row b_bef b_aft)):=ax amt ((ay.mk a_fr a_to a_lines a_row a_bef a_aft),(ay.mk b_fr b_to b_lines b_row b_bef b_aft)) rfl
def NS:AV×Heap:=(vB (iR a b),[])
end
def amu (a:ay) (b:ay):Bool:=true
def NT:aW:=aY 57 true pF (aT amu) (aT NS)
theorem YS:aX Tryz.prog au NT:=by
 refine cx f57 gL ?_
 rintro⟨a,b⟩ hpre hok
 show(aB dj false _ (Hw _ _)).val=some (NS _ _)
 unfold Hw NS
 rw[ams]
 simp only[F.lt,iR]
 cases decide (a.fr<b.fr)<;>cases(a.fr==b.fr)<;>cases decide (a.tqq<b.tqq)<;>rfl
def NU:Env:=bq ty au bp [jJ] [] [] []
theorem amv:aZ Tryz.prog NU:=bG (aI jZ bF)
theorem amw (n:Int):(aB NU false f56 [vI n]).val =
 ai (ac eT [(vI n),(vI 0),(vI 359999999)]) fun z=>some ((vB (F.out z.1 z.2.1 z.2.2)),[]):=by kernel_rfl
def Hy (n:Int):List AV:=[vI n]
def rA (a:Int):List AV:=Hy a
theorem amx a a' (h:rA a=rA a'):a=a':=by
 simp only[rA,Hy]at h
 try simp at h
 grind
section
variable (l:List ay) (k:Nat)
theorem Hz (n:Int):ac rA ([(vI n)])=some (n):=ax amx (n) rfl
def NV (n:Int):AV×Heap:=(vB (F.gY n),[])
def amy (n:Int):Bool:=true
def NW:aW:=aY 56 true rA amy NV
theorem YT:aX Tryz.prog au NW:=by
 refine cx f56 amv ?_
 rintro n hpre hok
 show(aB NU false _ (Hy _)).val=some (NV _)
 unfold Hy NV
 rw[amw]
 simp only[jk,ar,F.gY]
def tO:St:=⟨[(12,vI k),(11,vI l.length),(10, .sl (l.map aq)),(0, .sl (l.map aq))],[]⟩
def xA (a:(List ay)×Nat):St:=tO a.1 a.2
theorem amz a a' (h:xA a=xA a'):a=a':=by
 simp only[xA,tO]at h
 try simp[dT]at h
 grind
theorem amA: ac xA (St.mk [(12,(vI (0:Int))),(11,(vI (↑(ae l):Int))),(10,AV.sl (ab aq l)),(0,AV.sl (ab aq l))] [])=some (l,0):=ax amz (l,0) rfl
def YU:T (Ex×St):= .bM (decide (F.gN F.lF (gO l k) (l.drop k)=0)) (.ret (.exit 0,⟨[],[]⟩)) (.ret (.ret,⟨[(2,vI (F.gN F.lF (gO l k) (l.drop k)))],[]⟩))
def NX:Bool:=decide (l.length<=9223372036854775807)&&decide (k<=l.length)&&F.gh l
def amB:Nat×(St->T (Ex×St)):=(4,lpo [12,11,10,0] [] xA (aT NX) (aT YU))
def xB (ls:List ByteArray) (k:Nat) (j:Nat):St:=⟨[(62,vI j),(61,vI ls.length),(60, .sl (ls.map aC)),(12,vI k),(11,vI l.length),(10, .sl (l.map aq)),(0, .sl (l.map aq))],[]⟩
def xC (a:(List ay)×(List ByteArray)×Nat×Nat):St:=xB a.1 a.2.1 a.2.2.1 a.2.2.2
theorem amC a a' (h:xC a=xC a'):a=a':=by
 simp only[xC,xB]at h
 try simp[iL,dT]at h
 grind
theorem YV (ls:List ByteArray) (k:Nat)  : ac xC (St.mk [(62,(vI (0:Int))),(61,(vI (↑(ae ls):Int))),(60,AV.sl (ab aC ls)),(12,(vI (↑k:Int))),(11,(vI (↑(ae l):Int))),(10,AV.sl
 (ab aq l)),(0,AV.sl (ab aq l))] [])=some (l,ls,k,0):=ax amC (l,ls,k,0) rfl
def YW (ls:List ByteArray) (k:Nat) (j:Nat):T (Ex×St):= .bM (F.iO (ls.drop j)) (.ret (.exit 3,⟨[(12,vI k),(11,vI l.length),(10, .sl (l.map aq)),(0, .sl (l.map aq))],[]⟩)) (.ret (.ret,⟨[(2,vI 3)],[]⟩))
def NY (l:List ay) (ls:List ByteArray) (k:Nat) (j:Nat):Bool:=decide (ls.length<=9223372036854775807)&&decide (j<=ls.length)&&F.kM ls
def amD:Nat×(St->T (Ex×St)):=(17,lpo [62,61,60,12,11,10,0] [] xC (cD NY) (cD YW))
def tP:Env:=bq ty au bp [NW,NT,jJ,NQ] [] [] [amB,amD]
theorem amE:aZ Tryz.prog tP:=bG (aI YT (aI YS (aI jZ (aI YP bF))))
theorem YX (ls:List ByteArray) (k:Nat) (j:Nat):((exec tP (aw f28 1) (xB l ls k j)).bind (bE ([62,61,60,12,11,10,0],[]) ([12,11,10,0],[]) ([2],[]))).val =
 bif decide ((↑j:Int)<(↑(ae ls):Int)) then ai (ac (ab aC) (ab aC ls)) fun z=>bif decide (j<ae z)
 then ai (ac ry [(vS (al z j (az (aA []))))]) fun z=>bif F.small z then bif !F.line z then some (Ex.ret,St.mk [(2,
 (vI 3))] []) else some (Ex.normal,St.mk [(62,(vI (am.wrap ((↑j:Int)+1)))),(61,(vI (↑(ae ls):Int))),(60,AV.sl
 (ab aC ls)),(12,(vI (↑k:Int))),(11,(vI (↑(ae l):Int))),(10,AV.sl (ab aq l)),(0,AV.sl (ab aq l))] []) else none else none else
 some (Ex.exit (3:Nat),St.mk [(12,(vI (↑k:Int))),(11,(vI (↑(ae l):Int))),(10,AV.sl (ab aq l)),(0,AV.sl (ab aq l))] []):=by kernel_rfl
theorem amF (ls:List ByteArray) (k:Nat) (j:Nat) (hp:NY l ls k j=true) : ∀ex s',(YW l ls k j).val=some (ex,s')->ba tP (aw f28 1) (xB l ls k j) ex s':=by
 simp only[NY,aG,aM]at hp
 obtain⟨⟨h1,h2⟩,h3⟩:=hp
 refine pu (xs:=ls) (st:=xB l ls k) (p:=F.line) (n:=([62,61,60,12,11,10,0],[])) (e:=([12,11,10,0],[])) (r:=([2],[])) ?_ ⟨by simp,rfl⟩ ⟨by simp,rfl⟩ (fun _=>rfl) ?_ j h2
 .rw[YX];simp
 .intro j y hy
  have hlt:=cy hy
  have iu:=aFl h3 (cL hy)
  rw[YX]
  simp only[rz,ar,jV,ak,bA hlt,aj hlt,ch hlt h1,getD_at hy,xB,iu]
  cases F.line y<;>rfl
theorem YY:((exec tP (aw f28 0) (tO l k)).bind (bE ([12,11,10,0],[]) ([],[]) ([2],[]))).val =
 (fun(q:Bool)=>(fun(q_1:Nat×AV)=>(fun(q_2:ay)=>(fun(q_3:List AV)=>(fun(q_4:Option (Ex×St))=>(fun(q_5:Option (Ex×St))=>(fun(q_6 :
 Option (Ex×St))=>(fun(q_7:Option (Ex×St))=>(fun(q_8:Option (Ex×St))=>(fun(q_9:List (Nat×AV))=>bif decide ((↑k:Int)<(↑(ae l):Int))
 then ai (ac (ab aq) (ab aq l)) fun z=>(fun(q_10:Int)=>(fun(q_11:Bool)=>(fun(q_12:Bool)=>(fun(q_13:AV)=>(fun
 (q_14:Option (Ex×St))=>(fun(q_15:Option (Ex×St))=>bif decide (k<ae z) then ai (ac rA [(vI (al z k q_2).fr)]) fun(z_1:Int)
 =>bif !F.gY z_1 then ai (ac rA [(vI (al z k q_2).tqq)]) fun z=>bif bif F.gY z_1 then true else F.gY z then q_4 else bif q_12
 then ai (idx (am.wrap ((↑k:Int) - (1:Int)))) fun z=>ai (ac (ab aq) (ab aq l)) fun z_2=>
 bif decide (z<ae z_2) then bif q_12 then ai (ac pF [q_13,AV.agg [(vI (al z_2 z q_2).fr),(vI (al z_2 z q_2).tqq),AV.sl (ab
 aC (al z_2 z q_2).lines),(vI (al z_2 z q_2).row),(vB (al z_2 z q_2).cZ),(vB (al z_2 z q_2).dl)]]) fun z=>bif bif q_11
 then true else bif q then iR z.1 z.2 else false then q_8 else q_14 else q_15 else none else bif q_12 then none else bif q_12 then ai (ac pF
 [q_13,AV.bL]) fun z=>bif bif q_11 then true else bif q then iR z.1 z.2 else false then q_8 else q_14 else q_15 else q_4 else none) (bif bif
 q_11 then true else false then q_8 else q_14)) (ai (ac eT ((vI (al z k q_2).row)::q_3)) fun z_1=>bif F.out z_1.1
 z_1.2.1 z_1.2.2 then q_4 else bif q_10==0 then q_7 else bif decide ((15:Int)<q_10) then q_5 else ai (ac xC (St.mk (q_1::(61,(vI
 q_10))::(60,AV.sl (ab aC (al z k q_2).lines))::q_9) [])) fun z=>bif decide (ae z.2.1 <=
 (9223372036854775807:Nat))&&decide (z.2.2.2<=ae z.2.1)&&F.kM z.2.1&&true then bif F.iO (bn z.2.2.2 z.2.1) then some
 (Ex.normal,St.mk [(12,(vI (am.wrap ((↑z.2.2.1:Int)+1)))),(11,(vI (↑(ae z.1):Int))),(10,AV.sl (ab aq z.1)),
 (0,AV.sl (ab aq z.1))] []) else q_6 else none)) (AV.agg [(vI (al z k q_2).fr),(vI (al z k q_2).tqq),AV.sl (ab aC (al z k
 q_2).lines),(vI (al z k q_2).row),(vB (al z k q_2).cZ),(vB (al z k q_2).dl)])) (!q_11&&q)) (decide ((al z k q_2).tqq<=(al z k
 q_2).fr))) (↑(ae (ab aC (al z k q_2).lines)):Int) else some (Ex.exit (0:Nat),St.mk [] [])) [(12,(vI (↑k:Int))),(11,(vI (↑(ae l)
 : Int))),(10,AV.sl (ab aq l)),(0,AV.sl (ab aq l))]) (some (Ex.ret,St.mk [(2,(vI 8))] []))) (some (Ex.ret,St.mk [(2,(vI 9))] [])))
 (some (Ex.ret,St.mk [(2,(vI 3))] []))) (some (Ex.ret,St.mk [(2,(vI 2))] []))) (some (Ex.ret,St.mk [(2,(vI 1))] []))) [(vI 0),(vI 15)]) (ay.mk (0:Int) (0:Int) [] (0:Int) false false)) (62,(vI 0))) (decide ((0:Int)<(↑k:Int))):=by kernel_rfl
theorem amG (hp:NX l k=true) : ∀ex s',(YU l k).val=some (ex,s')->ba tP (aw f28 0) (tO l k) ex s':=by
 simp only[NX,aG,aM]at hp
 obtain⟨⟨h1,h2⟩,h3⟩:=hp
 refine YQ (l:=l) (f:=F.lF) (st:=tO l) (o:=fun c=>(.ret,⟨[(2,vI c)],[]⟩)) (n:=([12,11,10,0],[])) (e:=([],[])) (r:=([2],[])) ?_ ⟨by simp,rfl⟩ (fun _=>⟨by simp,rfl⟩) (fun _=>rfl) ?_ k h2
 .rw[YY];simp
 .intro k y hy
  have hlt:=cy hy
  have iu:=aEn h3 (cL hy)
  rw[YY]
  cases k with
  | zero=>
   simp only[Hz,jk,NR,YV,jg,ar,aN,iM,F.le,ak,aS,bA hlt,aj hlt,ch hlt h1,getD_at hy,tO,iu,gO,F.lF,F.xz,F.tN,YR,df,cf,decide_true]
   have e15:decide ((15:Int)<(y.lines.length:Int))=decide (15<y.lines.length):=Hv 15 _
   have hl:decide (15<y.lines.length)=false->decide (y.lines.length<=9223372036854775807)=true:=fun h=>aj (by simp only[decide_eq_false_iff_not]at h;omega)
   have hz:decide ((0:Int)<((0:Nat):Int))=false:=rfl
   simp only[hz,e15]
   cases F.gY y.fr
   .cases F.gY y.tqq
    .cases decide (y.tqq<=y.fr)
     .cases F.out y.row 0 15
      .cases y.lines.isEmpty
       .cases h15:decide (15<y.lines.length)
        .simp only[hl h15]
         cases F.iO y.lines<;>rfl
        .rfl
       .rfl
      .rfl
     .rfl
    .rfl
   .rfl
  | succ j=>
   have ho:l[j]? = some l[j]:=bC (by omega)
   generalize l[j]=o at ho
   have hlo:=cy ho
   simp only[Hz,jk,NR,YV,jg,ar,aN,iM,F.le,ak,aS,bA hlt,aj hlt,aj hlo,ch hlt h1,getD_at hy,getD_at ho,ho,tO,iu,gO,F.lF,F.xz,F.tN,YR,XI (by omega:j+1<=9223372036854775807),df,cf,decide_true]
   have e15:decide ((15:Int)<(y.lines.length:Int))=decide (15<y.lines.length):=Hv 15 _
   have hl:decide (15<y.lines.length)=false->decide (y.lines.length<=9223372036854775807)=true:=fun h=>aj (by simp only[decide_eq_false_iff_not]at h;omega)
   have hz:decide ((0:Int)<((j+1:Nat):Int))=true:=aj (by omega)
   simp only[hz,e15]
   cases F.gY y.fr
   .cases F.gY y.tqq
    .cases decide (y.tqq<=y.fr)
     .cases iR y o
      .cases F.out y.row 0 15
       .cases y.lines.isEmpty
        .cases h15:decide (15<y.lines.length)
         .simp only[hl h15]
          cases F.iO y.lines<;>rfl
         .rfl
        .rfl
       .rfl
      .rfl
     .rfl
    .rfl
   .rfl
theorem amH {l:List ay} (h:gI (.sl (l.map aq))):l.length<=9223372036854775807:=by simpa using(jH h).1
theorem amI:(aB tP false f28 [.sl (l.map aq)]).val =
 bif decide ((500:Int)<(↑(ae (ab aq l)):Int)) then some ((vI 2),[]) else ai (ac xA (St.mk [(12,(vI 0)),(11,(vI
 (↑(ae (ab aq l)):Int))),(10,AV.sl (ab aq l)),(0,AV.sl (ab aq l))] [])) fun z=>bif decide (ae z.1 <=
 (9223372036854775807:Nat))&&decide (z.2<=ae z.1)&&F.gh z.1&&true then bif decide (F.gN F.lF (gO z.1 z.2) (bn z.2 z.1)=(0
 : Int)) then some ((vI 0),[]) else some ((vI (F.gN F.lF (gO z.1 z.2) (bn z.2 z.1))),[]) else none:=by kernel_rfl
def HA:List AV:=[.sl (l.map aq)]
def pG (a:(List ay)):List AV:=HA a
theorem amJ a a' (h:pG a=pG a'):a=a':=by
 simp only[pG,HA]at h
 try simp[dT]at h
 grind
theorem HB:ac pG ([AV.sl (ab aq l)])=some (l):=ax amJ (l) rfl
def NZ:AV×Heap:=(vI (F.dY l),[])
def YZ:Bool:=F.gh l
end
def C6:aW:=aY 28 true pG YZ NZ
theorem HC:aX Tryz.prog au C6:=by
 refine cQ f28 amE (md (x0:=aw f28 0) (x1:=aw f28 1) (by kernel_rfl) (bS ?_) (bS ?_)) ?_
 .rintro⟨l,k⟩ hp
  exact amG l k hp
 .rintro⟨l,ls,k,j⟩ hp
  exact amF l ls k j hp
 rintro l hpre hok
 show(aB tP false _ (HA _)).val=some (NZ _)
 unfold HA NZ
 rw[amI]
 simp only[YZ]at hpre
 have hx:=amH (hok _ (dN ..))
 have hp:gO l 0=none:=rfl
 simp only[amA,ar,aN,ak,aS,hx,hp,hpre,df,cf,decide_true,F.dY]
 rw[show decide ((500:Int)<(l.length:Int))=decide (500<l.length) from Hv 500 _]
 cases decide (500<l.length)
 .simp only[ap]
  by_cases h:F.gN F.lF none l=0
  .simp only[h,decide_true,ak]
  .simp only[h,decide_false,ap]
 .rfl
end M
theorem Fz (s:ByteArray) (a b:Nat):(s.extract a b).size<=s.size:=by
 rw[K1];omega
theorem af8 (sep:ByteArray) : ∀(k:Nat) (s:ByteArray),∀x∈Lf sep 0 k s,x.size<=s.size
 | 0,s,x,h=>by
  rw[Lib.splitB_zero,i7]at h
  rw[h];exact bR _
 | k+1,s,x,h=>by
  unfold Lf at h
  split at h
  .rw[i7]at h
   rw[h];exact bR _
  .rcases cK.1 h with rfl | h
   .exact Fz _ _ _
   .exact iW (af8 sep k _ x h) (Fz _ _ _)
theorem F.N0 {s sep x:ByteArray} (h:x∈F.split s sep):x.size<=s.size:=af8 sep _ s x h
theorem F.C7 {s sep:ByteArray} (h1:1<=sep.size):(F.split s sep).length=vN s sep+1:=Lib.splitB_all sep h1 0 _ s rfl
namespace M
theorem amK (w:World) (o:Obj):Below w.heap.size w (w.alloc o):=
 ⟨rfl,rfl,rfl,by simp,fun k hk=>by
  show(w.heap.push _)[k]? = _
  rw[Array.getElem?_push,if_neg (by omega)]⟩
theorem amL (w:World) (S:Nat->Prop) (xs:List ByteArray) (t:TypeId) (hs : ∀x∈xs,x.size<=9223372036854775807) (hl:xs.length<=9223372036854775807) :
  RV (w.alloc (.cells (xs.map B4).toArray t)) (fun b=>S b\/b=w.heap.size) dP (.sl (xs.map aC)) (.slice (some ⟨w.heap.size,0,none⟩) xs.length xs.length):=by
 have hlen:(xs.map aC).length=xs.length:=by simp
 have dJ : ∀(i:Nat) (x:ByteArray),xs[i]? = some x->(w.alloc (.cells (xs.map B4).toArray t)).cell? ⟨w.heap.size,i,none⟩=some (.string x):=by
  intro i x hx
  have:(w.alloc (.cells (xs.map B4).toArray t)).heap[w.heap.size]? = some (.cells (xs.map B4).toArray t):=by
   show(w.heap.push _)[w.heap.size]? = _
   simp
  simp only[lW,this]
  simp[hx]
 have:=R0.sl (w:=w.alloc (.cells (xs.map B4).toArray t)) (S:=fun b=>S b\/b=w.heap.size) (rows:=xs.map aC) (A:=some ⟨w.heap.size,0,none⟩) (cap:=xs.length) (size:=1) (b:=w.heap.size) (off:=0) (vals:=fun i _=> .string (xs.getD i ⟨#[]⟩))
  (by rw[hlen];exact bR _) hl (fun _=>⟨rfl, .inr rfl⟩)
  (fun i row hi=>by
   simp only[dM,eZ]at hi
   obtain⟨x,_,rfl⟩:=hi
   rfl)
  (fun i j row a hi hj=>by
   simp only[dM,eZ]at hi
   obtain⟨x,hx,rfl⟩:=hi
   have hj0:j=0:=by
    have:=(cO.1 hj).1
    simp[aC]at this;omega
   subst hj0
   rw[getD_at hx,show 0+i*1+0=i by omega]
   exact dJ i x hx)
  (fun i j row a hi hj=>by
   simp only[dM,eZ]at hi
   obtain⟨x,hx,rfl⟩:=hi
   have hj0:j=0:=by
    have:=(cO.1 hj).1
    simp[aC]at this;omega
   subst hj0
   simp only[aC,List.getElem?_cons_zero,eX]at hj
   subst hj
   rw[getD_at hx]
   exact .v (hs x (cL hx)))
 rw[hlen]at this
 exact this
section
variable (s sep:ByteArray)
def Y0:List AV:=[vS s,vS sep]
def xD (a:ByteArray×ByteArray):List AV:=Y0 a.1 a.2
theorem amM a a' (h:xD a=xD a'):a=a':=by
 simp only[xD,Y0]at h
 try simp at h
 grind
theorem amN:ac xD ([(vS s),(vS sep)])=some (s,sep):=ax amM (s,sep) rfl
def amO:AV×Heap:=(.sl ((F.split s sep).map aC),[])
def Y2:Bool:=decide (s.size<=4294967280)&&decide (1<=sep.size)
end
def Y3:aW:=aY 117 false xD (aT Y2) (aT amO)
theorem amP:aX Tryz.prog au Y3:=by
 refine io ⟨f117,by kernel_rfl,by kernel_rfl,by kernel_rfl⟩ (fun x hp _=>?_) (by intro h;cases h)
 obtain⟨s,sep⟩:=x
 simp only[Y2,aT,aG,aM]at hp
 intro w S cargs hlt hg hargs
 match cargs,hargs with
 | [u,v],⟨h1,h2,_⟩=>
  obtain⟨rfl,k1⟩:=dD h1
  obtain⟨rfl,k2⟩:=dD h2
  obtain⟨m,hm⟩:=G7 hg
  refine(Tryz.strings_Split s sep m w (by omega) hm hp.2).mono ?_
  rintro e w' ⟨rfl,rfl⟩
  have hl:=F.C7 (s:=s) hp.2
  have hc:=Lib.countB_le sep hp.2 s.size s (bR _)
  have hr:=amL w S (F.split s sep) 9 (fun x hx=>by have:=F.N0 hx;omega) (by rw[hl];omega)
  rw[hl]at hr
  exact⟨_,fun b=>S b\/b=w.heap.size,dP,rfl,amK _ _,fun _ h=> .inl h,fun b h=>h.imp id (fun e=>by omega),fun b h=>by
   have:(w.alloc (.cells ((Lf sep 0 (vN s sep) s).map B4).toArray 9)).heap.size=w.heap.size+1:=by simp
   rcases h with h | h
   .have:=hlt b h;omega
   .omega,(fun _ _ _ _ h=>by cases h),(fun _ _ h=>by cases h),(fun _ _ h=>by cases h),(fun _ _ h=>by cases h),hr⟩
end M
def aEL (l:List (ByteArray×ByteArray)):Bool:=l.all fun p=>F.seq p.1 p.2
def aEx (a b:List ByteArray):Bool:=decide (a.length=b.length)&&aEL (a.zip b)
theorem KH {α:Type} : ∀(l acc:List α),l.foldl (fun a y=>a++[y]) acc=acc++l
 | [],acc=>by simp
 | y::l,acc=>by rw[List.foldl_cons,KH l];simp
def vt (l:List ay):Bool:=decide (l.length<=500)&&l.all fun c=>decide (c.lines.length<=15)
theorem ags {α:Type} {f:Option α->α->Int} : ∀ {l:List α} {p:Option α},F.gN f p l=0 -> ∀c∈l,∃q,f q c=0
 | c::l,p,h,d,hd=>by
  rw[F.gN]at h
  by_cases hf:f p c=0
  .rcases cK.1 hd with rfl | hd
   .exact⟨p,hf⟩
   .rw[M.cR hf]at h
    exact ags h d hd
  .rw[M.cP hf]at h
   exact absurd h hf
theorem UH {l:List ay} (h:F.dY l=0):l.length<=500:=by
 unfold F.dY at h
 by_cases hh:500<l.length
 .rw[aj hh]at h;cases h
 .omega
theorem aFu {l:List ay} (h:F.dY l=0) {c:ay} (hc:c∈l) : ∃q,F.lF q c=0:=by
 have h1:=UH h
 unfold F.dY at h
 rw[aH (by omega)]at h
 exact ags h c hc
theorem aFn {ls:List ByteArray} (h:F.tN ls=0):ls≠[]/\ls.length<=15/\F.iO ls=true:=by
 unfold F.tN at h
 cases h1:ls.isEmpty<;>rw[h1]at h
 .by_cases h2:15<ls.length
  .rw[aj h2]at h;cases h
  .rw[aH h2]at h
   cases h3:F.iO ls<;>rw[h3]at h
   .cases h
   .refine⟨?_,by omega,rfl⟩
    intro e
    rw[e]at h1
    cases h1
 .cases h
theorem aEm {q:Option ay} {c:ay} (h:F.lF q c=0):F.gY c.fr=false/\F.gY c.tqq=false/\F.le c.tqq c.fr=false/\F.xz q c=false/\F.out c.row 0 15=false/\F.tN c.lines=0:=by
 unfold F.lF at h
 cases h1:F.gY c.fr<;>rw[h1]at h<;>simp only[Bool.true_or,nF,ak]at h
 .cases h2:F.gY c.tqq<;>rw[h2]at h<;>simp only[ak,ap]at h
  .cases h3:F.le c.tqq c.fr<;>rw[h3]at h<;>simp only[Bool.true_or,nF,ak]at h
   .cases h4:F.xz q c<;>rw[h4]at h<;>simp only[ak,ap]at h
    .cases h5:F.out c.row 0 15<;>rw[h5]at h<;>simp only[ak,ap]at h
     .exact⟨rfl,rfl,rfl,rfl,rfl,h⟩
     .cases h
    .cases h
   .cases h
  .cases h
 .cases h
theorem aEM {l:List ay} (h:F.dY l=0):vt l=true:=by
 refine aFL.2 ⟨aj (UH h),bP.2 fun c hc=>?_⟩
 obtain⟨q,hq⟩:=aFu h hc
 exact aj (aFn (aEm hq).2.2.2.2.2).2.1
namespace M
theorem Y4 (n:Nat):idx (n:Int)=some n:=rfl
theorem amQ:(aB dj false f55 [.nz true []]).val =
 some (AV.sl [],[]):=by kernel_rfl
section
variable (xs:List ByteArray)
theorem amR:(aB dj false f55 [.nz false (xs.map aC)]).val =
 bif aP (((0:Nat)+ae (ab aC xs))*16) 140737488355328&&fx (ab aC xs) fun(r:Row)=>Nat.beq (ae r)
 (TI.mk false (1:Nat) [] [AV.e0] (9:Nat) (1:Nat) (16:Nat) [(vS ⟨⟨[]⟩⟩)] none (4:Nat) []).bv then some (AV.sl (ab aC xs),[]) else
 none:=by kernel_rfl
def Y5:List AV:=[.sl (xs.map aC)]
def tQ (a:(List ByteArray)):List AV:=Y5 a
theorem amS a a' (h:tQ a=tQ a'):a=a':=by
 simp only[tQ,Y5]at h
 try simp[iL]at h
 grind
theorem Y6:ac tQ ([AV.sl (ab aC xs)])=some (xs):=ax amS (xs) rfl
def amT:AV×Heap:=(.sl (xs.map aC),[])
def Y7:Bool:=decide (xs.length*16<=140737488355328)
end
def N3:aW:=aY 55 false tQ Y7 amT
theorem Y8:aX Tryz.prog au N3:=by
 refine io ⟨f55,by kernel_rfl,by kernel_rfl,by kernel_rfl⟩ (fun xs hp _=>?_) (by intro h;cases h)
 simp only[Y7,aM]at hp
 have hb:aP (xs.length*16) 140737488355328=true:=cg (by omega)
 show dy _ _ _ [.sl (xs.map aC)] (.sl (xs.map aC)) []
 refine dy.nil (fun e=>?_) ?_
 .have:xs=[]:=by simpa using e
  subst this
  exact GG (E:=dj) gL mixed (fn:=f55) (by kernel_rfl) (nS (by kernel_rfl)) (keep:=false) amQ
 .refine GG (E:=dj) gL mixed (fn:=f55) (by kernel_rfl) (nS (by kernel_rfl)) (keep:=false) ?_
  rw[amR]
  simp only[aN,gD,hb,aja,aS,ak]
section
variable (l out:List ay) (k:Nat)
def xE:St:=⟨[(8,vI k),(7,vI l.length),(6, .sl (l.map aq)),(3, .own 3)],[(3,⟨false,129,6,out.map aq⟩)]⟩
def xF (a:(List ay)×(List ay)×Nat):St:=xE a.1 a.2.1 a.2.2
theorem amU a a' (h:xF a=xF a'):a=a':=by
 simp only[xF,xE]at h
 try simp[dT]at h
 grind
theorem amV: ac xF (St.mk [(8,(vI (0:Int))),(7,(vI (↑(ae l):Int))),(6,AV.sl (ab aq l)),(3, .own 3)] [(3,ah.mk false 129 6 [])])=some (l,[],0):=ax amU (l,[],0) rfl
def Y9:T (Ex×St):= .ret (.exit 0,⟨[(3, .own 3)],[(3,⟨false,129,6,(out++l.drop k).map aq⟩)]⟩)
def N4:Bool:=vt l&&decide (k<=l.length)&&decide (out.length=k)
def amW:Nat×(St->T (Ex×St)):=(3,lpo [8,7,6,3] [3] xF (bU N4) (bU Y9))
def C8:Env:=bq ty au bp [N3] [] [] [amW]
theorem amX:aZ Tryz.prog C8:=bG (aI Y8 bF)
theorem Za:((exec C8 (aw f65 0) (xE l out k)).bind (bE ([8,7,6,3],[3]) ([3],[3]) ([],[]))).val =
 bif decide ((↑k:Int)<(↑(ae l):Int)) then ai (ac (ab aq) (ab aq l)) fun z=>bif decide (k<ae z) then
 ai (ac tQ [AV.sl (ab aC (al z k (ay.mk (0:Int) (0:Int) [] (0:Int) false false)).lines)]) fun z_1=>bif decide
 (ae z_1*16<=140737488355328) then bif aP ((ae (ab aq out)+1)*56) 140737488355328&&true then
 some (Ex.normal,St.mk [(8,(vI (am.wrap ((↑k:Int)+1)))),(7,(vI (↑(ae l):Int))),(6,AV.sl (ab aq l)),(3, .own 3)] [(3,
 ah.mk false 129 6 (ab aq out++[[(vI (al z k (ay.mk (0:Int) (0:Int) [] (0:Int) false false)).fr),(vI (al z k (ay.mk (0:Int) (0:Int) []
 (0:Int) false false)).tqq),AV.sl (ab aC z_1),(vI (al z k (ay.mk (0:Int) (0:Int) [] (0:Int) false false)).row),(vB (al z k (ay.mk (0 :
 Int) (0:Int) [] (0:Int) false false)).cZ),(vB (al z k (ay.mk (0:Int) (0:Int) [] (0:Int) false false)).dl)]]))]) else none else none else none else
 some (Ex.exit (0:Nat),St.mk [(3, .own 3)] [(3,ah.mk false 129 6 (ab aq out))]):=by kernel_rfl
theorem amY (hp:N4 l out k=true) : ∀ex s',(Y9 l out k).val=some (ex,s')->ba C8 (aw f65 0) (xE l out k) ex s':=by
 simp only[N4,aG,aM]at hp
 obtain⟨⟨h1,h2⟩,h3⟩:=hp
 obtain⟨h4,h5⟩:=aFL.1 h1
 have h4:=of_decide_eq_true h4
 intro ex s' hh
 refine rh (xs:=l) (st:=xE l) (f:=fun a y=>a++[y]) (fin:=fun a=>(.exit 0,⟨[(3, .own 3)],[(3,⟨false,129,6,a.map aq⟩)]⟩)) (I:=fun a k=>a.length=k) (n:=([8,7,6,3],[3])) (e:=([3],[3])) (r:=([],[])) ?_ (fun _=>⟨by simp,rfl⟩) (fun _ _=>rfl) ?_ out k h2 h3 ex s' (by rw[KH];exact hh)
 .intro a _
  rw[Za];simp
 .intro a k y hy ha
  have hlt:=cy hy
  have hl:=of_decide_eq_true (bP.1 h5 y (cL hy))
  have d1:decide (y.lines.length*16<=140737488355328)=true:=aj (by omega)
  have d2:aP ((a.length+1)*56) 140737488355328=true:=cg (by omega)
  refine⟨?_,by simp[ha]⟩
  rw[Za]
  simp only[Y6,jg,ar,aN,iM,ak,aS,bA hlt,aj hlt,ch hlt (by omega:l.length<=9223372036854775807),getD_at hy,xE,d1,d2,Xi]
theorem amZ:(aB C8 true f65 [.sl (l.map aq)]).val =
 ai (ac xF (St.mk [(8,(vI 0)),(7,(vI (↑(ae (ab aq l)):Int))),(6,AV.sl (ab aq l)),(3, .own 3)] [(3,ah.mk false 129
 6 [])])) fun z=>bif vt z.1&&decide (z.2.2<=ae z.1)&&decide (ae z.2.1=z.2.2)&&true then some
 (.own 0,[(0,ah.mk false 129 6 (ab aq (z.2.1++bn z.2.2 z.1)))]) else none:=by kernel_rfl
def HD:List AV:=[.sl (l.map aq)]
def xG (a:(List ay)):List AV:=HD a
theorem am0 a a' (h:xG a=xG a'):a=a':=by
 simp only[xG,HD]at h
 try simp[dT]at h
 grind
theorem am1:ac xG ([AV.sl (ab aq l)])=some (l):=ax am0 (l) rfl
def N5:AV×Heap:=(.own 0,[(0,⟨false,129,6,l.map aq⟩)])
def Zb:Bool:=vt l
end
def Zc:aW:=aY 65 false xG Zb N5
theorem am2:aX Tryz.prog au Zc:=by
 refine CP f65 (keep:=true) (by kernel_rfl) (by kernel_rfl) amX mixed (de (x0:=aw f65 0) (by kernel_rfl) (bS ?_)) (by first | exact fun _ _=>⟨rfl,rfl⟩ | (intro h;cases h)) ?_
 .rintro⟨l,out,k⟩ hp
  exact amY l out k hp
 rintro l hpre hok
 show(aB C8 true _ (HD _)).val=some (N5 _)
 unfold HD N5
 rw[amZ]
 simp only[Zb]at hpre
 simp only[amV,ar,aN,ak,aS,hpre,df,cf,decide_true,i6,eh]
end M
def agk (lo:Int) (b:UInt8):Bool:= !(decide ((b.toNat:Int)<lo)||decide ((126:Int)<(b.toNat:Int)))
def KO (lo:Int) (l:List UInt8):Bool:=l.all (agk lo)
def BB (s:ByteArray) (lo:Int):Bool:=KO lo (F.bs s)
def F.hasPrefix (s p:ByteArray):Bool:=decide (p.size<=s.size)&&F.seq (s.extract 0 p.size) p
def lO (s:ByteArray):Int:=if F.out s.size 1 200||decide (KI s=35) || !BB s 33 then 3 else 0
def Ul (s:ByteArray):Int:=if !F.hasPrefix s ⟨#[35,88]⟩ || !BB s 32 then 3 else if 300<s.size then 2 else 0
def Fv (l:List ByteArray):Int:=M.bN Ul l
def qd (e:cb) (target:Int):Int:=
 if lO e.uri≠0 then lO e.uri else
 if F.out e.eK 1 3600000 then 1 else
 if target<(e.eK+500) / 1000 then 2 else
 if F.out e.date (-1) 253402300799999 then 1 else
 if !F.seq e.key ⟨#[]⟩ && !g8 e.key then 5 else
 if 20<e.dz.length then 2 else Fv e.dz
def Fy (target:Int) (l:List cb):Int:=M.bN (fun e=>qd e target) l
def gm (l:bH):Int:=
 if F.out l.target 1 3600||F.out l.first 0 999999999999000||F.out l.breaks 0 1000000000000000 then 1 else
 if 1000<l.entries.length then 2 else Fy l.target l.entries
namespace M
section
variable (s:ByteArray) (lo:Int) (k:Nat)
def xH:St:=⟨[(8,vI k),(7,vI s.size),(1,vU lo),(0,vS s)],[]⟩
def xI (a:ByteArray×Int×Nat):St:=xH a.1 a.2.1 a.2.2
theorem am3 a a' (h:xI a=xI a'):a=a':=by
 simp only[xI,xH]at h
 try simp at h
 grind
theorem am4: ac xI (St.mk [(8,(vI (0:Int))),(7,(vI (↑(aJ s):Int))),(1,(vU lo)),(0,(vS s))] [])=some (s,lo,0):=ax am3 (s,lo,0) rfl
def Zd:T (Ex×St):= .bM (KO lo ((F.bs s).drop k)) (.ret (.exit 0,⟨[],[]⟩)) (.ret (.ret,⟨[(4,vB false)],[]⟩))
def Ze (lo:Int) (k:Nat):Bool:=decide (s.size<=9223372036854775807)&&decide (k<=s.size)
def am5:Nat×(St->T (Ex×St)):=(2,lpo [8,7,1,0] [] xI (bU Ze) (bU Zd))
def C9:Env:=bq ty au bp [] [] [] [am5]
theorem am6:aZ Tryz.prog C9:=bG bF
def HE:List AV:=[vS s,vU lo]
def tR (a:ByteArray×Int):List AV:=HE a.1 a.2
theorem am7 a a' (h:tR a=tR a'):a=a':=by
 simp only[tR,HE]at h
 try simp at h
 grind
theorem Zf:ac tR ([(vS s),(vU lo)])=some (s,lo):=ax am7 (s,lo) rfl
def N6:AV×Heap:=(vB (BB s lo),[])
def am8 (s:ByteArray) (lo:Int):Bool:=true
def N7:aW:=aY 106 true tR (aT am8) (aT N6)
theorem Zg:((exec C9 (aw f106 0) (xH s lo k)).bind (bE ([8,7,1,0],[]) ([],[]) ([4],[]))).val =
 bif decide ((↑k:Int)<(↑(aJ s):Int)) then ai s[k]? fun z=>bif !decide ((↑(dF z):Int)<lo) then ai s[k]? fun(z_1
 : UInt8)=>bif bif decide ((↑(dF z):Int)<lo) then true else decide ((126:Int)<(↑(dF z_1):Int)) then some (Ex.ret,St.mk [(4,(vB false))] [])
 else some (Ex.normal,St.mk [(8,(vI (am.wrap ((↑k:Int)+1)))),(7,(vI (↑(aJ s):Int))),(1,(vU lo)),(0,(vS s))] []) else bif
 !decide ((↑(dF z):Int)<lo) then none else some (Ex.ret,St.mk [(4,(vB false))] []) else some (Ex.exit (0:Nat),St.mk [] []):=by kernel_rfl
theorem am9:(aB C9 false f106 [vS s,vU lo]).val =
 ai (ac xI (St.mk [(8,(vI 0)),(7,(vI (↑(aJ s):Int))),(1,(vU lo)),(0,(vS s))] [])) fun z=>bif decide
 (aJ z.1<=9223372036854775807)&&decide (z.2.2<=aJ z.1)&&true then bif KO z.2.1 (bn z.2.2 (F.bs z.1)) then
 some ((vB true),[]) else some ((vB false),[]) else none:=by kernel_rfl
theorem ana (hs:s.size<=9223372036854775807) (k:Nat) (hk:k<=s.size) : ∀e s',(Zd s lo k).val=some (e,s')->ba C9 (aw f106 0) (xH s lo k) e s':=by
 refine pu (xs:=F.bs s) (st:=xH s lo) (n:=([8,7,1,0],[])) (e:=([],[])) (r:=([4],[])) ?_ ⟨by simp,rfl⟩ ⟨by simp,rfl⟩ (fun _=>rfl) ?_ k (by rw[F.eC];exact hk)
 .rw[Zg,F.eC];simp
 .intro k y hy
  have hk:k<s.size:=by rw[<-F.eC];exact(cO.1 hy).1
  have hkz:((k:Int)<(s.size:Int)):=by omega
  have hw:am.wrap ((k:Int)+1)=((k+1:Nat):Int):=by rw[cA (by omega) (by omega)];rfl
  rw[Zg,iF,hy]
  simp only[hkz,decide_true,ar,hw,agk]
  cases h1:decide ((y.toNat:Int)<lo)<;>cases h2:decide ((126:Int)<(y.toNat:Int))<;>simp_all [xH]
end
theorem Zh:aX Tryz.prog au N7:=by
 refine cQ f106 am6 (de (x0:=aw f106 0) (by kernel_rfl) (bS ?_)) ?_
 .rintro⟨s,lo,k⟩ hp
  simp only[Ze,aG,aM]at hp
  exact ana s lo hp.1 k hp.2
 .rintro⟨s,lo⟩ _ hok
  have hs:=CK (hok _ (dN ..))
  show(aB C9 false _ (HE _ _)).val=some (N6 _ _)
  unfold HE N6
  rw[am9,am4]
  simp[hs,BB]
  cases KO lo (F.bs s)<;>rfl
section
variable (s p:ByteArray)
def HF:List AV:=[vS s,vS p]
def xJ (a:ByteArray×ByteArray):List AV:=HF a.1 a.2
theorem anb a a' (h:xJ a=xJ a'):a=a':=by
 simp only[xJ,HF]at h
 try simp at h
 grind
theorem anc:ac xJ ([(vS s),(vS p)])=some (s,p):=ax anb (s,p) rfl
def N8:AV×Heap:=(vB (F.hasPrefix s p),[])
def ane (s p:ByteArray):Bool:=true
def Zi:aW:=aY 138 true xJ (aT ane) (aT N8)
theorem anf:(aB dj false Tryz.f138 [vS s,vS p]).val =
 bif decide ((↑(aJ p):Int)<=(↑(aJ s):Int)) then bif aP (0:Nat) (aJ p)&&aP (aJ p) (aJ s) then
 some ((vB (bif decide ((↑(aJ p):Int)<=(↑(aJ s):Int)) then cU (vV s (0:Nat) (aJ p)) ==
 cU p else false)),[]) else none else bif decide ((↑(aJ p):Int)<=(↑(aJ s):Int)) then none else some ((vB false),[]):=by kernel_rfl
theorem ang:aX Tryz.prog au Zi:=by
 refine cx Tryz.f138 gL ?_
 rintro⟨s,p⟩ _ hok
 show(aB dj false _ (HF _ _)).val=some (N8 _ _)
 unfold HF N8
 rw[anf]
 unfold F.hasPrefix F.seq
 by_cases h:p.size<=s.size
 .have h':(p.size:Int)<=s.size:=by omega
  have hb:aP p.size s.size=true:=cg h
  have hb0:aP 0 p.size=true:=cg (cf _)
  simp only[h,h',hb,hb0,decide_true,fM,ak]
 .have h' : ¬(p.size:Int)<=s.size:=by omega
  simp[h,h']
def N9:Env:=bq ty au bp [Zi] [] [] []
theorem anh:aZ Tryz.prog N9:=bG (aI ang bF)
def HG:List AV:=[vS s,vS p]
def xK (a:ByteArray×ByteArray):List AV:=HG a.1 a.2
theorem ani a a' (h:xK a=xK a'):a=a':=by
 simp only[xK,HG]at h
 try simp at h
 grind
theorem anj:ac xK ([(vS s),(vS p)])=some (s,p):=ax ani (s,p) rfl
def Oa:AV×Heap:=(vB (F.hasPrefix s p),[])
def ank (s p:ByteArray):Bool:=true
def Zj:aW:=aY 105 true xK (aT ank) (aT Oa)
theorem anl:(aB N9 false f105 [vS s,vS p]).val =
 ai (ac xJ [(vS s),(vS p)]) fun z=>some ((vB (F.hasPrefix z.1 z.2)),[]):=by kernel_rfl
theorem anm:aX Tryz.prog au Zj:=by
 refine cx f105 anh ?_
 rintro⟨s,p⟩ _ hok
 show(aB N9 false _ (HG _ _)).val=some (Oa _ _)
 unfold HG Oa
 rw[anl,anc]
 simp[]
def Ob:Env:=bq ty au bp [jJ,N7] [] [] []
theorem ann:aZ Tryz.prog Ob:=bG (aI jZ (aI Zh bF))
theorem ano:(aB Ob false f101 [vS s]).val =
 ai (ac eT [(vI (↑(aJ s):Int)),(vI 1),(vI 200)]) fun z=>bif !F.out z.1 z.2.1 z.2.2 then
 ai s[(0:Nat)]? fun z_1=>bif !bif F.out z.1 z.2.1 z.2.2 then true else (↑(dF z_1):Int)==35 then ai (ac
 tR [(vS s),(vU (33:Int))]) fun z_2=>bif bif bif F.out z.1 z.2.1 z.2.2 then true else (↑(dF z_1):Int)==35 then
 true else !BB z_2.1 z_2.2 then some ((vI 3),[]) else some ((vI 0),[]) else bif !bif F.out z.1 z.2.1 z.2.2 then true else (↑(dF
 z_1):Int)==35 then none else some ((vI 3),[]) else bif !F.out z.1 z.2.1 z.2.2 then none else some ((vI 3),[]):=by kernel_rfl
def HH:List AV:=[vS s]
def nX (a:ByteArray):List AV:=HH a
theorem anp a a' (h:nX a=nX a'):a=a':=by
 simp only[nX,HH]at h
 try simp at h
 grind
theorem Oc:ac nX ([(vS s)])=some (s):=ax anp (s) rfl
def Od:AV×Heap:=(vI (lO s),[])
end
section
variable (xs:List ByteArray) (k:Nat)
def anq (s:ByteArray):Bool:=true
def HI:aW:=aY 101 true nX anq Od
theorem Oe:aX Tryz.prog au HI:=by
 refine cx f101 ann ?_
 rintro s _ hok
 show(aB Ob false _ (HH _)).val=some (Od _)
 unfold HH Od
 rw[ano,jk]
 simp only[ar,Zf]
 unfold lO KI
 rw[iF]
 have h0:=F.eC s
 cases h1:F.out s.size 1 200
 .have:0<s.size:=by simp[F.out]at h1;omega
  cases hb:F.bs s with
  | nil=>rw[hb]at h0;simp at h0;omega
  | cons b l=>
   simp
   grind
 .simp
def xL:St:=⟨[(47,vI k),(46,vI xs.length),(45, .sl (xs.map aC))],[]⟩
def xM (a:(List ByteArray)×Nat):St:=xL a.1 a.2
theorem anr a a' (h:xM a=xM a'):a=a':=by
 simp only[xM,xL]at h
 try simp[iL]at h
 grind
theorem ans: ac xM (St.mk [(47,(vI (0:Int))),(46,(vI (↑(ae xs):Int))),(45,AV.sl (ab aC xs))] [])=some (xs,0):=ax anr (xs,0) rfl
def Zk:T (Ex×St):= .bM (decide (Fv (xs.drop k)=0)) (.ret (.exit 1,⟨[],[]⟩)) (.ret (.ret,⟨[(4,vI (Fv (xs.drop k)))],[]⟩))
def Zl:Bool:=decide (xs.length<=9223372036854775807)&&decide (k<=xs.length)
def ant:Nat×(St->T (Ex×St)):=(15,lpo [47,46,45] [] xM (aT Zl) (aT Zk))
def Da:Env:=bq ty au bp [HI,jJ,CZ,Zj,N7] [] [] [ant]
theorem anu:aZ Tryz.prog Da:=bG (aI Oe (aI jZ (aI Hc (aI anm (aI Zh bF)))))
theorem Zm:((exec Da (aw f51 0) (xL xs k)).bind (bE ([47,46,45],[]) ([],[]) ([4],[]))).val =
 bif decide ((↑k:Int)<(↑(ae xs):Int)) then ai (ac (ab aC) (ab aC xs)) fun z=>bif decide (k<ae z)
 then ai (ac xK [(vS (al z k (az (aA [])))),(vS ⟨⟨[35,88]⟩⟩)]) fun z_1=>bif !!F.hasPrefix z_1.1 z_1.2 then ai (ac tR [(vS (al z k (az (aA [])))),(vU (32:Int))]) fun z_2=>bif bif !F.hasPrefix z_1.1 z_1.2 then true else !BB z_2.1 z_2.2 then some (Ex.ret,St.mk [(4,(vI 3))] []) else bif decide ((300:Int) <
 (↑(aJ (al z k (az (aA [])))):Int)) then some (Ex.ret,St.mk [(4,(vI 2))] []) else some (Ex.normal,St.mk [(47,(vI
 (am.wrap ((↑k:Int)+1)))),(46,(vI (↑(ae xs):Int))),(45,AV.sl (ab aC xs))] []) else bif !!F.hasPrefix z_1.1 z_1.2
 then none else some (Ex.ret,St.mk [(4,(vI 3))] []) else none else some (Ex.exit (1:Nat),St.mk [] []):=by kernel_rfl
theorem anv (e:cb) (t:Int):(aB Da false f51 [.agg (bm e),vI t]).val =
 (fun(q:Int)=>(fun(q_1:Bool)=>(fun(q:Option (AV×Heap))=>ai (ac nX [(vS e.uri)]) fun z=>bif lO z != 0 then
 some ((vI (lO z)),[]) else ai (ac eT [(vI e.eK),(vI 1),(vI 3600000)]) fun z=>bif F.out z.1 z.2.1
 z.2.2 then some ((vI 1),[]) else bif decide (t<am.wrap (ix (am.wrap (e.eK+500)) (1000:Int))) then
 some ((vI 2),[]) else ai (ac eT [(vI e.date),(vI (-1:Int)),(vI 253402300799999)]) fun z=>bif F.out z.1
 z.2.1 z.2.2 then some ((vI 1),[]) else bif q_1 then ai (ac oL [(vS e.key)]) fun z=>bif bif q_1 then !g8 z else
 false then some ((vI 5),[]) else q else bif q_1 then none else q) (bif decide ((20:Int)<q) then some ((vI 2),[]) else ai (ac xM
 (St.mk [(47,(vI 0)),(46,(vI q)),(45,AV.sl (ab aC e.dz))] [])) fun z=>bif decide (ae z.1 <=
 (9223372036854775807:Nat))&&decide (z.2<=ae z.1)&&true then bif decide (Fv (bn z.2 z.1)=(0:Int)) then some ((vI 0),
 []) else some ((vI (Fv (bn z.2 z.1))),[]) else none)) !cU e.key==cU (az (aA []))) (↑(ae
 (ab aC e.dz)):Int):=by kernel_rfl
theorem anw (hs:xs.length<=9223372036854775807) (k:Nat) (hk:k<=xs.length) : ∀e s',(Zk xs k).val=some (e,s')->ba Da (aw f51 0) (xL xs k) e s':=by
 refine mW (xs:=xs) (st:=xL xs) (g:=Ul) (o:=fun c=>(.ret,⟨[(4,vI c)],[]⟩)) (n:=([47,46,45],[])) (e:=([],[])) (r:=([4],[])) ?_ ⟨by simp,rfl⟩ (fun _=>⟨by simp,rfl⟩) (fun _=>rfl) ?_ k hk
 .rw[Zm];simp
 .intro k y hy
  have hlt:=cy hy
  rw[Zm]
  simp only[bA hlt,aj hlt,ar,ch hlt hs,jV,anj,Zf,getD_at hy,Ul,xL]
  grind
end
section
variable (e:cb) (t:Int)
def HJ:List AV:=[.agg (bm e),vI t]
def xN (a:cb×Int):List AV:=HJ a.1 a.2
theorem anx a a' (h:xN a=xN a'):a=a':=by
 simp only[xN,HJ]at h
 try simp[Xm]at h
 grind
theorem anz:ac xN ([AV.agg [(vS e.uri),(vI e.eK),(vB e.brk),(vI e.date),(vS e.key),(vB e.kK),AV.sl (ab aC e.dz)],(vI t)])=some (e,t):=ax anx (e,t) rfl
def Of:AV×Heap:=(vI (qd e t),[])
end
section
variable (l:bH) (k:Nat)
def anA (e:cb) (t:Int):Bool:=true
def Zn:aW:=aY 51 true xN (aT anA) (aT Of)
theorem anB {e:cb} (h:gI (.agg (bm e))):(-9223372036854775808<=e.eK/\e.eK<=9223372036854775807)/\e.dz.length<=9223372036854775807/\(-9223372036854775808<=e.date/\e.date<=9223372036854775807)/\e.uri.size<=9223372036854775807/\e.key.size<=9223372036854775807:=by
 have h:=GJ h
 simp only[bm,gQ]at h
 obtain⟨h1,h2,h3,h4,h5,h6,h7,_⟩:=h
 refine⟨W9 h2,?_,W9 h4,CK h1,CK h5⟩
 simpa using(jH h7).1
theorem anC:aX Tryz.prog au Zn:=by
 refine cQ f51 anu (de (x0:=aw f51 0) (by kernel_rfl) (bS ?_)) ?_
 .rintro⟨xs,k⟩ hp
  simp only[Zl,aG,aM]at hp
  exact anw xs hp.1 k hp.2
 .rintro⟨e,t⟩ _ hok
  obtain⟨hm,hx,_⟩:=anB (hok _ (dN ..))
  show(aB Da false _ (HJ _ _)).val=some (Of _ _)
  unfold HJ Of
  rw[anv]
  simp only[Oc,jk,Hb,ans,ar,aN,qd,F.seq,hx]
  cases h1:F.out e.eK 1 3600000
  .have:am.wrap (ix (am.wrap (e.eK+500)) 1000)=(e.eK+500) / 1000:=by
    simp[F.out]at h1
    rw[cA (n:=e.eK+500) (by omega) (by omega),tw (by omega),cA (by omega) (by omega)]
   rw[this]
   simp only[agJ]
   grind
  .simp only[agJ]
   grind
def xO:St:=⟨[(28,vI k),(27,vI l.entries.length),(26, .sl (l.entries.map bm)),(1, .ptr 1 0 0)],[(1,⟨true,0,0,[cd l]⟩)]⟩
def xP (a:bH×Nat):St:=xO a.1 a.2
theorem anD a a' (h:xP a=xP a'):a=a':=by
 simp only[xP,xO]at h
 try simp[ri,nT]at h
 grind
theorem anE: ac xP (St.mk [(28,(vI (0:Int))),(27,(vI (↑(ae l.entries):Int))),(26,AV.sl (ab bm l.entries)),(1, .ptr 1 0 0)] [(1,ah.mk true 0 0 [[(vI l.target),(vI
 l.first),(vI l.breaks),AV.sl (ab bm l.entries),(vB l.ended)]])])=some (l,0):=ax anD (l,0) rfl
def Zo:T (Ex×St):= .bM (decide (Fy l.target (l.entries.drop k)=0)) (.ret (.exit 1,⟨[],[]⟩)) (.ret (.ret,⟨[(2,vI (Fy l.target (l.entries.drop k)))],[]⟩))
def Og:Bool:=decide (l.entries.length<=9223372036854775807)&&decide (k<=l.entries.length)
def anF:Nat×(St->T (Ex×St)):=(6,lpo [28,27,26,1] [1] xP (aT Og) (aT Zo))
def Db:Env:=bq ty au bp [jJ,Zn] [] [] [anF]
theorem anG:aZ Tryz.prog Db:=bG (aI jZ (aI anC bF))
theorem Zp:((exec Db (aw f21 0) (xO l k)).bind (bE ([28,27,26,1],[1]) ([],[]) ([2],[]))).val =
 bif decide ((↑k:Int)<(↑(ae l.entries):Int)) then ai (ac (ab bm) (ab bm l.entries)) fun z=>bif decide (k <
 ae z) then ai (ac xN [AV.agg [(vS (al z k (cb.mk (az (aA [])) (0:Int) false (0:Int) (az (aA []))
 false [])).uri),(vI (al z k (cb.mk (az (aA [])) (0:Int) false (0:Int) (az (aA [])) false [])).eK),(vB (al z k
 (cb.mk (az (aA [])) (0:Int) false (0:Int) (az (aA [])) false [])).brk),(vI (al z k (cb.mk (az (aA [])) (0 :
 Int) false (0:Int) (az (aA [])) false [])).date),(vS (al z k (cb.mk (az (aA [])) (0:Int) false (0:Int) (az
 (aA [])) false [])).key),(vB (al z k (cb.mk (az (aA [])) (0:Int) false (0:Int) (az (aA [])) false [])).kK),AV.sl
 (ab aC (al z k (cb.mk (az (aA [])) (0:Int) false (0:Int) (az (aA [])) false [])).dz)],(vI l.target)]) fun z=>bif qd z.1 z.2 != 0 then some (Ex.ret,St.mk [(2,(vI (qd z.1 z.2)))] []) else some (Ex.normal,St.mk [(28,(vI (bQ
 am ((↑k:Int)+1)))),(27,(vI (↑(ae l.entries):Int))),(26,AV.sl (ab bm l.entries)),(1, .ptr 1 0 0)] [(1,ah.mk true 0 0 [[(vI
 l.target),(vI l.first),(vI l.breaks),AV.sl (ab bm l.entries),(vB l.ended)]])]) else none else some (Ex.exit (1:Nat),St.mk [] []):=by kernel_rfl
theorem anH (hp:Og l k=true) : ∀ex s',(Zo l k).val=some (ex,s')->ba Db (aw f21 0) (xO l k) ex s':=by
 simp only[Og,aG,aM]at hp
 refine mW (xs:=l.entries) (st:=xO l) (g:=fun e=>qd e l.target) (o:=fun c=>(.ret,⟨[(2,vI c)],[]⟩)) (n:=([28,27,26,1],[1])) (e:=([],[])) (r:=([2],[])) ?_ ⟨by simp,rfl⟩ (fun _=>⟨by simp,rfl⟩) (fun _=>rfl) ?_ k hp.2
 .rw[Zp];simp
 .intro k y hy
  have hlt:=cy hy
  rw[Zp]
  simp only[anz,ar,tA,ak,bA hlt,aj hlt,ch hlt hp.1,getD_at hy,xO,cd]
  grind
theorem anI:(aB Db false f21 [.agg (cd l)]).val =
 ai (ac eT [(vI l.target),(vI 1),(vI 3600)]) fun z=>bif !F.out z.1 z.2.1 z.2.2 then ai (ac
 eT [(vI l.first),(vI 0),(vI 999999999999000)]) fun z_1=>bif !bif F.out z.1 z.2.1 z.2.2 then true else F.out z_1.1
 z_1.2.1 z_1.2.2 then ai (ac eT [(vI l.breaks),(vI 0),(vI 1000000000000000)]) fun z_2=>bif bif bif F.out
 z.1 z.2.1 z.2.2 then true else F.out z_1.1 z_1.2.1 z_1.2.2 then true else F.out z_2.1 z_2.2.1 z_2.2.2 then some ((vI 1),[]) else bif
 decide ((1000:Int)<(↑(ae (ab bm l.entries)):Int)) then some ((vI 2),[]) else ai (ac xP (St.mk [(28,(vI 0)),(27,
 (vI (↑(ae (ab bm l.entries)):Int))),(26,AV.sl (ab bm l.entries)),(1, .ptr 1 0 0)] [(1,ah.mk true 0 0 [[(vI l.target),(vI l.first),(vI
 l.breaks),AV.sl (ab bm l.entries),(vB l.ended)]])])) fun z=>bif decide (ae z.1.entries<=9223372036854775807)&&decide (z.2
 <= ae z.1.entries)&&true then bif decide (Fy z.1.target (bn z.2 z.1.entries)=(0:Int)) then some ((vI 0),[]) else some ((vI
 (Fy z.1.target (bn z.2 z.1.entries))),[]) else none else some ((vI 1),[]) else some ((vI 1),[]):=by kernel_rfl
def HK:List AV:=[.agg (cd l)]
def oN (a:bH):List AV:=HK a
theorem Zq a a' (h:oN a=oN a'):a=a':=by
 simp only[oN,HK]at h
 try simp[nT]at h
 grind
theorem anJ:ac oN ([AV.agg [(vI l.target),(vI l.first),(vI l.breaks),AV.sl (ab bm l.entries),(vB l.ended)]])=some (l):=ax Zq (l) rfl
theorem HL (l_target:Int) (l_first:Int) (l_breaks:Int) (l_entries:List cb) (l_ended:Bool):ac oN ([AV.agg [(vI l_target),(vI l_first),(vI l_breaks),AV.sl (ab bm l_entries),(vB l_ended)]])=some ((bH.mk l_target l_first l_breaks l_entries l_ended)):=ax Zq ((bH.mk l_target l_first l_breaks l_entries l_ended)) rfl
def Oh:AV×Heap:=(vI (gm l),[])
end
def anK (l:bH):Bool:=true
def HM:aW:=aY 21 true oN anK Oh
theorem Oi:aX Tryz.prog au HM:=by
 refine cQ f21 anG (de (x0:=aw f21 0) (by kernel_rfl) (bS ?_)) ?_
 .rintro⟨l,k⟩ hp
  exact anH l k hp
 rintro l hpre hok
 show(aB Db false _ (HK _)).val=some (Oh _)
 unfold HK Oh
 rw[anI]
 have hx:l.entries.length<=9223372036854775807:=by
  have h:=GJ (hok _ (dN ..))
  simp only[cd,gQ]at h
  simpa using(jH h.2.2.2.1).1
 simp only[jk,anE,ar,aN,ak,aS,gm,hx,df,cf,decide_true]
 simp only[agJ]
 grind
end M
def bW (by_:Int):Bool:=F.out by_ 1 1000000000
namespace M
def Oj:Env:=bq ty au bp [jJ] [] [] []
theorem anL:aZ Tryz.prog Oj:=bG (aI jZ bF)
theorem anM (n:Int):(aB Oj false f29 [vI n]).val =
 ai (ac eT [(vI n),(vI 1),(vI 1000000000)]) fun z=>some ((vB (F.out z.1 z.2.1 z.2.2)),[]):=(cm).symm.trans (by kernel_rfl)
def HN (n:Int):List AV:=[vI n]
def m8 (a:Int):List AV:=HN a
theorem anN a a' (h:m8 a=m8 a'):a=a':=by
 simp only[m8,HN]at h
 try simp at h
 grind
theorem xQ (n:Int):ac m8 ([(vI n)])=some (n):=ax anN (n) rfl
def Ol (n:Int):AV×Heap:=(vB (bW n),[])
def anO (n:Int):Bool:=true
def tS:aW:=aY 29 true m8 anO Ol
theorem xR:aX Tryz.prog au tS:=by
 refine cx f29 anL ?_
 rintro n hpre hok
 show(aB Oj false _ (HN _)).val=some (Ol _)
 unfold HN Ol
 rw[anM]
 simp only[jk,ar,bW]
end M
namespace F
def fc (c:UInt8):List UInt8->List (List UInt8)
 | []=>[[]]
 | b::r=>bif b==c then []::fc c r else match fc c r with
  | []=>[[b]]
  | h::t=>(b::h)::t
theorem HO (c:UInt8) : ∀l,fc c l≠[]
 | []=>by simp[fc]
 | b::r=>by
  rw[fc]
  cases b==c
  .simp only[ap]
   split<;>simp
  .simp
theorem anP (c:UInt8) (k:Nat) (l:List UInt8):sP [c] 0 (k+1) (c::l)=[]::sP [c] 0 k l:=by
 have hix:ja (c::l) [c]=((0:Nat):Int):=by rw[ja];simp[Lj]
 rw[sP,hix]
 simp
theorem anQ {b c:UInt8} (h:b≠c) (k:Nat) (l:List UInt8):sP [c] 0 k (b::l)=match sP [c] 0 k l with
  | []=>[[b]]
  | h::t=>(b::h)::t:=by
 cases k with
 | zero=>rfl
 | succ k=>
  have hp:([c]:List UInt8).isPrefixOf (b::l)=false:=by simp[Lj,Ne.symm h]
  have hix:ja (b::l) [c]=if ja l [c] == -1 then -1 else ja l [c]+1:=by rw[ja,hp];simp
  by_cases hm:ja l [c] = -1
  .rw[sP,sP,hix,hm]
   simp
  .have hge:=Lib.index_ge l [c]
   obtain⟨j,hj⟩ : ∃j:Nat,ja l [c]=j:=⟨(ja l [c]).toNat,by omega⟩
   have hix':ja (b::l) [c]=((j+1:Nat):Int):=by rw[hix,if_neg (fun e=>hm (beq_iff_eq.1 e)),hj];omega
   have n1 : ¬((((j+1:Nat):Int) == -1)=true):=fun e=>by have:=beq_iff_eq.1 e;omega
   have n2 : ¬((((j:Nat):Int) == -1)=true):=fun e=>by have:=beq_iff_eq.1 e;omega
   rw[sP,hix',if_neg n1,sP,hj,if_neg n2]
   have e1:(((j+1:Nat):Int)).toNat=j+1:=by omega
   have e2:(((j:Nat):Int)).toNat=j:=by omega
   rw[e1,e2]
   simp
theorem Zr (c:UInt8) : ∀l,U3 l [c]=fc c l
 | []=>by
  unfold U3
  rw[Lib.count_one]
  rfl
 | b::l=>by
  unfold U3
  have ih:=Zr c l
  unfold U3 at ih
  by_cases h:b=c
  .subst h
   rw[Lib.count_cons_eq,Nat.add_comm,anP,ih,fc]
   simp
  .have hb:(b==c)=false:=beq_eq_false_iff_ne.2 h
   rw[Lib.count_cons_ne b c l h,anQ h,ih,fc,hb]
   simp only[ap]
theorem Om (s:ByteArray) (c:UInt8):(split s ⟨⟨[c]⟩⟩).map (·.data.toList)=fc c s.data.toList:=by
 unfold split
 rw[Lib.splitB_data]
 exact Zr c _
theorem Zs (c:UInt8) : ∀l,fc c (l++[c])=fc c l++[[]]
 | []=>by simp[fc]
 | b::r=>by
  rw[k6,fc,fc,Zs c r]
  cases hb:b==c
  .simp only[ap]
   have:=HO c r
   cases hs:fc c r with
   | nil=>exact absurd hs this
   | cons h t=>rfl
  .rfl
theorem On (c:UInt8) : ∀l,(fc c l).getLast? = some []->l=[]\/l.getLast? = some c
 | [],_=> .inl rfl
 | b::r,h=>by
  right
  rw[fc]at h
  cases hb:b==c
  .rw[hb]at h
   simp only[ap]at h
   have hne:=HO c r
   have ih:=On c r
   cases hs:fc c r with
   | nil=>exact absurd hs hne
   | cons x t=>
    rw[hs]at h ih
    cases t with
    | nil=>simp at h
    | cons y t=>
     have h2:(x::y::t).getLast? = some []:=by simpa using h
     rcases ih h2 with e | e
     .subst e;simp[fc]at hs
     .cases r with
      | nil=>simp at e
      | cons z r=>simpa using e
  .rw[hb]at h
   simp only[ak]at h
   have hne:=HO c r
   cases hs:fc c r with
   | nil=>exact absurd hs hne
   | cons x t=>
    rw[hs]at h
    have h2:(fc c r).getLast? = some []:=by rw[hs];simpa using h
    rcases On c r h2 with e | e
    .subst e
     have hb:b=c:=by simpa using hb
     simp[hb]
    .cases r with
     | nil=>simp at e
     | cons z r=>simpa using e
def nl:ByteArray:=⟨⟨[10]⟩⟩
def emp (s:ByteArray):Bool:=s.toList==(⟨#[]⟩:ByteArray).toList
theorem lG (s:ByteArray):emp s=decide (s.size=0):=by
 have:=F.empty_eq s
 unfold emp
 rw[show((⟨#[]⟩:ByteArray).toList)=cU (az (aA [])) from rfl,this]
 by_cases h:s.size=0<;>simp[h]
def trim (s p:ByteArray):ByteArray:=bif j0 s p then s.extract 0 (s.size - p.size) else s
def kN (s:ByteArray):List ByteArray:=bif emp ((split s nl).getD ((split s nl).length - 1) ⟨#[]⟩) then (split s nl).take ((split s nl).length - 1) else split s nl
theorem Zt {a b:List ByteArray} (h:a.map (·.data.toList)=b.map (·.data.toList)):a=b:=by
 induction a generalizing b with
 | nil=>cases b with
  | nil=>rfl
  | cons y b=>simp at h
 | cons x a ih=>cases b with
  | nil=>simp at h
  | cons y b=>
   simp only[gP,qq]at h
   rw[ih h.2]
   congr 1
   exact agK (vE h.1)
theorem Zu (s:ByteArray):j0 s nl=true ↔ ∃t,s.data.toList=t++[10]:=by
 unfold j0 Lib.hasSuffix
 rw[show bs nl=[10] from rfl,show bs s=s.data.toList from rfl,List.isSuffixOf_iff_suffix]
 constructor
 .rintro⟨t,h⟩;exact⟨t,h.symm⟩
 .rintro⟨t,h⟩;exact⟨t,h.symm⟩
theorem anR (s:ByteArray):kN s=bif emp s then [] else split (trim s nl) nl:=by
 have hb:=Om s 10
 have hne:=HO 10 s.data.toList
 unfold kN
 have hl:(split s nl).length=(fc 10 s.data.toList).length:=by rw[<-hb];simp[nl]
 have hlast:emp ((split s nl).getD ((split s nl).length - 1) ⟨#[]⟩)=true↔(fc 10 s.data.toList).getLast? = some []:=by
  have h0:(split s nl).length - 1<(split s nl).length:=by
   have:0<(fc 10 s.data.toList).length:=List.length_pos_iff.2 hne
   omega
  rw[List.getD_eq_getElem?_getD,bC h0,k7,List.getLast?_eq_getElem?,<-hb,aN,dM]
  rw[show(split s ⟨⟨[10]⟩⟩)=split s nl from rfl,bC h0,lZ,lG,aM,U5,eX,jb]
 cases he:emp s
 .simp only[ap]
  have hs0:s.data.toList≠[]:=by
   rw[lG,U5]at he
   intro e;rw[e]at he;simp at he
  unfold trim
  cases hh:j0 s nl
  .simp only[ap]
   have : ¬(fc 10 s.data.toList).getLast? = some []:=by
    intro h
    rcases On 10 _ h with e | e
    .exact hs0 e
    .have:j0 s nl=true:=(Zu s).2 ⟨s.data.toList.dropLast,by
      have h1:=List.dropLast_concat_getLast hs0
      rw[List.getLast?_eq_some_getLast hs0]at e
      rw[jC e]at h1
      exact h1.symm⟩
     rw[hh]at this;cases this
   rw[<-hlast]at this
   rw[Bool.not_eq_true]at this
   rw[this,ap]
  .simp only[ak]
   obtain⟨t,ht⟩:=(Zu s).1 hh
   have e1:(s.extract 0 (s.size - nl.size)).data.toList=t:=by
    rw[Lib.extract_data,U5,ht,show nl.size=1 from rfl]
    simp
   have e2:fc 10 s.data.toList=fc 10 t++[[]]:=by rw[ht,Zs]
   have:emp ((split s nl).getD ((split s nl).length - 1) ⟨#[]⟩)=true:=hlast.2 (by rw[e2];simp)
   rw[this,ak]
   refine Zt ?_
   rw[List.map_take,show((split s nl).map (·.data.toList))=_ from hb,show((split (s.extract 0 (s.size - nl.size)) nl).map (·.data.toList))=_ from Om _ 10,e1,hl,e2]
   simp
 .simp only[ak]
  have hs0:s.data.toList=[]:=by
   rw[lG,U5,aM]at he
   exact jb.1 he
  have:emp ((split s nl).getD ((split s nl).length - 1) ⟨#[]⟩)=true:=hlast.2 (by rw[hs0];rfl)
  rw[this,ak,hl,hs0]
  rfl
theorem anS {s x:ByteArray} (h:x∈kN s):x.size<=s.size:=by
 unfold kN at h
 cases hc:emp ((split s nl).getD ((split s nl).length - 1) ⟨#[]⟩)
 .rw[hc,ap]at h;exact N0 h
 .rw[hc,ak]at h;exact N0 (List.mem_of_mem_take h)
theorem anT (s:ByteArray):(kN s).length<=s.size+1:=by
 have h1:=C7 (s:=s) (sep:=nl) (bR 1)
 have h2:=Lib.countB_le nl (bR 1) s.size s (bR _)
 unfold kN
 cases emp ((split s nl).getD ((split s nl).length - 1) ⟨#[]⟩)
 .rw[ap];omega
 .rw[ak,eY];omega
end F
namespace F
def jn (b:UInt8):Bool:=F.digit (b.toNat:Int)
def isNum (s:ByteArray):Bool:=(bs s).all jn&&decide (1<=s.size)&&decide (s.size<=9)
def j5:List (UInt8×UInt8)->Int->Option Int
 | [],n=>some n
 | (f,c)::r,n=>bif ((f.toNat:Int) != 48) then (bif ((c.toNat:Int) != (f.toNat:Int)) then none else j5 r n) else (bif jn c then j5 r (10*n+((c.toNat:Int) - 48)) else none)
def form (p:ByteArray):ByteArray:=(⟨⟨[48,48,58,48,48,58,48,48]⟩⟩:ByteArray)++p++(⟨⟨[48,48,48]⟩⟩:ByteArray)
def rB (s p:ByteArray):Option Int:=j5 ((bs (form p)).zip (bs s)) 0
def Oo (n:Int):Int:=n / 10000000*3600000+n / 100000 % 100*60000+n / 1000 % 100*1000+n % 1000
def Oq (n:Int):Bool:=F.lt (n / 100000 % 100) 60&&F.lt (n / 1000 % 100) 60
def cW (s p:ByteArray):Int×ByteArray×Bool:=
 bif decide (s.size<12) || !F.found (rB s p) then (0,⟨⟨[]⟩⟩,false) else (Oo (F.fp (rB s p) 0),s.extract 12 s.size,Oq (F.fp (rB s p) 0))
def cC (s p:ByteArray):ByteArray×Bool:=bif eV s p then (s.extract p.size s.size,true) else (s,false)
def arrow:ByteArray:=⟨⟨[32,45,45,62,32]⟩⟩
def gi (s p:ByteArray):Int×Int×ByteArray×Bool:=
 ((cW s p).1,(cW (cC (cW s p).2.1 arrow).1 p).1,(cW (cC (cW s p).2.1 arrow).1 p).2.1,(cW s p).2.2&&(cC (cW s p).2.1 arrow).2&&(cW (cC (cW s p).2.1 arrow).1 p).2.2)
theorem Ot : ∀ {l:List (UInt8×UInt8)} {n m:Int} {k:Nat},0<=n->n+1<=10 ^ k->j5 l n=some m->0<=m/\m+1<=10 ^ (k+l.length)
 | [],n,m,k,h1,h2,h=>by
  simp only[j5,eX]at h
  subst h;exact⟨h1,h2⟩
 | (f,c)::r,n,m,k,h1,h2,h=>by
  rw[j5]at h
  have e:k+((f,c)::r).length=(k+1)+r.length:=by simp;omega
  rw[e]
  have hp:(10:Int) ^ (k+1)=10*10 ^ k:=by rw[Int.pow_succ,Int.mul_comm]
  cases h3:((f.toNat:Int) != 48)
  .rw[h3]at h
   simp only[ap]at h
   cases hd:jn c
   .rw[hd]at h;cases h
   .rw[hd]at h
    simp only[ak]at h
    have ni:48<=(c.toNat:Int)/\(c.toNat:Int)<=57:=by simpa[jn,F.digit]using hd
    refine Ot (k:=k+1) (by omega) ?_ h
    rw[hp];omega
  .rw[h3]at h
   simp only[ak]at h
   cases h4:((c.toNat:Int) != (f.toNat:Int))
   .rw[h4]at h
    simp only[ap]at h
    refine Ot (k:=k+1) h1 ?_ h
    rw[hp];omega
   .rw[h4]at h;cases h
theorem anU {p:ByteArray} {q:UInt8} (h:bs p=[q]):bs (form p)=[48,48,58,48,48,58,48,48,q,48,48,48]:=by
 unfold form bs at *
 simp[h]
theorem anV {p:ByteArray} (h:p.size=1):(form p).size=12:=by
 unfold form
 rw[gE,gE,h]
 rfl
theorem Ou (a b:UInt8):(((a.toNat:Int) != (b.toNat:Int))) = !(a==b):=by
 by_cases h:a=b
 .subst h;simp
 .have h2:(a.toNat:Int)≠(b.toNat:Int):=fun e=>h (UInt8.toNat_inj.1 (by omega))
  rw[bne_iff_ne.2 h2,beq_eq_false_iff_ne.2 h];rfl
theorem xS (s:ByteArray) (a b:Nat):bs (s.extract a b)=((bs s).take b).drop a:=by
 unfold bs
 rw[Lib.extract_data,List.drop_take]
theorem iA (s:ByteArray):s.size=(bs s).length:=(eC s).symm
end F
namespace F
theorem rC {a b:ByteArray} (h:bs a=bs b):a=b:=agK (vE h)
theorem Zv (s p:ByteArray):eV s p=((bs s).take p.size==bs p):=by
 unfold eV Lib.hasPrefix
 rw[Bool.eq_iff_iff,List.isPrefixOf_iff_prefix,List.prefix_iff_eq_take,beq_iff_eq,iA]
 exact eq_comm
end F
namespace F
def itoa (n:Int):ByteArray:=⟨(Lib.itoa n).toArray⟩
theorem HP {n:Int} (h0 : -9223372036854775808<=n) (h1:n<=9223372036854775807):(itoa n).size<=21:=by
 have:=Lib.itoa_length_le n h0 h1
 show(Lib.itoa n).toArray.size<=21
 simpa using this
theorem Ov (k:Nat):bs (itoa (k:Int))=FG k:=by
 show(Lib.itoa (k:Int)).toArray.toList=_
 unfold Lib.itoa
 rw[if_neg (by omega)]
 simp
def tT (k:Nat):ByteArray:=⟨⟨ig k 48⟩⟩
def pad (n:Int) (many:Nat):ByteArray:=tT (many - (itoa n).size)++itoa n
def dg (k:Nat):UInt8:=UInt8.ofNat (48+k)
theorem oO {k:Nat} (h:k<10):((dg k).toNat:Int)=48+(k:Int):=by
 unfold dg
 rw[UInt8.toNat_ofNat']
 omega
theorem oP {k:Nat} (h:k<10):jn (dg k)=true:=by
 unfold jn F.digit
 rw[oO h]
 simp
 omega
theorem lH (a b:ByteArray):bs (a++b)=bs a++bs b:=by
 unfold bs
 simp
theorem Zw (k:Nat):bs (tT k)=ig k 48:=rfl
theorem Zx (k many:Nat):bs (pad (k:Int) many)=ig (many - (FG k).length) 48++FG k:=by
 unfold pad
 rw[lH,Zw,Ov,iA,Ov]
theorem xT {k:Nat} (h:k<100):bs (pad (k:Int) 2)=[dg (k / 10),dg (k % 10)]:=by
 rw[Zx]
 by_cases h1:k<10
 .rw[Lib.decDigits_one h1,FD h1,BV h1]
  rfl
 .rw[U7 h1 h]
  rfl
theorem Zy {k:Nat} (h:k<1000):bs (pad (k:Int) 3)=[dg (k / 100),dg (k / 10 % 10),dg (k % 10)]:=by
 rw[Zx]
 by_cases h1:k<10
 .rw[Lib.decDigits_one h1,FD (show k<100 by omega),FD h1,BV h1]
  rfl
 .by_cases h2:k<100
  .rw[U7 h1 h2,FD h2,BV (show k / 10<10 by omega)]
   rfl
  .have e:FG k=[dg (k / 100),dg (k / 10 % 10),dg (k % 10)]:=by
    rw[FG,dif_neg h1,U7 (show ¬k / 10<10 by omega) (show k / 10<100 by omega),aFI]
    rfl
   rw[e]
   rfl
def Dc:ByteArray:=⟨⟨[58]⟩⟩
def iq (t:Int) (p:ByteArray):ByteArray:=pad (t / 3600000) 2++Dc++pad (t / 60000 % 60) 2++Dc++pad (t / 1000 % 60) 2++p++pad (t % 1000) 3
theorem Ow {k:Nat} (h:k<=359999999) (p:ByteArray):bs (iq (k:Int) p) =
  [dg (k / 3600000 / 10),dg (k / 3600000 % 10),58,dg (k / 60000 % 60 / 10),dg (k / 60000 % 60 % 10),58,dg (k / 1000 % 60 / 10),dg (k / 1000 % 60 % 10)]++bs p++[dg (k % 1000 / 100),dg (k % 1000 / 10 % 10),dg (k % 1000 % 10)]:=by
 unfold iq
 have e1:(k:Int) / 3600000=((k / 3600000:Nat):Int):=by omega
 have e2:(k:Int) / 60000 % 60=((k / 60000 % 60:Nat):Int):=by omega
 have e3:(k:Int) / 1000 % 60=((k / 1000 % 60:Nat):Int):=by omega
 have e4:(k:Int) % 1000=((k % 1000:Nat):Int):=by omega
 rw[e1,e2,e3,e4]
 simp only[lH]
 rw[xT (show k / 3600000<100 by omega),xT (show k / 60000 % 60<100 by omega),xT (show k / 1000 % 60<100 by omega),Zy (show k % 1000<1000 by omega)]
 rw[show bs Dc=[58] from rfl]
 simp
theorem HQ {k:Nat} (h:k<=359999999) (p:ByteArray):(iq (k:Int) p).size=11+p.size:=by
 rw[iA,Ow h,iA]
 simp
 omega
theorem Zz {k : Nat} {s p : ByteArray} {q : UInt8} (hp : bs p = [q]) (hq : q ≠ 48) (h : k <= 359999999) {r : List UInt8} (hs : bs s = bs (iq (k : Int) p) ++ r) : cW s p = ((k : Int), s.extract 12 s.size, true) /\ bs (s.extract 12 s.size) = r := by
  rw [Ow h, hp] at hs
  have hsz : s.size = 12 + r.length := by rw [iA, hs]; simp; omega
  have hq2 : ((q.toNat : Int) != 48) = true := by
    rw [bne_iff_ne]
    intro e
    exact hq (UInt8.toNat_inj.1 (by have : q.toNat = 48 := by omega
                                    rw [this]; rfl))
  have t48 : ((((48 : UInt8).toNat : Nat) : Int) != 48) = false := rfl
  have t58 : ((((58 : UInt8).toNat : Nat) : Int) != 48) = true := rfl
  generalize ha : k / 3600000 / 10 = a at hs
  generalize hb : k / 3600000 % 10 = b at hs
  generalize hc : k / 60000 % 60 / 10 = c at hs
  generalize hd : k / 60000 % 60 % 10 = d at hs
  generalize he : k / 1000 % 60 / 10 = e at hs
  generalize hf : k / 1000 % 60 % 10 = f at hs
  generalize hg : k % 1000 / 100 = g at hs
  generalize hh : k % 1000 / 10 % 10 = j at hs
  generalize hi : k % 1000 % 10 = i at hs
  have la : a < 10 := by omega
  have lb : b < 10 := by omega
  have lc : c < 6 := by omega
  have ld : d < 10 := by omega
  have le : e < 6 := by omega
  have lf : f < 10 := by omega
  have lg : g < 10 := by omega
  have lj : j < 10 := by omega
  have li : i < 10 := by omega
  have hx : rB s p = some (((((((((((10 * 0 + (a : Int)) * 10 + b) * 10 + c) * 10 + d) * 10 + e) * 10 + f) * 10 + g) * 10 + j) * 10 + i))) := by
    unfold rB
    rw [anU hp, hs]
    simp only [k6, eh, List.zip_cons_cons, j5, t48, t58, hq2, ak, ap, Ou, beq_self_eq_true, dC, oP la, oP lb, oP (show c < 10 by omega), oP ld, oP (show e < 10 by omega), oP lf, oP lg, oP lj, oP li,
      oO la, oO lb, oO (show c < 10 by omega), oO ld, oO (show e < 10 by omega), oO lf, oO lg, oO lj, oO li, List.zip_nil_left]
    congr 1
    omega
  refine ⟨?_, ?_⟩
  . unfold cW
    rw [hx, aH (show ¬ s.size < 12 by omega)]
    simp only [F.found, F.fp, Option.isSome_some, k7, dC, Bool.or_self, ap]
    generalize hn : (((((((((((10 * 0 + (a : Int)) * 10 + b) * 10 + c) * 10 + d) * 10 + e) * 10 + f) * 10 + g) * 10 + j) * 10 + i))) = n
    have n0 : n = ((a : Int) * 10 + b) * 10000000 + (c * 10 + d) * 100000 + (e * 10 + f) * 1000 + (g * 100 + j * 10 + i) := by omega
    have n1 : n / 10000000 = (a : Int) * 10 + b := by omega
    have n2 : n / 100000 % 100 = (c : Int) * 10 + d := by omega
    have n3 : n / 1000 % 100 = (e : Int) * 10 + f := by omega
    have n4 : n % 1000 = (g : Int) * 100 + j * 10 + i := by omega
    unfold Oo Oq F.lt
    rw [n1, n2, n3, n4, aj (by omega), aj (by omega)]
    congr 1
    omega
  . rw [xS, B6 (by rw [<- iA]; exact bR _), hs]
    rfl
def ir (c:ay) (p:ByteArray):ByteArray:=iq c.fr p++arrow++iq c.tqq p
theorem anW {a b:Nat} {s p:ByteArray} {q:UInt8} (hp:bs p=[q]) (hq:q≠48) (ha:a<=359999999) (hb:b<=359999999) {r:List UInt8} (hs:bs s=bs (iq (a:Int) p++arrow++iq (b:Int) p)++r) :
  (gi s p).1=a/\(gi s p).2.1=b/\bs (gi s p).2.2.1=r/\(gi s p).2.2.2=true:=by
 rw[lH,lH,cq,cq]at hs
 obtain⟨h1,h2⟩:=Zz hp hq ha hs
 have hc:eV (s.extract 12 s.size) arrow=true:=by
  rw[Zv,h2]
  simp[show arrow.size=(bs arrow).length from rfl]
 have hcut:(cC (s.extract 12 s.size) arrow).2=true/\bs (cC (s.extract 12 s.size) arrow).1=bs (iq (b:Int) p)++r:=by
  unfold cC
  rw[hc,ak]
  refine⟨rfl,?_⟩
  simp only[]
  rw[xS,B6 (by rw[<-iA];exact bR _),h2,show arrow.size=(bs arrow).length from rfl,sQ]
 obtain⟨h3,h4⟩:=Zz hp hq hb hcut.2
 unfold gi
 rw[h1]
 simp only[h3,h4,hcut.1,bT,and_self]
end F
theorem aE9 (n:Nat):decide ((1:Int)<=(n:Int))=decide (1<=n):=by
 by_cases h:1<=n
 .rw[aj h,aj (by omega)]
 .rw[aH h,aH (by omega)]
theorem aEC (n:Nat):decide ((n:Int)<=9)=decide (n<=9):=by
 by_cases h:n<=9
 .rw[aj h,aj (by omega)]
 .rw[aH h,aH (by omega)]
namespace M
theorem anX {n:Int} (h1:0<=n) (h2:n<=255):IntKind.u8.wrap n=n:=by
 simp only[bQ,ii,fA]
 simp
 omega
theorem anY (b:Int):(aB dj false Tryz.f125 [vU b]).val =
 some ((vB (bif decide ((48:Int)<=b) then decide (b<=57) else false)),[]):=(cm).symm.trans (by kernel_rfl)
def HR (b:Int):List AV:=[vU b]
def tU (a:Int):List AV:=HR a
theorem anZ a a' (h:tU a=tU a'):a=a':=by
 simp only[tU,HR]at h
 try simp at h
 grind
section
variable (s:ByteArray) (k:Nat)
theorem Dd (b:Int):ac tU ([(vU b)])=some (b):=ax anZ (b) rfl
def Ox (b:Int):AV×Heap:=(vB (F.digit b),[])
def an0 (b:Int):Bool:=true
def Oy:aW:=aY 125 true tU an0 Ox
theorem ZA:aX Tryz.prog au Oy:=by
 refine cx Tryz.f125 gL ?_
 rintro b hpre hok
 show(aB dj false _ (HR _)).val=some (Ox _)
 unfold HR Ox
 rw[anY]
 unfold F.digit
 cases decide (48<=b)<;>rfl
def xU:St:=⟨[(6,vI k),(5,vI s.size),(0,vS s)],[]⟩
def xV (a:ByteArray×Nat):St:=xU a.1 a.2
theorem an1 a a' (h:xV a=xV a'):a=a':=by
 simp only[xV,xU]at h
 try simp at h
 grind
theorem an2: ac xV (St.mk [(6,(vI (0:Int))),(5,(vI (↑(aJ s):Int))),(0,(vS s))] [])=some (s,0):=ax an1 (s,0) rfl
def ZB:T (Ex×St):= .bM (((F.bs s).drop k).all F.jn) (.ret (.exit 0,⟨[(0,vS s)],[]⟩)) (.ret (.ret,⟨[(2,vB false)],[]⟩))
def Oz:Bool:=decide (s.size<=9223372036854775807)&&decide (k<=s.size)
def an3:Nat×(St->T (Ex×St)):=(2,lpo [6,5,0] [] xV (aT Oz) (aT ZB))
def De:Env:=bq ty au bp [Oy] [] [] [an3]
theorem an4:aZ Tryz.prog De:=bG (aI ZA bF)
theorem ZC:((exec De (aw f122 0) (xU s k)).bind (bE ([6,5,0],[]) ([0],[]) ([2],[]))).val =
 bif decide ((↑k:Int)<(↑(aJ s):Int)) then ai s[k]? fun z=>ai (ac tU [(vU (↑(dF z):Int))]) fun z=>
 bif !F.digit z then some (Ex.ret,St.mk [(2,(vB false))] []) else some (Ex.normal,St.mk [(6,(vI (am.wrap ((↑k:Int)+1)))),(5,(vI
 (↑(aJ s):Int))),(0,(vS s))] []) else some (Ex.exit (0:Nat),St.mk [(0,(vS s))] []):=(cr _ _ _).symm.trans (by kernel_rfl)
theorem an5 (hp:Oz s k=true) : ∀ex s',(ZB s k).val=some (ex,s')->ba De (aw f122 0) (xU s k) ex s':=by
 simp only[Oz,aG,aM]at hp
 refine pu (xs:=F.bs s) (st:=xU s) (p:=F.jn) (n:=([6,5,0],[])) (e:=([0],[])) (r:=([2],[])) ?_ ⟨by simp,rfl⟩ ⟨by simp,rfl⟩ (fun _=>rfl) ?_ k (by rw[F.eC];exact hp.2)
 .rw[ZC];rw[F.eC];simp
 .intro k y hy
  have hk:k<s.size:=by rw[<-F.eC];exact cy hy
  rw[ZC]
  rw[iF,hy]
  simp only[Dd,ar,ak,bA hk,ch hk hp.1,F.jn,xU]
  cases F.digit (y.toNat:Int)<;>rfl
theorem an6:(aB De false f122 [vS s]).val =
 ai (ac xV (St.mk [(6,(vI 0)),(5,(vI (↑(aJ s):Int))),(0,(vS s))] [])) fun z=>bif decide (aJ
 z.1<=9223372036854775807)&&decide (z.2<=aJ z.1)&&true then bif fx (bn z.2 (F.bs z.1)) F.jn then some ((vB (bif decide
 ((1:Int)<=(↑(aJ z.1):Int)) then decide ((↑(aJ z.1):Int)<=9) else false)),[]) else some ((vB false),[]) else none:=(cm).symm.trans (by kernel_rfl)
def HS:List AV:=[vS s]
def xW (a:ByteArray):List AV:=HS a
theorem an7 a a' (h:xW a=xW a'):a=a':=by
 simp only[xW,HS]at h
 try simp at h
 grind
theorem an8:ac xW ([(vS s)])=some (s):=ax an7 (s) rfl
def OA:AV×Heap:=(vB (F.isNum s),[])
def ZD:Bool:=F.small s
end
def ZE:aW:=aY 122 true xW ZD OA
theorem an9:aX Tryz.prog au ZE:=by
 refine cQ f122 an4 (de (x0:=aw f122 0) (by kernel_rfl) (bS ?_)) ?_
 .rintro⟨s,k⟩ hp
  exact an5 s k hp
 rintro s hpre hok
 show(aB De false _ (HS _)).val=some (OA _)
 unfold HS OA
 rw[an6]
 simp only[ZD,F.small,aM]at hpre
 have hs:s.size<=9223372036854775807:=by omega
 simp only[an2,ar,ak,aS,hs,F.isNum,df,cf,decide_true,aE9,aEC]
 cases(F.bs s).all F.jn<;>cases decide (1<=s.size)<;>cases decide (s.size<=9)<;>rfl
end M
end Go.Proofs.YtaobkfpnebbohaaGreatDoor
namespace Go.Proofs.YtaobkfpnebbohaaGreatDoor
open Go Go.RowKit Go.Sort
set_option linter.unusedVariables false
set_option linter.unusedSimpArgs false
namespace F
theorem aoa (k:Nat) (s:ByteArray):tT (k+1)++s=tT k++((⟨⟨[48]⟩⟩:ByteArray)++s):=by
 refine rC ?_
 simp only[lH,Zw]
 rw[List.replicate_succ',cq]
 rfl
theorem aob (s:ByteArray):tT 0++s=s:=by
 refine rC ?_
 rw[lH]
 rfl
end F
namespace M
theorem ZF (w:World) (k:Nat) (os:Array Obj):Below w.heap.size w (grow (w.drewN k) os):=
 ⟨rfl,rfl,rfl,by first | (simp[grow];done) | (simp[grow];omega),fun i hi=>by
  show((w.drewN k).heap++os)[i]? = _
  rw[Array.getElem?_append_left (by show i<w.heap.size;omega)]
  rfl⟩
section
variable (n:Int)
def ZG:List AV:=[vI n]
def rD (a:Int):List AV:=ZG a
theorem aoc a a' (h:rD a=rD a'):a=a':=by
 simp only[rD,ZG]at h
 try simp at h
 grind
theorem Df:ac rD ([(vI n)])=some (n):=ax aoc (n) rfl
def aod:AV×Heap:=(vS (F.itoa n),[])
def ZH:Bool:=decide (-9223372036854775808<=n)&&decide (n<=9223372036854775807)
def HT:aW:=aY 46 true rD ZH aod
theorem OB:aX Tryz.prog au HT:=by
 refine io ⟨f46,by kernel_rfl,by kernel_rfl,by kernel_rfl⟩ (fun n hp _=>?_) (fun _ _=>⟨rfl,rfl⟩)
 simp only[ZH,aG,aM]at hp
 have hz:=F.HP hp.1 hp.2
 refine dy.CV (fun w S=>dO (by show(F.itoa n).size<=9223372036854775807;omega)) fun _ w S hG=>?_
 have hg:=hG 4 ⟨[],fun cs=>cs=(Lib.pow10Tab.map fun z=>bh .u64 z).toArray⟩ rfl
 obtain⟨cs,ty,o,h1,h2⟩:=hg.cells
 have htab : Lib.TabIs Tryz.prog w "internal/strconv.uint64pow10" .u64 Lib.pow10Tab := by
  have hn : Tryz.prog.globalNamed "internal/strconv.uint64pow10" = some 4 := by kernel_rfl
  simp only[Lib.TabIs,World.var?,hn,ar,h1]
  rw[h2]
 refine(Tryz.strconv_Itoa n hp.1 hp.2 w htab).mono ?_
 rintro e w' ⟨he,k,os,rfl⟩
 exact⟨he,ZF w k os⟩
def Dg (many:Nat) (s:ByteArray):St:=⟨[(5,vS s),(1,vI many)],[]⟩
def xX (a:Nat×ByteArray):St:=Dg a.1 a.2
theorem aoe a a' (h:xX a=xX a'):a=a':=by
 simp only[xX,Dg]at h
 try simp at h
 grind
theorem aof (many:Nat) (s:ByteArray):ac xX (St.mk [(5,(vS s)),(1,(vI (↑many:Int)))] [])=some (many,s):=ax aoe (many,s) rfl
def Dh (many:Nat) (s:ByteArray):T (Ex×St):= .ret (.exit 0,⟨[(5,vS (F.tT (many - s.size)++s))],[]⟩)
def OC (many:Nat) (s:ByteArray):Bool:=decide (many<=1000)
def aog:Nat×(St->T (Ex×St)):=(2,lpo [5,1] [] xX (aT OC) (aT Dh))
def Di:Env:=bq ty au bp [HT] [] [] [aog]
theorem aoh:aZ Tryz.prog Di:=bG (aI OB bF)
theorem ZI (many:Nat) (s:ByteArray):((exec Di (aw f147 0) (Dg many s)).bind (bE ([5,1],[]) ([5],[]) ([],[]))).val =
 bif decide ((↑(aJ s):Int)<(↑many:Int)) then bif aP (aJ (az (aA [(48:UInt8)]))+aJ s) 9223372036854775807 then some (Ex.normal,St.mk [(5,(vS (az (aA [(48:UInt8)])++s))),(1,(vI (↑many:Int)))] []) else none else some (Ex.exit (0:Nat),St.mk
 [(5,(vS s))] []):=(cr _ _ _).symm.trans (by kernel_rfl)
theorem aoi (many:Nat) (s:ByteArray) (hp:OC many s=true) : ∀ex s',(Dh many s).val=some (ex,s')->ba Di (aw f147 0) (Dg many s) ex s':=by
 simp only[OC,aM]at hp
 refine cE (st:=fun s:ByteArray=>Dg many s) (out:=fun s=>Dh many s) (I:=fun _=>True) (n:=([5,1],[])) (e:=([5],[])) (r:=([],[])) (fun s=>many - s.size) ?_ s trivial
 intro s _
 by_cases h:s.size<many
 .right
  have e1:((⟨⟨[48]⟩⟩:ByteArray)++s).size=s.size+1:=by rw[gE];show 1+s.size=_;omega
  refine⟨⟨⟨[48]⟩⟩++s,?_,rfl,trivial,by omega,?_⟩
  .rw[ZI]
   simp only[ak,aj (show(s.size:Int)<(many:Int) by omega)]
   rw[cg (show(az (aA [48])).size+s.size<=9223372036854775807 by show 1+s.size<=_;omega)]
   rfl
  .have e2:many - s.size=(many - (s.size+1))+1:=by omega
   simp only[Dh,e1]
   rw[e2,F.aoa]
 .left
  refine⟨(.exit 0,⟨[(5,vS s)],[]⟩),?_,?_,by simp,rfl⟩
  .rw[ZI]
   simp only[ap,aH (show ¬(s.size:Int)<(many:Int) by omega)]
  .simp only[Dh]
   rw[show many - s.size=0 by omega,F.aob]
   rfl
theorem aoj (many:Nat):(aB Di false f147 [vI n,vI many]).val =
 ai (ac rD [(vI n)]) fun z=>bif decide ((-9223372036854775808:Int)<=z)&&decide (z<=9223372036854775807) then ai (ac
 xX (St.mk [(5,(vS (F.itoa z))),(1,(vI (↑many:Int)))] [])) fun z=>bif decide (z.1<=1000)&&true then some ((vS (F.tT (z.1 -
 aJ z.2)++z.2)),[]) else none else none:=(cm).symm.trans (by kernel_rfl)
def HU (many:Nat):List AV:=[vI n,vI many]
def nY (a:Int×Nat):List AV:=HU a.1 a.2
theorem aok a a' (h:nY a=nY a'):a=a':=by
 simp only[nY,HU]at h
 try simp at h
 grind
theorem ZJ (many:Nat):ac nY ([(vI n),(vI (↑many:Int))])=some (n,many):=ax aok (n,many) rfl
def OD (many:Nat):AV×Heap:=(vS (F.pad n many),[])
def ZK (many:Nat):Bool:=decide (-9223372036854775808<=n)&&decide (n<=9223372036854775807)&&decide (many<=1000)
def ZL:aW:=aY 147 true nY (aT ZK) (aT OD)
theorem aol:aX Tryz.prog au ZL:=by
 refine cQ f147 aoh (de (x0:=aw f147 0) (by kernel_rfl) (bS ?_)) ?_
 .rintro⟨many,s⟩ hp
  exact aoi many s hp
 rintro⟨n,many⟩ hpre hok
 show(aB Di false _ (HU _ _)).val=some (OD _ _)
 unfold HU OD
 rw[aoj]
 simp only[ZK,aT,aG]at hpre
 simp only[Df,aof,ar,ak,aS,hpre.1.1,hpre.1.2,hpre.2,F.pad]
 try rfl
theorem aom:ac nY ([vI n,vI 2])=some (n,2):=ZJ n 2
theorem aon:ac nY ([vI n,vI 3])=some (n,3):=ZJ n 3
end
theorem HV {k:Nat} (h:k<1000):(decide (-9223372036854775808<=(k:Int))&&decide ((k:Int)<=9223372036854775807))=true:=by
 rw[aj (show -9223372036854775808<=(k:Int) by omega),aj (show(k:Int)<=9223372036854775807 by omega)];rfl
def OE:Env:=bq ty au bp [ZL] [] [] []
theorem aoo:aZ Tryz.prog OE:=bG (aI aol bF)
section
variable (t:Int) (p:ByteArray)
theorem aop:(aB OE false f115 [vI t,vS p]).val =
 (fun(q:ByteArray)=>(fun(q_1:List AV)=>ai (ac nY ((vI (am.wrap (ix t (3600000:Int))))::q_1)) fun z=>
 (fun(q_2:ByteArray)=>bif decide ((-9223372036854775808:Int)<=z.1)&&decide (z.1<=9223372036854775807)&&decide (z.2<=1000) then bif
 aP (aJ (F.pad z.1 z.2)+aJ q) 9223372036854775807 then ai (ac nY ((vI (vT (bQ am
 (ix t (60000:Int))) (60:Int)))::q_1)) fun z=>bif decide ((-9223372036854775808:Int)<=z.1)&&decide (z.1<=9223372036854775807)
 && decide (z.2<=1000) then bif aP (aJ q_2+aJ (F.pad z.1 z.2)) 9223372036854775807 then bif aP (aJ
 (q_2++F.pad z.1 z.2)+aJ q) 9223372036854775807 then ai (ac nY ((vI (vT (am.wrap (ix t (1000 :
 Int))) (60:Int)))::q_1)) fun z_1=>(fun(q_3:ByteArray)=>bif decide ((-9223372036854775808:Int)<=z_1.1)&&decide (z_1.1 <=
 (9223372036854775807:Int))&&decide (z_1.2<=1000) then bif aP (aJ (q_2++F.pad z.1 z.2++q)+aJ (F.pad z_1.1 z_1.2))
 (9223372036854775807:Nat) then bif aP (aJ q_3+aJ p) 9223372036854775807 then ai (ac nY [(vI (vT t (1000 :
 Int))),(vI 3)]) fun z=>bif decide ((-9223372036854775808:Int)<=z.1)&&decide (z.1<=9223372036854775807)&&decide (z.2<=1000) then bif aP (aJ (q_3++p)+aJ (F.pad z.1 z.2)) 9223372036854775807 then some ((vS (q_3++p++F.pad z.1 z.2)),[])
 else none else none else none else none else none) (q_2++F.pad z.1 z.2++q++F.pad z_1.1 z_1.2) else none else none else none else none else none) (F.pad z.1
 z.2++q)) [(vI 2)]) (az (aA [(58:UInt8)])):=(cm).symm.trans (by kernel_rfl)
def HW:List AV:=[vI t,vS p]
def tV (a:Int×ByteArray):List AV:=HW a.1 a.2
theorem aoq a a' (h:tV a=tV a'):a=a':=by
 simp only[tV,HW]at h
 try simp at h
 grind
theorem aor:ac tV ([(vI t),(vS p)])=some (t,p):=ax aoq (t,p) rfl
def OF:AV×Heap:=(vS (F.iq t p),[])
def ZM:Bool:=decide (0<=t)&&decide (t<=359999999)&&decide (p.size=1)
end
def ZN:aW:=aY 115 true tV (aT ZM) (aT OF)
theorem aos:aX Tryz.prog au ZN:=by
 refine cx f115 aoo ?_
 rintro⟨t,p⟩ hpre hok
 show(aB OE false _ (HW _ _)).val=some (OF _ _)
 unfold HW OF
 rw[aop]
 simp only[ZM,aT,aG,aM]at hpre
 obtain⟨⟨h0,h1⟩,h2⟩:=hpre
 obtain⟨k,rfl⟩:=nG h0
 have w1:am.wrap ((k:Int).tdiv 3600000)=((k / 3600000:Nat):Int):=by rw[tw (by omega),cA (by omega) (by omega)];omega
 have w2:(am.wrap ((k:Int).tdiv 60000)).tmod 60=((k / 60000 % 60:Nat):Int):=by rw[tw (by omega),cA (by omega) (by omega),FI (by omega)];omega
 have w3:(am.wrap ((k:Int).tdiv 1000)).tmod 60=((k / 1000 % 60:Nat):Int):=by rw[tw (by omega),cA (by omega) (by omega),FI (by omega)];omega
 have w4:(k:Int).tmod 1000=((k % 1000:Nat):Int):=by rw[FI (by omega)];omega
 have s1:(F.pad ((k / 3600000:Nat):Int) 2).size=2:=by rw[F.iA,F.xT (show k / 3600000<100 by omega)];rfl
 have s2:(F.pad ((k / 60000 % 60:Nat):Int) 2).size=2:=by rw[F.iA,F.xT (show k / 60000 % 60<100 by omega)];rfl
 have s3:(F.pad ((k / 1000 % 60:Nat):Int) 2).size=2:=by rw[F.iA,F.xT (show k / 1000 % 60<100 by omega)];rfl
 have s4:(F.pad ((k % 1000:Nat):Int) 3).size=3:=by rw[F.iA,F.Zy (show k % 1000<1000 by omega)];rfl
 have sc:(az (aA [58])).size=1:=rfl
 have e:F.iq (k:Int) p=F.pad ((k / 3600000:Nat):Int) 2++F.Dc++F.pad ((k / 60000 % 60:Nat):Int) 2++F.Dc++F.pad ((k / 1000 % 60:Nat):Int) 2++p++F.pad ((k % 1000:Nat):Int) 3:=rfl
 have d2:decide ((2:Nat)<=1000)=true:=rfl
 have d3:decide ((3:Nat)<=1000)=true:=rfl
 simp only[ar,ak,aS,w1,w2,w3,w4,aom,aon,HV (show k / 3600000<1000 by omega),HV (show k / 60000 % 60<1000 by omega),HV (show k / 1000 % 60<1000 by omega),HV (show k % 1000<1000 by omega),d2,d3,gE,s1,s2,s3,s4,sc,h2]
 rw[e]
 rfl
def OG:Env:=bq ty au bp [ZN] [] [] []
theorem aot:aZ Tryz.prog OG:=bG (aI aos bF)
section
variable (c:ay) (p:ByteArray)
theorem aou:(aB OG false f69 [.agg (aq c),vS p]).val =
 ai (ac tV [(vI c.fr),(vS p)]) fun z=>bif decide ((0:Int)<=z.1)&&decide (z.1<=359999999)&&decide (aJ
 z.2=(1:Nat)) then bif aP (aJ (F.iq z.1 z.2)+aJ (az (aA [(32:UInt8),(45:UInt8),(45:UInt8),(62:UInt8),
 (32:UInt8)]))) 9223372036854775807 then ai (ac tV [(vI c.tqq),(vS p)]) fun z_1=>bif decide ((0:Int)<=z_1.1)&&decide
 (z_1.1<=359999999)&&decide (aJ z_1.2=(1:Nat)) then bif aP (aJ (F.iq z.1 z.2++az (aA [(32:UInt8),
 (45:UInt8),(45:UInt8),(62:UInt8),(32:UInt8)]))+aJ (F.iq z_1.1 z_1.2)) 9223372036854775807 then some ((vS (F.iq z.1 z.2 ++
 az (aA [(32:UInt8),(45:UInt8),(45:UInt8),(62:UInt8),(32:UInt8)])++F.iq z_1.1 z_1.2)),[]) else none else none else none else none:=(cm).symm.trans (by kernel_rfl)
def HX:List AV:=[.agg (aq c),vS p]
def xY (a:ay×ByteArray):List AV:=HX a.1 a.2
theorem aov a a' (h:xY a=xY a'):a=a':=by
 simp only[xY,HX]at h
 try simp[MO]at h
 grind
theorem ZO (c_fr:Int) (c_to:Int) (c_lines:List ByteArray) (c_row:Int) (c_bef:Bool) (c_aft:Bool) (p:ByteArray):ac xY ([AV.agg [(vI c_fr),(vI c_to),AV.sl (ab aC c_lines),(vI c_row),(vB c_bef),(vB c_aft)],(vS p)])=some ((ay.mk c_fr c_to c_lines c_row c_bef c_aft),p):=ax aov ((ay.mk c_fr c_to c_lines c_row c_bef c_aft),p) rfl
def OH:AV×Heap:=(vS (F.ir c p),[])
def ZP:Bool:=decide (0<=c.fr)&&decide (c.fr<=359999999)&&decide (0<=c.tqq)&&decide (c.tqq<=359999999)&&decide (p.size=1)
end
def ZQ:aW:=aY 69 true xY (aT ZP) (aT OH)
theorem aow:aX Tryz.prog au ZQ:=by
 refine cx f69 aot ?_
 rintro⟨c,p⟩ hpre hok
 show(aB OG false _ (HX _ _)).val=some (OH _ _)
 unfold HX OH
 rw[aou]
 simp only[ZP,aT,aG,aM]at hpre
 obtain⟨⟨⟨⟨h0,h1⟩,h2⟩,h3⟩,h4⟩:=hpre
 have s1:(F.iq c.fr p).size=12:=by
  obtain⟨k,hk⟩:=nG h0
  rw[hk,F.HQ (by omega),h4]
 have s2:(F.iq c.tqq p).size=12:=by
  obtain⟨k,hk⟩:=nG h2
  rw[hk,F.HQ (by omega),h4]
 have sa:(az (aA [32,45,45,62,32])).size=5:=rfl
 simp only[aor,ar,ak,aS,aj h0,aj h1,aj h2,aj h3,aj h4,gE,s1,s2,sa]
 rfl
end M
end Go.Proofs.YtaobkfpnebbohaaGreatDoor
namespace Go.Proofs.YtaobkfpnebbohaaGreatDoor
open Go Go.RowKit Go.Sort
set_option linter.unusedVariables false
set_option linter.unusedSimpArgs false
def kq (xs:List Int):List Int:=xs.mergeSort fun x y=>decide (x<=y)
theorem UC (xs:List Int):(kq xs).length=xs.length:=(agL ..).length_eq
def g9 (xs:List Int):List Int:=vO xs
theorem af9 (xs:List Int):(g9 xs).length<=xs.length:=by
 unfold g9 vO U8
 rw[aN]
 refine iW (List.length_filter_le ..) ?_
 simp
namespace M
theorem OI (xs:List Int) (i:Nat) (y:Int) (h:xs[i]? = some y):(xs.toArray)[i]! = y:=by
 have hi:=cy h
 rw[getElem!_pos _ i (by simpa using hi)]
 have:=bC hi
 rw[h]at this
 simpa using(jC this).symm
theorem ZR {G:Nat->Option GR} {B:Nat->Prop} {w:World} {S:Nat->Prop} {β:Nat->Option BI} {t:TypeId} {xs ys:List Int} {X:BI} (inv:mO G B w S β [(900,⟨false,t,1,xs.map eI⟩)]) (hX:β 900=some X) (hr:X.real=true)
  (hl:ys.length=xs.length) (hok : ∀y∈ys,dh (.int .i64 y)) (n:Nat) (os:Array Obj) :
  dW B w (grow (putRow (bh .i64) (Lc w n) X.b 0 ys.toArray) os)/\mO G B (grow (putRow (bh .i64) (Lc w n) X.b 0 ys.toArray) os) S β [(900,⟨false,t,1,ys.map eI⟩)]:=by
 obtain⟨bl,hb,h3,h4⟩:=inv.di 900 X hX
 have hb0:some (⟨false,t,1,xs.map eI⟩:ah)=some bl:=hb
 cases hb0
 obtain⟨cs,ty,c1,c2,c3,c4,c5,c6,c7,c8⟩:=h3 hr
 have hS1:X.size=1:=(c6 rfl).2
 have c3:xs.length=X.len:=by rw[<-c3];simp
 obtain⟨n1,n2,n3⟩:=inv.new 900 X hX hr
 have hg:=grownBy_sortedI (w:=w) (g:=X.b) (n:=n) (os:=os) ys.toArray
 have hH:=heap_sortedI (w:=w) (n:=n) (os:=os) ys.toArray c1
 generalize hw':grow (putRow (bh .i64) (Lc w n) X.b 0 ys.toArray) os=w' at hg hH
 obtain⟨g1,g2,g3,g4,g5⟩:=hg
 have hold : ∀b,b<w.heap.size->b≠X.b->w'.heap[b]? = w.heap[b]?:=fun b hb hne=>g5 b hb (fun e=>hne (jC e))
 have hSo : ∀b,S b->w'.heap[b]? = w.heap[b]?:=fun b hb=>hold b (inv.lt b hb) (fun e=>n3 (e▸hb))
 refine⟨⟨g1,g2,g3,g4,fun b hb=>hold b (inv.base b hb) (fun e=>n1 (e▸hb))⟩,?_⟩
 refine⟨fun b hb=>l5 (inv.base b hb) g4,fun b hb=>l5 (inv.lt b hb) g4,inv.inj,fun k x hk hxr=>?_,fun k x hk=>?_,fun k bl hk=>?_,fun g r hgr=>(inv.dH g r hgr).mono hSo fun _ h=>h⟩
 .obtain⟨m1,m2,m3⟩:=inv.new k x hk hxr
  exact⟨m1,l5 m2 g4,m3⟩
 .obtain⟨bl0,hb0,_,_⟩:=inv.di k x hk
  have hk9:k=900:=by
   unfold an at hb0
   split at hb0
   .rename_i hkk;exact beq_true.1 hkk
   .cases hb0
  subst hk9
  rw[hX]at hk
  cases hk
  refine⟨⟨false,t,1,ys.map eI⟩,rfl,fun _=>⟨putCells (bh .i64) 0 ys.toArray cs,ty,hH,by simp[putCells,c2],by simp[hl,c3],c4,c5,c6,(fun h=>by cases h),fun i row hi=>?_⟩,fun h=>by rw[hr]at h;cases h⟩
  simp only[dM,eZ]at hi
  obtain⟨y,hy,rfl⟩:=hi
  refine⟨by rw[hS1];rfl,fun j a hj=>?_⟩
  have hj0:j=0:=by
   have:=(cO.1 hj).1
   simp[eI]at this;omega
  subst hj0
  have ha:a=vI y:=by simpa[eI]using hj.symm
  subst ha
  refine⟨.int .i64 y,?_, .v (hok y (cL hy))⟩
  have hil:=cy hy
  rw[hS1,Nat.mul_one,jP]
  have hcs:i<cs.size:=by rw[c2,hS1];omega
  simp only[putCells,Array.getElem?_mapIdx,Array.getElem?_eq_getElem hcs,lZ,cf,true_and,gD,Nat.sub_zero]
  rw[if_pos (by simpa using hil),OI ys i y hy]
 .have hk9:k=900:=by
   unfold an at hk
   split at hk
   .rename_i hkk;exact beq_true.1 hkk
   .cases hk
  subst hk9
  exact⟨X,hX⟩
theorem ZS {w:World} {S:Nat->Prop} {β:Nat->Option BI} {k:Nat} {v:Value} (h:RV w S β (.own k) v) : ∃x,β k=some x/\(x.real=true->v = .slice (some ⟨x.b,0,none⟩) x.len x.cap)/\(x.real=false -> ∃A,v = .slice A 0 0):=h
theorem ZT {G:Nat->Option GR} {B:Nat->Prop} {w:World} {S:Nat->Prop} {β:Nat->Option BI} {t:TypeId} {xs:List Int} {X:BI} (inv:mO G B w S β [(900,⟨false,t,1,xs.map eI⟩)]) (hX:β 900=some X) (hr:X.real=true) :
  Holds (bh .i64) w X.b 0 xs.toArray/\X.b<w.heap.size/\X.len=xs.length/\X.len<=X.cap/\X.cap<=9223372036854775807/\X.size=1:=by
 obtain⟨bl,hb,h3,h4⟩:=inv.di 900 X hX
 have hb0:some (⟨false,t,1,xs.map eI⟩:ah)=some bl:=hb
 cases hb0
 obtain⟨cs,ty,c1,c2,c3,c4,c5,c6,c7,c8⟩:=h3 hr
 have hS1:X.size=1:=(c6 rfl).2
 have c3:X.len=xs.length:=by rw[<-c3];simp
 refine⟨fun j hj=>?_,(inv.new 900 X hX hr).2.1,c3,c4,c5,hS1⟩
 have hj:j<xs.length:=by simpa using hj
 have hx:xs[j]? = some xs[j]:=bC hj
 obtain⟨_,c9⟩:=c8 j (eI xs[j]) (by simp[hx])
 obtain⟨v,hv,hrv⟩:=c9 0 (vI xs[j]) rfl
 rw[hS1,Nat.mul_one,jP]at hv
 have hv2:v = .int .i64 xs[j]:=by
  have:R0 w S (vI xs[j]) v:=hrv
  cases this;rfl
 subst hv2
 rw[OI xs j _ hx,gD]
 refine⟨by simp[lW,c1,hv],by simp[World.frozen?,c1]⟩
theorem ZU {G:Nat->Option GR} {B:Nat->Prop} {w:World} {S:Nat->Prop} {β:Nat->Option BI} {t:TypeId} {xs:List Int} {X:BI} (inv:mO G B w S β [(900,⟨false,t,1,xs.map eI⟩)]) (hX:β 900=some X) (hr:X.real=false):xs=[]:=by
 obtain⟨bl,hb,h3,h4⟩:=inv.di 900 X hX
 have hb0:some (⟨false,t,1,xs.map eI⟩:ah)=some bl:=hb
 cases hb0
 simpa using(h4 hr).1
theorem ZV {t:TypeId} {xs:List Int} (h : ∀k bl,an ([(900,⟨false,t,1,xs.map eI⟩)]:Heap) k=some bl->re bl) : ∀y∈xs,dh (.int .i64 y):=by
 intro y hy
 obtain⟨_,h2⟩:=h 900 _ rfl
 exact GI (h2 (eI y) (eQ.2 ⟨y,hy,rfl⟩) (vI y) (i7.2 rfl))
section
variable (xs:List Int)
def ZW:List AV×Heap:=([.own 900],[(900,⟨false,3,1,xs.map eI⟩)])
def xZ (a:(List Int)):List AV×Heap:=ZW a
theorem aox a a' (h:xZ a=xZ a'):a=a':=by
 simp only[xZ,ZW]at h
 try simp[cY]at h
 grind
theorem aoy:ac xZ (([.own 900],[(900,ah.mk false 3 1 (ab eI xs))]))=some (xs):=ax aox (xs) rfl
def OJ:AV×Heap×List Nat:=(.aF [],[(900,⟨false,3,1,(kq xs).map eI⟩)],[])
def aoz:Bool:=decide (xs.length<=100000)
def ZX:fT:=jI 130 xZ (fun a=>aoz a) fun a=>OJ a
theorem aoA:fX Tryz.prog au ZX:=by
 refine GL ⟨f130,by kernel_rfl,by kernel_rfl,by kernel_rfl⟩ (fun xs hp _ hk=>?_)
 have hp:xs.length<=100000:=of_decide_eq_true hp
 have hk:=ZV hk
 have hk2 : ∀y∈kq xs,dh (.int .i64 y):=fun y hy=>hk y ((agL ..).subset hy)
 intro w S β cargs inv hargs
 match cargs,hargs with
 | [u],⟨h1,_⟩=>
  obtain⟨X,hX,hr1,hr2⟩:=ZS h1
  cases hr:X.real
  .obtain⟨A,rfl⟩:=hr2 hr
   have:=ZU inv hX hr
   subst this
   refine(Tryz.slices_Sort_int_none A 0 w).mono ?_
   rintro e w' ⟨rfl,rfl⟩
   have e0:kq []=[]:=by simp[kq]
   have e1:(OJ []).2.1=[(900,⟨false,3,1,([]:List Int).map eI⟩)]:=by unfold OJ;rw[e0]
   exact⟨_,S,β,rfl,dW.refl _ _,fun _ h=>h,fun _ h=> .inl h,by rw[e1];exact inv,fun _ _ _ _ h=>h,[],rfl,trivial⟩
  .obtain⟨g1,g2,g3,g4,g5,g6⟩:=ZT inv hX hr
   rw[hr1 hr,g3]
   refine(Tryz.slices_Sort_int X.b 0 X.cap xs w g1 g2 (by omega)).mono ?_
   rintro e w' ⟨rfl,n,os,rfl⟩
   obtain⟨k1,k2⟩:=ZR (ys:=kq xs) inv hX hr (UC xs) hk2 n os
   exact⟨_,S,β,rfl,k1,fun _ h=>h,fun _ h=> .inl h,k2,fun _ _ _ _ h=>h,[],rfl,trivial⟩
def ZY:List AV×Heap:=([.own 900],[(900,⟨false,3,1,xs.map eI⟩)])
def x6 (a:(List Int)):List AV×Heap:=ZY a
theorem aoB a a' (h:x6 a=x6 a'):a=a':=by
 simp only[x6,ZY]at h
 try simp[cY]at h
 grind
theorem aoC:ac x6 (([.own 900],[(900,ah.mk false 3 1 (ab eI xs))]))=some (xs):=ax aoB (xs) rfl
def aoD:AV×Heap×List Nat:=(.win 900 0 (g9 xs).length,[(900,⟨false,3,1,(g9 xs++ig (xs.length - (g9 xs).length) 0).map eI⟩)],[])
def aoE:Bool:=decide (xs.length<=100000)
end
def ZZ:fT:=jI 131 x6 (fun a=>aoE a) fun a=>aoD a
theorem Z0 {xs:List Int} {y:Int} (h:y∈g9 xs):y∈xs:=by
 unfold g9 vO U8 at h
 obtain⟨i,hi,rfl⟩:=eQ.1 h
 have hi:=List.mem_range.1 (nD.1 hi).1
 rw[getElem!_pos _ i (by simpa using hi)]
 simp
theorem aoF:fX Tryz.prog au ZZ:=by
 refine GL ⟨f131,by kernel_rfl,by kernel_rfl,by kernel_rfl⟩ (fun xs hp _ hk=>?_)
 have hp:xs.length<=100000:=of_decide_eq_true hp
 have hk:=ZV hk
 have hl:=af9 xs
 have hk2 : ∀y∈g9 xs++ig (xs.length - (g9 xs).length) 0,dh (.int .i64 y):=fun y hy=>by
  rcases dn.1 hy with hy | hy
  .exact hk y (Z0 hy)
  .rw[(List.mem_replicate.1 hy).2];exact⟨by decide,by decide⟩
 intro w S β cargs inv hargs
 match cargs,hargs with
 | [u],⟨h1,_⟩=>
  obtain⟨X,hX,hr1,hr2⟩:=ZS h1
  cases hr:X.real
  .obtain⟨A,rfl⟩:=hr2 hr
   have:=ZU inv hX hr
   subst this
   refine(Tryz.slices_Compact_int_empty A 0 w).mono ?_
   rintro e w' ⟨rfl,rfl⟩
   exact⟨_,S,β,rfl,dW.refl _ _,fun _ h=>h,fun _ h=> .inl h,inv,fun _ _ _ _ h=>h,X,hX,A,0,rfl,bR _,by omega,fun h=>absurd rfl h⟩
  .obtain⟨g1,g2,g3,g4,g5,g6⟩:=ZT inv hX hr
   rw[hr1 hr,g3]
   refine(Tryz.slices_Compact_int X.b 0 X.cap xs w g1 (by omega) (by omega)).mono ?_
   rintro e w' ⟨rfl,n,rfl⟩
   obtain⟨k1,k2⟩:=ZR (ys:=g9 xs++ig (xs.length - (g9 xs).length) 0) inv hX hr (by rw[ck,List.length_replicate];omega) hk2 n #[]
   rw[grow_empty]at k1 k2
   refine⟨_,S,β,rfl,k1,fun _ h=>h,fun _ h=> .inl h,k2,fun _ _ _ _ h=>h,X,hX,_,_,rfl,?_,g5,fun _=>⟨hr,?_,?_⟩⟩
   .show(g9 xs).length<=X.cap;omega
   .rw[qC]
   .show 0+(g9 xs).length<=X.len;omega
end M
end Go.Proofs.YtaobkfpnebbohaaGreatDoor
namespace Go.Proofs.YtaobkfpnebbohaaGreatDoor
open Go Go.RowKit
set_option linter.unusedVariables false
set_option linter.unusedSimpArgs false
set_option maxHeartbeats 1000000
def bV (n:Int):Bool:=F.out n (-1000000000000000) 1000000000000000
def BQ (s:bI):Bool:=bV s.time||(F.out s.step 0 1000000000||(F.out s.shift (-1000000000) 1000000000||F.out s.size 0 100000))
def Kw (l:List bI) (k:Nat):Int:=am.wrap ((l.getD (k - 1) ⟨0,0,0,0,false⟩).time+(l.getD (k - 1) ⟨0,0,0,0,false⟩).step)
def ql (l:List bI) (p:bI×Nat):Int:=bif BQ p.1 then 1 else bif decide (0<p.2)&&(p.1.time != Kw l p.2) then 8 else 0
def Fi (l:List bI):Int:=M.bN (ql l) l.zipIdx
def cJ (l:List bI):Int:=bif F.lt 5000 l.length then 2 else bif Fi l != 0 then Fi l else bif decide (0<l.length)&&bV (Kw l l.length) then 1 else 0
def oc (s:bI):Int:=am.wrap (s.time+s.shift)
def bZ (l:List bI):List Int:=l.map oc
theorem sA {α:Type} {l:List α} {k:Nat} {y:α×Nat} (h:l.zipIdx[k]? = some y):l[k]? = some y.1/\y.2=k:=by
 rw[List.getElem?_zipIdx]at h
 cases hl:l[k]? with
 | none=>rw[hl]at h;cases h
 | some x=>
  rw[hl]at h
  simp only[lZ,eX]at h
  subst h
  simp
theorem sy {l:List bI} (h:cJ l=0):l.length<=5000:=by
 unfold cJ F.lt at h
 by_cases h1:(5000:Int)<l.length
 .rw[aj h1]at h;simp at h
 .omega
theorem oZ {α:Type} {g:α->Int} : ∀ {l:List α},M.bN g l=0 -> ∀y∈l,g y=0
 | [],_,y,hy=>by cases hy
 | x::l,h,y,hy=>by
  simp only[M.bN]at h
  by_cases h0:g x=0
  .rw[if_pos h0]at h
   rcases cK.1 hy with rfl | hy
   .exact h0
   .exact oZ h y hy
  .rw[if_neg h0]at h;exact absurd h h0
theorem agp {l:List bI} (h:cJ l=0) {s:bI} (hs:s∈l):BQ s=false:=by
 unfold cJ at h
 cases h1:F.lt 5000 l.length with
 | true=>rw[h1]at h;simp at h
 | false=>
  rw[h1]at h
  by_cases h2:Fi l=0
  .obtain⟨k,hk,rfl⟩:=pi.1 hs
   have hm:(l[k],k)∈l.zipIdx:=List.mem_zipIdx_iff_getElem?.2 (bC hk)
   have:=oZ h2 _ hm
   unfold ql at this
   cases hb:BQ l[k]with
   | true=>rw[hb]at this;simp at this
   | false=>rfl
  .have:(Fi l != 0)=true:=by simp[h2]
   rw[this]at h
   exact absurd h h2
theorem afL {s:bI} (h:BQ s=false):(-1000000000000000<=s.time/\s.time<=1000000000000000)/\(0<=s.step/\s.step<=1000000000)/\(-1000000000<=s.shift/\s.shift<=1000000000)/\(0<=s.size/\s.size<=100000)/\oc s=s.time+s.shift:=by
 unfold BQ bV F.out at h
 simp only[Bool.or_eq_false_iff,decide_eq_false_iff_not]at h
 refine⟨by omega,by omega,by omega,by omega,?_⟩
 unfold oc
 exact M.cA (by omega) (by omega)
namespace M
def OK:Env:=bq ty au bp [jJ] [] [] []
theorem aoG:aZ Tryz.prog OK:=bG (aI jZ bF)
theorem aoH (n:Int):(aB OK false f30 [vI n]).val =
 ai (ac eT [(vI n),(vI (-1000000000000000:Int)),(vI 1000000000000000)]) fun z=>some ((vB (F.out z.1 z.2.1
 z.2.2)),[]):=(cm).symm.trans (by kernel_rfl)
def HY (n:Int):List AV:=[vI n]
def iB (a:Int):List AV:=HY a
theorem aoI a a' (h:iB a=iB a'):a=a':=by
 simp only[iB,HY]at h
 try simp at h
 grind
theorem lI (n:Int):ac iB ([(vI n)])=some (n):=ax aoI (n) rfl
section
variable (l:List bI) (k:Nat)
def OL (n:Int):AV×Heap:=(vB (bV n),[])
def aoJ (n:Int):Bool:=true
def rE:aW:=aY 30 true iB aoJ OL
theorem tW:aX Tryz.prog au rE:=by
 refine cx f30 aoG ?_
 rintro n hpre hok
 show(aB OK false _ (HY _)).val=some (OL _)
 unfold HY OL
 rw[aoH]
 simp only[jk,ar,bV]
 done
theorem tX {k:Nat} (h:0<k) (hk:k<=9223372036854775807):idx (am.wrap ((k:Int) - 1))=some (k - 1):=by
 rw[cA (by omega) (by omega),show(k:Int) - 1=((k - 1:Nat):Int) by omega]
 rfl
def tY:St:=⟨[(11,vI k),(10,vI l.length),(9, .sl (l.map aQ)),(0, .sl (l.map aQ))],[]⟩
def x7 (a:(List bI)×Nat):St:=tY a.1 a.2
theorem aoK a a' (h:x7 a=x7 a'):a=a':=by
 simp only[x7,tY]at h
 try simp[jX]at h
 grind
theorem aoL: ac x7 (St.mk [(11,(vI (0:Int))),(10,(vI (↑(ae l):Int))),(9,AV.sl (ab aQ l)),(0,AV.sl (ab aQ l))] [])=some (l,0):=ax aoK (l,0) rfl
def Z1:T (Ex×St):= .bM (decide (M.bN (ql l) (l.zipIdx.drop k)=0)) (.ret (.exit 0,⟨[(0, .sl (l.map aQ))],[]⟩)) (.ret (.ret,⟨[(2,vI (M.bN (ql l) (l.zipIdx.drop k)))],[]⟩))
def OM:Bool:=decide (l.length<=5000)&&decide (k<=l.length)
def aoM:Nat×(St->T (Ex×St)):=(4,lpo [11,10,9,0] [] x7 (aT OM) (aT Z1))
def Dj:Env:=bq ty au bp [rE,jJ] [] [] [aoM]
theorem aoN:aZ Tryz.prog Dj:=bG (aI tW (aI jZ bF))
theorem Z2:((exec Dj (aw f82 0) (tY l k)).bind (bE ([11,10,9,0],[]) ([0],[]) ([2],[]))).val =
 (fun(q:bI)=>(fun(q_1:Option (Ex×St))=>(fun(q_2:Option (Ex×St))=>bif decide ((↑k:Int)<(↑(ae l):Int)) then ai (ac (ab
 aQ) (ab aQ l)) fun z=>bif decide (k<ae z) then ai (ac iB [(vI (al z k q).time)]) fun z_1=>bif !bV
 z_1 then ai (ac eT [(vI (al z k q).step),(vI 0),(vI 1000000000)]) fun z_2=>bif !F.out z_2.1 z_2.2.1
 z_2.2.2 then ai (ac eT [(vI (al z k q).shift),(vI (-1000000000:Int)),(vI 1000000000)]) fun z_3=>bif !F.out
 z_3.1 z_3.2.1 z_3.2.2 then ai (ac eT [(vI (al z k q).size),(vI 0),(vI 100000)]) fun z_4=>bif F.out
 z_4.1 z_4.2.1 z_4.2.2 then q_1 else bif decide ((0:Int)<(↑k:Int)) then ai (idx (am.wrap ((↑k:Int) - (1:Int)))) fun(z_5 :
 Nat)=>ai (ac (ab aQ) (ab aQ l)) fun z_6=>bif decide (z_5<ae z_6) then ai (idx (bQ am
 ((↑k:Int) - (1:Int)))) fun z_7=>ai (ac (ab aQ) (ab aQ l)) fun z_8=>bif decide (z_7<ae z_8) then bif
 (al z k q).time != am.wrap ((al z_6 z_5 q).time+(al z_8 z_7 q).step) then some (Ex.ret,St.mk [(2,(vI 8))] []) else q_2
 else none else none else q_2 else q_1 else q_1 else q_1 else none else some (Ex.exit (0:Nat),St.mk [(0,AV.sl (ab aQ l))] [])) (some (Ex.normal,St.mk [(11,(vI
 (am.wrap ((↑k:Int)+1)))),(10,(vI (↑(ae l):Int))),(9,AV.sl (ab aQ l)),(0,AV.sl (ab aQ l))] []))) (some
 (Ex.ret,St.mk [(2,(vI 1))] []))) (bI.mk (0:Int) (0:Int) (0:Int) (0:Int) false):=(cr _ _ _).symm.trans (by kernel_rfl)
theorem aoO (hp:OM l k=true) : ∀ex s',(Z1 l k).val=some (ex,s')->ba Dj (aw f82 0) (tY l k) ex s':=by
 simp only[OM,aG,aM]at hp
 refine mW (xs:=l.zipIdx) (st:=tY l) (g:=ql l) (o:=fun c=>(.ret,⟨[(2,vI c)],[]⟩)) (n:=([11,10,9,0],[])) (e:=([0],[])) (r:=([2],[])) ?_ ⟨by simp,rfl⟩ (fun _=>⟨by simp,rfl⟩) (fun _=>rfl) ?_ k (by simp;exact hp.2)
 .rw[Z2];simp
 .intro k y hy
  obtain⟨ha,hk⟩:=sA hy
  have hlt:=cy ha
  have h1:=hp.1
  have hd:decide (k - 1<l.length)=true:=aj (by omega)
  unfold ql BQ Kw
  rw[hk]
  rw[Z2]
  by_cases h0:0<k
  .have hi:=tX h0 (by omega:k<=9223372036854775807)
   simp only[lI,jk,ar,mf,ak,fM,bA hlt,aj hlt,ch hlt (by omega:l.length<=9223372036854775807),getD_at ha,tY,hi,hd,aj h0,aj (show(0:Int)<(k:Int) by omega)]
   generalize bV y.1.time=a1
   generalize F.out y.1.step 0 1000000000=a2
   generalize F.out y.1.shift (-1000000000) 1000000000=a3
   generalize F.out y.1.size 0 100000=a4
   generalize (y.1.time != am.wrap ((l.getD (k - 1) ⟨0,0,0,0,false⟩).time+(l.getD (k - 1) ⟨0,0,0,0,false⟩).step))=a5
   cases a1<;>cases a2<;>cases a3<;>cases a4<;>cases a5<;>rfl
  .simp only[lI,jk,ar,mf,ak,ap,bA hlt,aj hlt,ch hlt (by omega:l.length<=9223372036854775807),getD_at ha,tY,aH h0,aH (show ¬(0:Int)<(k:Int) by omega)]
   generalize bV y.1.time=a1
   generalize F.out y.1.step 0 1000000000=a2
   generalize F.out y.1.shift (-1000000000) 1000000000=a3
   generalize F.out y.1.size 0 100000=a4
   cases a1<;>cases a2<;>cases a3<;>cases a4<;>rfl
theorem aoP:(aB Dj false f82 [.sl (l.map aQ)]).val =
 bif decide ((5000:Int)<(↑(ae (ab aQ l)):Int)) then some ((vI 2),[]) else ai (ac x7 (St.mk [(11,(vI 0)),(10,(vI
 (↑(ae (ab aQ l)):Int))),(9,AV.sl (ab aQ l)),(0,AV.sl (ab aQ l))] [])) fun z=>bif decide (ae z.1 <=
 (5000:Nat))&&decide (z.2<=ae z.1)&&true then bif decide (bN (ql z.1) (bn z.2 (lh z.1))=(0:Int)) then bif decide ((0 :
 Int)<(↑(ae (ab aQ z.1)):Int)) then ai (idx (am.wrap ((↑(ae (ab aQ z.1)):Int) - (1:Int)))) fun(z_1
 : Nat)=>ai (ac (ab aQ) (ab aQ z.1)) fun z_2=>bif decide (z_1<ae z_2) then ai (idx (bQ
 am ((↑(ae (ab aQ z.1)):Int) - (1:Int)))) fun z_3=>ai (ac (ab aQ) (ab aQ z.1)) fun z=>
 bif decide (z_3<ae z) then ai (ac iB [(vI (am.wrap ((al z_2 z_1 (bI.mk (0:Int) (0:Int) (0:Int) (0:Int)
 false)).time+(al z z_3 (bI.mk (0:Int) (0:Int) (0:Int) (0:Int) false)).step)))]) fun z=>bif bV z then some ((vI 1),[]) else some
 ((vI 0),[]) else none else none else some ((vI 0),[]) else some ((vI (bN (ql z.1) (bn z.2 (lh z.1)))),[]) else none:=(cm).symm.trans (by kernel_rfl)
def HZ:List AV:=[.sl (l.map aQ)]
def pH (a:(List bI)):List AV:=HZ a
theorem aoQ a a' (h:pH a=pH a'):a=a':=by
 simp only[pH,HZ]at h
 try simp[jX]at h
 grind
theorem H0:ac pH ([AV.sl (ab aQ l)])=some (l):=ax aoQ (l) rfl
def ON:AV×Heap:=(vI (cJ l),[])
def aoR (l:List bI):Bool:=true
def Dk:aW:=aY 82 true pH aoR ON
theorem H1:aX Tryz.prog au Dk:=by
 refine cQ f82 aoN (de (x0:=aw f82 0) (by kernel_rfl) (bS ?_)) ?_
 .rintro⟨l,k⟩ hp
  exact aoO l k hp
 rintro l hpre hok
 show(aB Dj false _ (HZ _)).val=some (ON _)
 unfold HZ ON
 rw[aoP]
 simp only[lI,aoL,ar,aN,mf,aS]
 unfold cJ F.lt Fi Kw
 by_cases hl:(5000:Int)<(l.length:Int)
 .rw[aj hl];rfl
 .rw[aH hl]
  simp only[ap,aj (show l.length<=5000 by omega),aj (cf l.length),bT,ak,df]
  by_cases hf:bN (ql l) l.zipIdx=0
  .rw[hf]
   simp only[decide_true,ak,bne_self_eq_false,ap]
   by_cases h0:0<l.length
   .have hi:=tX h0 (by omega:l.length<=9223372036854775807)
    have hd:decide (l.length - 1<l.length)=true:=aj (by omega)
    simp only[aj h0,aj (show(0:Int)<(l.length:Int) by omega),ak,hi,ar,hd,fM]
    generalize bV _=b
    cases b<;>rfl
   .simp only[aH h0,aH (show ¬(0:Int)<(l.length:Int) by omega),ap,qD]
  .rw[aH hf,cP hf];rfl
def Dl (acc:List Int) (k:Nat):St:=⟨[(8,vI k),(7,vI l.length),(6, .sl (l.map aQ)),(3, .own 3)],[(3,⟨false,3,1,acc.map eI⟩)]⟩
def x8 (a:(List bI)×(List Int)×Nat):St:=Dl a.1 a.2.1 a.2.2
theorem aoS a a' (h:x8 a=x8 a'):a=a':=by
 simp only[x8,Dl]at h
 try simp[cY,jX]at h
 grind
theorem aoT: ac x8 (St.mk [(8,(vI (0:Int))),(7,(vI (↑(ae l):Int))),(6,AV.sl (ab aQ l)),(3, .own 3)] [(3,ah.mk false 3 1 [])])=some (l,[],0):=ax aoS (l,[],0) rfl
def H2 (acc:List Int) (k:Nat):T (Ex×St):= .ret (.exit 0,⟨[(3, .own 3)],[(3,⟨false,3,1,(acc++bZ (l.drop k)).map eI⟩)]⟩)
def OO (acc:List Int) (k:Nat):Bool:=decide (l.length<=5000)&&decide (k<=l.length)&&decide (acc.length=k)
def aoU:Nat×(St->T (Ex×St)):=(3,lpo [8,7,6,3] [3] x8 (bU OO) (bU H2))
def Dm:Env:=bq ty au bp [] [] [] [aoU]
theorem aoV:aZ Tryz.prog Dm:=bG bF
theorem Z3 (acc:List Int) (k:Nat):((exec Dm (aw Tryz.f128 0) (Dl l acc k)).bind (bE ([8,7,6,3],[3]) ([3],[3]) ([],[]))).val =
 bif decide ((↑k:Int)<(↑(ae l):Int)) then ai (ac (ab aQ) (ab aQ l)) fun z=>bif decide (k<ae z) then bif
 aP ((ae (ab eI acc)+1)*8) 140737488355328&&true then some (Ex.normal,St.mk [(8,(vI (am.wrap ((↑k :
 Int)+1)))),(7,(vI (↑(ae l):Int))),(6,AV.sl (ab aQ l)),(3, .own 3)] [(3,ah.mk false 3 1 (ab eI acc++[[(vI (bQ
 am ((al z k (bI.mk (0:Int) (0:Int) (0:Int) (0:Int) false)).time+(al z k (bI.mk (0:Int) (0:Int) (0:Int) (0:Int)
 false)).shift)))]]))]) else none else none else some (Ex.exit (0:Nat),St.mk [(3, .own 3)] [(3,ah.mk false 3 1 (ab eI acc))]):=(cr _ _ _).symm.trans (by kernel_rfl)
theorem aoW (l:List bI) (acc:List Int) (k:Nat) (hp:OO l acc k=true) : ∀ex s',(H2 l acc k).val=some (ex,s')->ba Dm (aw Tryz.f128 0) (Dl l acc k) ex s':=by
 simp only[OO,aG,aM]at hp
 obtain⟨⟨h1,h2⟩,h3⟩:=hp
 refine cE (st:=fun a:List Int×Nat=>Dl l a.1 a.2) (out:=fun a=>H2 l a.1 a.2) (I:=fun a=>a.2<=l.length/\a.1.length=a.2) (n:=([8,7,6,3],[3])) (e:=([3],[3])) (r:=([],[])) (fun a=>l.length - a.2) ?_ (acc,k) ⟨h2,h3⟩
 clear h2 h3 acc k
 rintro⟨acc,k⟩ ⟨h2,h3⟩
 simp only at h2 h3
 by_cases hlt:k<l.length
 .right
  have hy:l[k]? = some l[k]:=bC hlt
  have hd:l.drop k=l[k]::l.drop (k+1):=pe hlt
  generalize l[k]=y at hy hd
  have hb:aP ((acc.length+1)*8) 140737488355328=true:=cg (by omega)
  refine⟨(acc++[oc y],k+1),?_,rfl,⟨hlt,by simp[h3]⟩,by simp only;omega,?_⟩
  .rw[Z3]
   simp only[ar,aN,mf,ak,aS,bA hlt,aj hlt,ch hlt (by omega:l.length<=9223372036854775807),getD_at hy,hb,MM,oc]
   try rfl
  .simp only[H2,hd,bZ,gP,cq,List.singleton_append]
 .left
  have hk:k=l.length:=by omega
  subst hk
  refine⟨_,?_,rfl,by simp,rfl⟩
  rw[Z3]
  simp only[ar,aN,mf,ap,aS,gJ,mA]
  simp[bZ]
theorem aoX:(aB Dm false Tryz.f128 [.sl (l.map aQ)]).val =
 ai (ac x8 (St.mk [(8,(vI 0)),(7,(vI (↑(ae (ab aQ l)):Int))),(6,AV.sl (ab aQ l)),(3, .own 3)] [(3,ah.mk false 3 1
 [])])) fun z=>bif decide (ae z.1<=5000)&&decide (z.2.2<=ae z.1)&&decide (ae z.2.1 =
 z.2.2)&&true then some (AV.sl (ab eI (z.2.1++bZ (bn z.2.2 z.1))),[]) else none:=(cm).symm.trans (by kernel_rfl)
def H3:List AV:=[.sl (l.map aQ)]
def rF (a:(List bI)):List AV:=H3 a
theorem aoY a a' (h:rF a=rF a'):a=a':=by
 simp only[rF,H3]at h
 try simp[jX]at h
 grind
theorem OP:ac rF ([AV.sl (ab aQ l)])=some (l):=ax aoY (l) rfl
def OQ:AV×Heap:=(.sl ((bZ l).map eI),[])
def aoZ:Bool:=decide (l.length<=5000)
end
def H4:aW:=aY 128 false rF aoZ OQ
theorem OR:aX Tryz.prog au H4:=by
 refine cQ Tryz.f128 aoV (de (x0:=aw Tryz.f128 0) (by kernel_rfl) (bS ?_)) ?_
 .rintro⟨l,acc,k⟩ hp
  exact aoW l acc k hp
 rintro l hpre hok
 show(aB Dm false _ (H3 _)).val=some (OQ _)
 unfold H3 OQ
 rw[aoX]
 have h1:l.length<=5000:=of_decide_eq_true hpre
 simp only[aoT,ar,aN,ak,aS,aj h1,cf,decide_true,bT,i6,df,eh]
 try rfl
end M
namespace M
theorem j6 {α:Type} {xs:List α} {k:Nat} {y:α} (h:xs[k]? = some y):xs.drop k=y::xs.drop (k+1):=by
 have hlt:=cy h
 rw[pe hlt]
 congr 1
 exact(cO.1 h).2
end M
def UF (p:Option Int) (t:Int):Bool:=match p with
 | none=>false
 | some o=>F.le t o
def qn (p:Option Int) (t:Int):Int:=bif F.gY t then 1 else bif UF p t then 8 else 0
def lP (l:List Int):Int:=bif decide (l.length<2) then 9 else bif decide (200<l.length) then 2 else F.gN qn none l
namespace M
theorem ao0 (n:Nat):decide ((n:Int)<2)=decide (n<2):=by
 by_cases h:n<2
 .rw[aj h,aj (by omega)]
 .rw[aH h,aH (by omega)]
theorem ao1 (n:Nat):decide ((200:Int)<(n:Int))=decide (200<n):=Hv 200 n
section
variable (l:List Int) (k:Nat)
def tZ:St:=⟨[(15,vI k),(14,vI l.length),(13, .sl (l.map eI)),(0, .sl (l.map eI))],[]⟩
def x9 (a:(List Int)×Nat):St:=tZ a.1 a.2
theorem ao2 a a' (h:x9 a=x9 a'):a=a':=by
 simp only[x9,tZ]at h
 try simp[cY]at h
 grind
theorem ao3: ac x9 (St.mk [(15,(vI (0:Int))),(14,(vI (↑(ae l):Int))),(13,AV.sl (ab eI l)),(0,AV.sl (ab eI l))] [])=some (l,0):=ax ao2 (l,0) rfl
def Z4:T (Ex×St):= .bM (decide (F.gN qn (gO l k) (l.drop k)=0)) (.ret (.exit 1,⟨[],[]⟩)) (.ret (.ret,⟨[(2,vI (F.gN qn (gO l k) (l.drop k)))],[]⟩))
def OS:Bool:=decide (l.length<=9223372036854775807)&&decide (k<=l.length)
def ao4:Nat×(St->T (Ex×St)):=(6,lpo [15,14,13,0] [] x9 (aT OS) (aT Z4))
def Dn:Env:=bq ty au bp [NW] [] [] [ao4]
theorem ao5:aZ Tryz.prog Dn:=bG (aI YT bF)
theorem Z5:((exec Dn (aw f64 0) (tZ l k)).bind (bE ([15,14,13,0],[]) ([],[]) ([2],[]))).val =
 bif decide ((↑k:Int)<(↑(ae l):Int)) then ai (ac (ab eI) (ab eI l)) fun z=>bif decide (k<ae z) then
 ai (ac rA [(vI (al z k 0))]) fun z_1=>bif F.gY z_1 then some (Ex.ret,St.mk [(2,(vI 1))] []) else bif decide ((0 :
 Int)<(↑k:Int)) then ai (idx (am.wrap ((↑k:Int) - (1:Int)))) fun z_2=>ai (ac (ab eI) (ab eI l)) fun(z_3
 : List Int)=>bif decide (z_2<ae z_3) then bif decide (al z k 0<=al z_3 z_2 0) then some (Ex.ret,St.mk [(2,(vI 8))]
 []) else some (Ex.normal,St.mk [(15,(vI (am.wrap ((↑k:Int)+1)))),(14,(vI (↑(ae l):Int))),(13,AV.sl (ab eI l)),(0,
 AV.sl (ab eI l))] []) else none else some (Ex.normal,St.mk [(15,(vI (am.wrap ((↑k:Int)+1)))),(14,(vI (↑(ae l):Int))),
 (13,AV.sl (ab eI l)),(0,AV.sl (ab eI l))] []) else none else some (Ex.exit (1:Nat),St.mk [] []):=(cr _ _ _).symm.trans (by kernel_rfl)
theorem ao6 (hp:OS l k=true) : ∀ex s',(Z4 l k).val=some (ex,s')->ba Dn (aw f64 0) (tZ l k) ex s':=by
 simp only[OS,aG,aM]at hp
 obtain⟨h1,h2⟩:=hp
 refine YQ (l:=l) (f:=qn) (st:=tZ l) (o:=fun c=>(.ret,⟨[(2,vI c)],[]⟩)) (n:=([15,14,13,0],[])) (e:=([],[])) (r:=([2],[])) ?_ ⟨by simp,rfl⟩ (fun _=>⟨by simp,rfl⟩) (fun _=>rfl) ?_ k h2
 .rw[Z5];simp
 .intro k y hy
  have hlt:=cy hy
  rw[Z5]
  cases k with
  | zero=>
   simp only[Hz,ar,eR,ak,ap,bA hlt,aj hlt,ch hlt h1,getD_at hy,tZ,gO,qn,UF]
   have hz:decide ((0:Int)<((0:Nat):Int))=false:=rfl
   simp only[hz]
   cases F.gY y<;>rfl
  | succ j=>
   have ho:l[j]? = some l[j]:=bC (by omega)
   generalize l[j]=o at ho
   have hlo:=cy ho
   simp only[Hz,ar,eR,F.le,ak,bA hlt,aj hlt,aj hlo,ch hlt h1,getD_at hy,getD_at ho,ho,tZ,gO,qn,UF,XI (by omega:j+1<=9223372036854775807)]
   have hz:decide ((0:Int)<((j+1:Nat):Int))=true:=aj (by omega)
   simp only[hz]
   cases F.gY y
   .cases decide (y<=o)<;>rfl
   .rfl
theorem ao7:(aB Dn false f64 [.sl (l.map eI)]).val =
 bif decide ((↑(ae (ab eI l)):Int)<2) then some ((vI 9),[]) else bif decide ((200:Int)<(↑(ae (ab eI l)):Int)) then
 some ((vI 2),[]) else ai (ac x9 (St.mk [(15,(vI 0)),(14,(vI (↑(ae (ab eI l)):Int))),(13,AV.sl (ab eI l)),(0,
 AV.sl (ab eI l))] [])) fun z=>bif decide (ae z.1<=9223372036854775807)&&decide (z.2<=ae z.1)&&true then
 bif decide (F.gN qn (gO z.1 z.2) (bn z.2 z.1)=(0:Int)) then some ((vI 0),[]) else some ((vI (F.gN qn (gO z.1 z.2)
 (bn z.2 z.1))),[]) else none:=(cm).symm.trans (by kernel_rfl)
def H5:List AV:=[.sl (l.map eI)]
def ya (a:(List Int)):List AV:=H5 a
theorem ao8 a a' (h:ya a=ya a'):a=a':=by
 simp only[ya,H5]at h
 try simp[cY]at h
 grind
theorem ao9:ac ya ([AV.sl (ab eI l)])=some (l):=ax ao8 (l) rfl
def OT:AV×Heap:=(vI (lP l),[])
def apa (l:List Int):Bool:=true
def Z6:aW:=aY 64 true ya apa OT
theorem apb:aX Tryz.prog au Z6:=by
 refine cQ f64 ao5 (de (x0:=aw f64 0) (by kernel_rfl) (bS ?_)) ?_
 .rintro⟨l,k⟩ hp
  exact ao6 l k hp
 rintro l hpre hok
 show(aB Dn false _ (H5 _)).val=some (OT _)
 unfold H5 OT
 rw[ao7]
 have hx:l.length<=9223372036854775807:=by simpa using(jH (hok _ (dN ..))).1
 simp only[ao3,ar,aN,ak,aS,lP,hx,df,cf,decide_true,gO,ao0,ao1]
 cases decide (l.length<2)
 .cases decide (200<l.length)
  .by_cases h:F.gN qn none l=0<;>simp[h]
  .rfl
 .rfl
def yb:St:=⟨[(7,vI k),(6,vI l.length),(5, .sl (l.map eI))],[]⟩
def yc (a:(List Int)×Nat):St:=yb a.1 a.2
theorem apc a a' (h:yc a=yc a'):a=a':=by
 simp only[yc,yb]at h
 try simp[cY]at h
 grind
theorem apd: ac yc (St.mk [(7,(vI (0:Int))),(6,(vI (↑(ae l):Int))),(5,AV.sl (ab eI l))] [])=some (l,0):=ax apc (l,0) rfl
def Z7:T (Ex×St):= .bM (decide (M.bN id (l.drop k)=0)) (.ret (.exit 0,⟨[],[]⟩)) (.ret (.ret,⟨[(2,vI (M.bN id (l.drop k)))],[]⟩))
def OU:Bool:=decide (l.length<=9223372036854775807)&&decide (k<=l.length)
def ape:Nat×(St->T (Ex×St)):=(2,lpo [7,6,5] [] yc (aT OU) (aT Z7))
def Do:Env:=bq ty au bp [] [] [] [ape]
theorem apf:aZ Tryz.prog Do:=bG bF
theorem Z8:((exec Do (aw f63 0) (yb l k)).bind (bE ([7,6,5],[]) ([],[]) ([2],[]))).val =
 bif decide ((↑k:Int)<(↑(ae l):Int)) then ai (ac (ab eI) (ab eI l)) fun z=>bif decide (k<ae z) then bif
 al z k 0 != 0 then some (Ex.ret,St.mk [(2,(vI (al z k 0)))] []) else some (Ex.normal,St.mk [(7,(vI (am.wrap ((↑k
 : Int)+1)))),(6,(vI (↑(ae l):Int))),(5,AV.sl (ab eI l))] []) else none else some (Ex.exit (0:Nat),St.mk [] []):=(cr _ _ _).symm.trans (by kernel_rfl)
theorem apg (l:List Int) (k:Nat) (hp:OU l k=true) : ∀ex s',(Z7 l k).val=some (ex,s')->ba Do (aw f63 0) (yb l k) ex s':=by
 simp only[OU,aG,aM]at hp
 refine mW (xs:=l) (st:=yb l) (g:=id) (o:=fun c=>(.ret,⟨[(2,vI c)],[]⟩)) (n:=([7,6,5],[])) (e:=([],[])) (r:=([2],[])) ?_ ⟨by simp,rfl⟩ (fun _=>⟨by simp,rfl⟩) (fun _=>rfl) ?_ k hp.2
 .rw[Z8];simp
 .intro k y hy
  have hlt:=cy hy
  rw[Z8]
  simp only[ar,eR,ak,bA hlt,aj hlt,ch hlt hp.1,getD_at hy,yb]
  by_cases h:y=0
  .subst h;rfl
  .have hb:(y != 0)=true:=by simp[h]
   simp only[hb,ak,id,h,if_false]
theorem aph:(aB Do false f63 [.sl (l.map eI)]).val =
 ai (ac yc (St.mk [(7,(vI 0)),(6,(vI (↑(ae (ab eI l)):Int))),(5,AV.sl (ab eI l))] [])) fun z=>bif
 decide (ae z.1<=9223372036854775807)&&decide (z.2<=ae z.1)&&true then bif decide (bN id (bn z.2 z.1)=(0:Int)) then
 some ((vI 0),[]) else some ((vI (bN id (bn z.2 z.1))),[]) else none:=(cm).symm.trans (by kernel_rfl)
def H6:List AV:=[.sl (l.map eI)]
def yd (a:(List Int)):List AV:=H6 a
theorem api a a' (h:yd a=yd a'):a=a':=by
 simp only[yd,H6]at h
 try simp[cY]at h
 grind
def OV:AV×Heap:=(vI (M.bN id l),[])
end
def apj (l:List Int):Bool:=true
def Z9:aW:=aY 63 true yd apj OV
theorem apk:aX Tryz.prog au Z9:=by
 refine cQ f63 apf (de (x0:=aw f63 0) (by kernel_rfl) (bS ?_)) ?_
 .rintro⟨l,k⟩ hp
  exact apg l k hp
 rintro l hpre hok
 show(aB Do false _ (H6 _)).val=some (OV _)
 unfold H6 OV
 rw[aph]
 have hx:l.length<=9223372036854775807:=by simpa using(jH (hok _ (dN ..))).1
 simp only[apd,ar,aN,ak,aS,hx,df,cf,decide_true]
 by_cases h:M.bN id l=0<;>simp[h]
theorem apl (a b:Int):ac yd [.sl [[vI a],[vI b]]]=some [a,b]:=ax api [a,b] rfl
theorem apm (a b:Int):M.bN id [a,b]=(bif a != 0 then a else b):=by
 simp only[M.bN,id]
 by_cases h:a=0
 .subst h
  by_cases h2:b=0
  .subst h2;rfl
  .simp[h2]
 .rw[if_neg h,cP h];rfl
end M
end Go.Proofs.YtaobkfpnebbohaaGreatDoor
namespace Go.Proofs.YtaobkfpnebbohaaGreatDoor
set_option linter.unusedVariables false
set_option maxHeartbeats 4000000
namespace K
variable {α : Type}
structure SW (lt:α->α->Bool):Prop where
 asym : ∀a b,lt a b=true->lt b a=false
 tr : ∀a b c,lt b a=false->lt c b=false->lt c a=false
def eqv (lt:α->α->Bool) (z a:α):Bool:= !lt z a && !lt a z
def fV (lt:α->α->Bool) (xs:List α):Prop:=xs.Pairwise fun a b=>lt b a=false
structure jo (lt:α->α->Bool) (xs ys:List α):Prop where
 perm:ys.Perm xs
 ord:fV lt ys
 pQ : ∀z,ys.filter (eqv lt z)=xs.filter (eqv lt z)
variable {lt : α -> α -> Bool}
theorem SW.ua (h:SW lt) (a:α):lt a a=false:=by
 cases e:lt a a
 .rfl
 .rw[h.asym a a e]at e;cases e
theorem SW.aaa (h:SW lt) (a:α):eqv lt a a=true:=by simp[eqv,h.ua]
theorem ye (h:SW lt) {xs:List α} {a:α}:a∈xs↔a∈xs.filter (eqv lt a):=by simp[h.aaa]
theorem aab (h : SW lt) : ∀ {ys zs : List α}, fV lt ys -> fV lt zs -> (∀ z, ys.filter (eqv lt z) = zs.filter (eqv lt z)) -> ys = zs
  | [], [], _, _, _ => rfl
  | [], z :: zs, _, _, e => by
    have := (ye h (a := z)).1 (dN (a := z) (l := zs))
    rw [<- e z] at this; cases this
  | y :: ys, [], _, _, e => by
    have := (ye h (a := y)).1 (dN (a := y) (l := ys))
    rw [e y] at this; cases this
  | y :: ys, z :: zs, h1, h2, e => by
    have m1 := (ye h (a := y)).1 (dN (a := y) (l := ys))
    have m2 := (ye h (a := z)).1 (dN (a := z) (l := zs))
    rw [e y] at m1; rw [<- e z] at m2
    have m1 := (ye h).2 m1
    have m2 := (ye h).2 m2
    obtain ⟨p1, p2⟩ := l6.1 h1
    obtain ⟨q1, q2⟩ := l6.1 h2
    have a1 : lt z y = false := by rcases cK.1 m2 with rfl | m
                                   . exact h.ua _
                                   . exact p1 _ m
    have a2 : lt y z = false := by rcases cK.1 m1 with rfl | m
                                   . exact h.ua _
                                   . exact q1 _ m
    have ey := e y
    rw [Lm (h.aaa y), Lm (by simp [eqv, a1, a2])] at ey
    have e0 : y = z := (aFM ey).1
    subst e0
    rw [aab h p2 q2 fun w => ?_]
    have ew := e w
    by_cases hw : eqv lt w y = true
    . rw [Lm hw, Lm hw] at ew
      exact (aFM ew).2
    . rw [agN hw, agN hw] at ew
      exact ew
theorem jo.apn (h:SW lt) {xs ys zs:List α} (h1:jo lt xs ys) (h2:jo lt xs zs):ys=zs:=
 aab h h1.ord h2.ord fun z=>(h1.pQ z).trans (h2.pQ z).symm
theorem jo.refl {xs:List α} (h1:fV lt xs):jo lt xs xs:=⟨.refl _,h1,fun _=>rfl⟩
def Le (lt:α->α->Bool) (xs ys:List α):Prop:=∀a∈xs,∀b∈ys,lt b a=false
def Lt (lt:α->α->Bool) (xs ys:List α):Prop:=∀a∈xs,∀b∈ys,lt a b=true
theorem jo.app {a b c d:List α} (h1:jo lt a c) (h2:jo lt b d) (h:Le lt a b):jo lt (a++b) (c++d):=
 ⟨h1.perm.append h2.perm,mE.2 ⟨h1.ord,h2.ord,fun x hx y hy=>h x (h1.perm.subset hx) y (h2.perm.subset hy)⟩,fun z=>by rw[ot,ot,h1.pQ,h2.pQ]⟩
theorem apo (h:SW lt) {a b:List α} (hab:Lt lt a b) (z:α):a.filter (eqv lt z)=[]\/b.filter (eqv lt z)=[]:=by
 by_cases ha:a.filter (eqv lt z)=[]
 .exact .inl ha
 .right
  obtain⟨x,hx⟩:=List.exists_mem_of_ne_nil _ ha
  obtain⟨hx,hxz⟩:=nD.1 hx
  simp only[eqv,aG,mD]at hxz
  refine List.filter_eq_nil_iff.2 fun y hy hyz=>?_
  simp only[eqv,aG,mD]at hyz
  have:=hab x hx y hy
  rw[h.tr y z x hyz.1 hxz.2]at this
  cases this
theorem OW (h:SW lt) {a b:List α} (hab:Lt lt a b) (z:α):(a++b).filter (eqv lt z)=(b++a).filter (eqv lt z):=by
 rw[ot,ot]
 rcases apo h hab z with e | e<;>rw[e]<;>simp
def ins (lt:α->α->Bool) (c:α):List α->List α
 | []=>[c]
 | x::l=>bif lt c x then c::x::l else x::ins lt c l
def bB (lt:α->α->Bool) (xs:List α):List α:=xs.foldl (fun out c=>ins lt c out) []
theorem aac {c a:α} : ∀ {l:List α},a∈ins lt c l->a=c\/a∈l
 | [],h=> .inl (i7.1 h)
 | x::l,h=>by
  unfold ins at h
  cases e:lt c x<;>rw[e]at h
  .rcases cK.1 h with rfl | h
   .exact .inr (dN ..)
   .exact(aac h).imp id (iH _)
  .rcases cK.1 h with rfl | h
   .exact .inl rfl
   .exact .inr h
theorem aad {c:α} : ∀ {l:List α},(ins lt c l).Perm (l++[c])
 | []=> .refl _
 | x::l=>by
  unfold ins
  cases lt c x
  .exact aad.cons x
  .exact(List.perm_append_singleton c (x::l)).symm
theorem aae (h:SW lt) {c:α} : ∀ {l:List α},fV lt l->fV lt (ins lt c l)
 | [],_=>List.pairwise_singleton ..
 | x::l,hl=>by
  obtain⟨p1,p2⟩:=l6.1 hl
  unfold ins
  cases e:lt c x
  .refine l6.2 ⟨fun y hy=>?_,aae h p2⟩
   rcases aac hy with rfl | hy
   .exact e
   .exact p1 _ hy
  .refine l6.2 ⟨fun y hy=>?_,hl⟩
   rcases cK.1 hy with rfl | hy
   .exact h.asym _ _ e
   .exact h.tr _ _ _ (h.asym _ _ e) (p1 _ hy)
theorem aaf (h:SW lt) {c:α} (z:α) : ∀ {l:List α},fV lt l->(ins lt c l).filter (eqv lt z)=(l++[c]).filter (eqv lt z)
 | [],_=>rfl
 | x::l,hl=>by
  obtain⟨p1,p2⟩:=l6.1 hl
  unfold ins
  cases e:lt c x
  .rw[ap,k6,vM,vM,aaf h z p2]
  .rw[ak]
   refine OW h (a:=[c]) (b:=x::l) (fun a ha b hb=>?_) z
   rcases i7.1 ha with rfl
   rcases cK.1 hb with rfl | hb
   .exact e
   .cases e2:lt a b
    .rw[h.tr x b a (p1 b hb) e2]at e;cases e
    .rfl
theorem apq (h:SW lt) {c:α} {xs ys:List α} (h1:jo lt xs ys):jo lt (xs++[c]) (ins lt c ys):=
 ⟨aad.trans (h1.perm.append_right _),aae h h1.ord,fun z=>by rw[aaf h z h1.ord,ot,ot,h1.pQ]⟩
theorem OX {xs:List α} {c:α}:bB lt (xs++[c])=ins lt c (bB lt xs):=by unfold bB;rw[List.foldl_append];rfl
theorem lJ (h:SW lt) (xs:List α):jo lt xs (bB lt xs):=by
 rw[<-K9 xs]
 generalize xs.reverse=r
 induction r with
 | nil=>exact⟨.refl _, .nil,fun _=>rfl⟩
 | cons c r ih=>rw[List.reverse_cons,OX];exact apq h ih
theorem jo.eq (h:SW lt) {xs ys:List α} (h1:jo lt xs ys):ys=bB lt xs:=h1.apn h (lJ h xs)
theorem OY (h:SW lt) {xs:List α} (h1:fV lt xs):bB lt xs=xs:=((jo.refl h1).eq h).symm
theorem pI {xs:List α} (h:SW lt):(bB lt xs).length=xs.length:=(lJ h xs).perm.length_eq
theorem OZ (h:SW lt) (a b:List α):bB lt (bB lt a++bB lt b)=bB lt (a++b):=by
 have h1:=lJ h (bB lt a++bB lt b)
 refine jo.eq h ⟨h1.perm.trans ((lJ h a).perm.append (lJ h b).perm),h1.ord,fun z=>?_⟩
 rw[h1.pQ,ot,ot,(lJ h a).pQ,(lJ h b).pQ]
theorem apr (h:SW lt) {a1 a2 b1 b2:List α} (ha:fV lt (a1++a2)) (hb:fV lt (b1++b2)) (h1:Le lt a1 b2) (h2:Lt lt b1 a2):bB lt (a1++b1)++bB lt (a2++b2)=bB lt (a1++a2++(b1++b2)):=by
 obtain⟨p1,p2,p3⟩:=mE.1 ha
 obtain⟨q1,q2,q3⟩:=mE.1 hb
 have hs:=(lJ h (a1++b1)).app (lJ h (a2++b2)) (fun x hx y hy=>by
  rcases dn.1 hx with hx | hx<;>rcases dn.1 hy with hy | hy
  .exact p3 x hx y hy
  .exact h1 x hx y hy
  .exact h.asym _ _ (h2 x hx y hy)
  .exact q3 x hx y hy)
 refine jo.eq h ⟨hs.perm.trans ?_,hs.ord,fun z=>(hs.pQ z).trans ?_⟩
 .rw[cq,cq,<-cq b1,<-cq a2]
  exact(List.perm_append_comm.append_right _).append_left _
 .have e:=OW h h2 z
  simp only[ot]at e ⊢
  rw[cq,<-cq (b1.filter _),e]
  simp
end K
namespace K
variable {α : Type} {lt : α -> α -> Bool}
def jK (xs:List α) (i j:Nat):List α:=match xs[i]?,xs[j]? with
 | some x,some y=>(xs.set i y).set j x
 | _,_=>xs
theorem Dp {xs:List α} {i j:Nat} {x y:α} (hi:xs[i]? = some x) (hj:xs[j]? = some y):jK xs i j=(xs.set i y).set j x:=by
 unfold jK;rw[hi,hj]
theorem nZ {xs:List α} {i j:Nat}:(jK xs i j).length=xs.length:=by
 unfold jK;split<;>simp
theorem H7 {P M Q:List α} {x y:α} {i j:Nat} (h1:P.length=i) (h2:i+1+M.length=j):jK (P++x::(M++y::Q)) i j=P++y::(M++x::Q):=by
 have e1:(P++x::(M++y::Q))[i]? = some x:=by rw[kw (by omega)];simp[h1]
 have e2:(P++x::(M++y::Q))[j]? = some y:=by
  rw[kw (by omega),show j - P.length=M.length+1 by omega,qu,kw (bR _)];simp
 rw[Dp e1 e2,agO _ _ (by omega),agO _ _ (by omega)]
 congr 1
 rw[show i - P.length=0 by omega,show j - P.length=M.length+1 by omega,aFN,List.set_cons_succ,agO _ _ (bR _),qE,aFN]
theorem aag {xs:List α} {i j:Nat} (h:i≠j):jK xs i j=jK xs j i:=by
 unfold jK
 cases xs[i]? <;> cases xs[j]? <;> try rfl
 exact List.set_comm _ _ h
def gk (a b:Nat):Nat->List α->List α
 | 0,xs=>xs
 | n+1,xs=>gk (a+1) (b+1) n (jK xs a b)
theorem pJ : ∀(n a b:Nat) (xs:List α),(gk a b n xs).length=xs.length
 | 0,_,_,_=>rfl
 | n+1,a,b,xs=>by rw[gk,pJ,nZ]
theorem H8 : ∀(X Y P Z Q:List α) (a b n:Nat),P.length=a->X.length=n->Y.length=n->a+n+Z.length=b->gk a b n (P++X++Z++Y++Q)=P++Y++Z++X++Q
 | [],Y,P,Z,Q,a,b,n,h1,h2,h3,h4=>by
  have:Y=[]:=jb.1 (by rw[h3,<-h2];rfl)
  subst this
  have:n=0:=h2.symm
  subst this
  rfl
 | x::X,[],P,Z,Q,a,b,n,h1,h2,h3,h4=>by rw[<-h2]at h3;cases h3
 | x::X,y::Y,P,Z,Q,a,b,n,h1,h2,h3,h4=>by
  cases n with
  | zero=>cases h2
  | succ n=>
   have h2:X.length=n:=Lo h2
   have h3:Y.length=n:=Lo h3
   have e:P++x::X++Z++y::Y++Q=P++x::((X++Z)++y::(Y++Q)):=by simp
   rw[gk,e,H7 h1 (by rw[ck];omega)]
   have e2:P++y::(X++Z++x::(Y++Q))=(P++[y])++X++(Z++[x])++Y++Q:=by simp
   rw[e2,H8 X Y (P++[y]) (Z++[x]) Q (a+1) (b+1) n (by simp[h1]) h2 h3 (by simp;omega)]
   simp
def gZ (m i j:Nat) (xs:List α):List α:=xs.take (m - i)++((xs.drop m).take j++((xs.drop (m - i)).take i++xs.drop (m+j)))
theorem pK {P X Y Q:List α} {m i j:Nat} (h1:P.length+i=m) (h2:X.length=i) (h3:Y.length=j):gZ m i j (P++(X++(Y++Q)))=P++(Y++(X++Q)):=by
 subst h1 h2 h3
 unfold gZ
 rw[show P.length+X.length - X.length=P.length by omega,nH,sQ,nH]
 have e1:(P++(X++(Y++Q))).drop (P.length+X.length)=Y++Q:=by
  rw[show P++(X++(Y++Q))=(P++X)++(Y++Q) by simp,show P.length+X.length=(P++X).length by simp,sQ]
 have e2:(P++(X++(Y++Q))).drop (P.length+X.length+Y.length)=Q:=by
  rw[show P++(X++(Y++Q))=(P++X++Y)++Q by simp,show P.length+X.length+Y.length=(P++X++Y).length by simp;omega,sQ]
 rw[e1,e2,nH]
theorem yf (xs:List α) {m i j:Nat} (h1:i<=m) (h2:m+j<=xs.length) : ∃P X Y Q,xs=P++(X++(Y++Q))/\P.length+i=m/\X.length=i/\Y.length=j:=by
 refine⟨xs.take (m - i),(xs.drop (m - i)).take i,(xs.drop m).take j,xs.drop (m+j),?_,by rw[eY];omega,by rw[eY,fe];omega,by rw[eY,fe];omega⟩
 have e1:xs.drop (m+j)=(xs.drop m).drop j:=by rw[sE]
 have e2:xs.drop m=(xs.drop (m - i)).drop i:=by rw[sE];congr 1;omega
 rw[e1,nA,e2,nA,nA]
theorem aah {xs:List α} {m i j:Nat} (h1:i<=m) (h2:m+j<=xs.length):(gZ m i j xs).length=xs.length:=by
 obtain⟨P,X,Y,Q,rfl,e1,e2,e3⟩:=yf xs h1 h2
 rw[pK e1 e2 e3]
 simp;omega
theorem aps {xs:List α} {m i j:Nat} (h1:i<=m) (h2:m+j<=xs.length) (h:j<i):gZ m (i - j) j (gk (m - i) m j xs)=gZ m i j xs:=by
 obtain⟨P,X,Y,Q,rfl,e1,e2,e3⟩:=yf xs h1 h2
 rw[pK e1 e2 e3]
 have ex:X=X.take j++X.drop j:=(nA ..).symm
 have l1:(X.take j).length=j:=by rw[eY];omega
 have l2:(X.drop j).length=i - j:=by rw[fe];omega
 generalize X.take j=A at ex l1
 generalize X.drop j=B at ex l2
 subst ex
 have e:P++((A++B)++(Y++Q))=P++A++B++Y++Q:=by simp
 rw[e,H8 A Y P B Q (m - i) m j (by omega) l1 e3 (by omega)]
 have e':P++Y++B++A++Q=(P++Y)++(B++(A++Q)):=by simp
 rw[e',pK (by rw[ck];omega) l2 l1]
 simp
theorem apt {xs:List α} {m i j:Nat} (h1:i<=m) (h2:m+j<=xs.length) (h:i<j):gZ m i (j - i) (gk (m - i) (m+j - i) i xs)=gZ m i j xs:=by
 obtain⟨P,X,Y,Q,rfl,e1,e2,e3⟩:=yf xs h1 h2
 rw[pK e1 e2 e3]
 have ex:Y=Y.take (j - i)++Y.drop (j - i):=(nA ..).symm
 have l1:(Y.take (j - i)).length=j - i:=by rw[eY];omega
 have l2:(Y.drop (j - i)).length=i:=by rw[fe];omega
 generalize Y.take (j - i)=A at ex l1
 generalize Y.drop (j - i)=B at ex l2
 subst ex
 have e:P++(X++((A++B)++Q))=P++X++A++B++Q:=by simp
 rw[e,H8 X B P A Q (m - i) (m+j - i) i (by omega) e2 l2 (by omega)]
 have e':P++B++A++X++Q=P++(B++(A++(X++Q))):=by simp
 rw[e',pK (by omega) l2 l1]
 simp
theorem apu {xs:List α} {m i:Nat} (h1:i<=m) (h2:m+i<=xs.length):gk (m - i) m i xs=gZ m i i xs:=by
 obtain⟨P,X,Y,Q,rfl,e1,e2,e3⟩:=yf xs h1 h2
 rw[pK e1 e2 e3]
 have e:P++(X++(Y++Q))=P++X++[]++Y++Q:=by simp
 rw[e,H8 X Y P [] Q (m - i) m i (by omega) e2 e3 (by simp;omega)]
 simp
def sink (lt:α->α->Bool) (a:Nat):Nat->List α->List α
 | 0,xs=>xs
 | j+1,xs=>match xs[j+1]?,xs[j]? with
  | some x,some y=>bif decide (a<j+1)&&lt x y then sink lt a j (jK xs (j+1) j) else xs
  | _,_=>xs
theorem O0 (a:Nat) : ∀(j:Nat) (xs:List α),(sink lt a j xs).length=xs.length
 | 0,_=>rfl
 | j+1,xs=>by
  unfold sink
  split
  .rename_i x y _ _
   cases decide (a<j+1)&&lt x y
   .rfl
   .rw[ak,O0,nZ]
  .rfl
theorem aai (h:SW lt) {c:α} {A B:List α} (h1:fV lt (A++B)) (h2 : ∀a∈A,lt c a=false):ins lt c (A++B)=A++ins lt c B:=by
 induction A with
 | nil=>rfl
 | cons x A ih=>
  rw[k6,ins,h2 x (dN ..),ap,ih (l6.1 h1).2 fun a ha=>h2 a (iH _ ha)]
  rfl
theorem O1 {c:α} {D:List α} (hd : ∀d∈D,lt c d=true):ins lt c D=c::D:=by
 cases D with
 | nil=>rfl
 | cons d D=>rw[ins,hd d (dN ..)];rfl
theorem apv (a:Nat) (xs:List α):sink lt a a xs=xs:=by
 cases a with
 | zero=>rfl
 | succ j=>
  unfold sink
  split
  .rw[aH (Nat.lt_irrefl _)];rfl
  .rfl
theorem aaj (h:SW lt) (P Q:List α) : ∀(r:List α) (D:List α) (c:α) (a j:Nat),P.length=a->a+r.length=j->fV lt (r.reverse++D)->(∀d∈D,lt c d=true)->sink lt a j (P++(r.reverse++(c::(D++Q))))=P++(ins lt c (r.reverse++D)++Q)
 | [],D,c,a,j,h1,h2,hs,hd=>by
  have hj:j=a:=by rw[<-h2];rfl
  subst hj
  rw[apv,List.reverse_nil,eh,eh,O1 hd]
  rfl
 | x::r,D,c,a,j,h1,h2,hs,hd=>by
  have hl:(x::r).length=r.length+1:=rfl
  obtain⟨k,rfl⟩ : ∃k,j=k+1:=⟨a+r.length,by omega⟩
  have e1:P++((x::r).reverse++(c::(D++Q)))=(P++r.reverse)++x::([]++c::(D++Q)):=by simp
  have hk:(P++r.reverse).length=k:=by simp;omega
  have ej:((P++r.reverse)++x::([]++c::(D++Q)))[k+1]? = some c:=by
   rw[kw (by omega),hk,show k+1 - k=1 by omega];rfl
  have ek:((P++r.reverse)++x::([]++c::(D++Q)))[k]? = some x:=by
   rw[kw (by omega),hk,qE];rfl
  rw[e1,sink,ej,ek]
  simp only
  rw[aj (show a<k+1 by omega),fM]
  have er:(x::r).reverse++D=r.reverse++x::D:=by simp
  cases hc:lt c x
  .rw[ap]
   rw[er]at hs ⊢
   have hx : ∀y∈r.reverse,lt x y=false:=fun y hy=>(mE.1 hs).2.2 y hy x (dN ..)
   rw[aai h hs fun y hy=>h.tr _ _ _ (hx y hy) hc,ins,hc,ap,O1 hd]
   simp
  .rw[ak,aag (by omega),H7 hk (by simp)]
   have e2:(P++r.reverse)++c::([]++x::(D++Q))=P++(r.reverse++(c::((x::D)++Q))):=by simp
   rw[e2,aaj h P Q r (x::D) c a k h1 (by omega) (by rw[<-er];exact hs) (fun d hd'=>by
    rcases cK.1 hd' with rfl | hd'
    .exact hc
    .exact hd d hd'),er]
def cH (a b:Nat) (f:List α->List α) (xs:List α):List α:=xs.take a++(f ((xs.drop a).take (b - a))++xs.drop b)
theorem n5 {P M Q:List α} {a b:Nat} {f:List α->List α} (h1:P.length=a) (h2:a+M.length=b):cH a b f (P++(M++Q))=P++(f M++Q):=by
 subst h1 h2
 unfold cH
 rw[nH,sQ,aFO,nH]
 congr 2
 rw[<-sE,sQ,sQ]
theorem yg (xs:List α) {a b:Nat} (h1:a<=b) (h2:b<=xs.length) : ∃P M Q,xs=P++(M++Q)/\P.length=a/\a+M.length=b:=by
 refine⟨xs.take a,(xs.drop a).take (b - a),xs.drop b,?_,by rw[eY];omega,by rw[eY,fe];omega⟩
 have e1:xs.drop b=(xs.drop a).drop (b - a):=by rw[sE];congr 1;omega
 rw[e1,nA,nA]
theorem yh (h:SW lt) {a b:Nat} {xs:List α} (h1:a<=b) (h2:b<=xs.length):(cH a b (bB lt) xs).length=xs.length:=by
 obtain⟨P,M,Q,rfl,e1,e2⟩:=yg xs h1 h2
 rw[n5 e1 e2]
 simp[pI h]
def pL (lt:α->α->Bool) (a:Nat):Nat->Nat->List α->List α
 | 0,_,xs=>xs
 | n+1,i,xs=>pL lt a n (i+1) (sink lt a i xs)
theorem aak (h:SW lt) (P:List α) : ∀(n:Nat) (L M Q:List α) (i a:Nat),P.length=a->a+L.length=i->M.length=n->pL lt a n i (P++(bB lt L++(M++Q)))=P++(bB lt (L++M)++Q)
 | 0,L,[],Q,i,a,_,_,_=>by simp[pL]
 | 0,L,x::M,Q,i,a,_,_,h3=>by cases h3
 | n+1,L,[],Q,i,a,_,_,h3=>by cases h3
 | n+1,L,x::M,Q,i,a,h1,h2,h3=>by
  have e:=aaj h P (M++Q) (bB lt L).reverse [] x a i h1 (by rw[aFP,pI h,h2]) (by rw[K9,gH];exact(lJ h L).ord) (fun d hd=>by cases hd)
  rw[K9,gH]at e
  rw[pL,k6,<-eh (M++Q),e,<-OX,aak h P n (L++[x]) M Q (i+1) a h1 (by simp;omega) (Lo h3)]
  simp
theorem apw (h:SW lt) {a b:Nat} {xs:List α} (h1:a<=b) (h2:b<=xs.length):pL lt a (b - (a+1)) (a+1) xs=cH a b (bB lt) xs:=by
 obtain⟨P,M,Q,rfl,e1,e2⟩:=yg xs h1 h2
 rw[n5 e1 e2]
 cases M with
 | nil=>
  have:b - (a+1)=0:=by simp at e2;omega
  rw[this];rfl
 | cons x M=>
  have:=aak h P (b - (a+1)) [x] M Q (a+1) a e1 (by simp) (by simp at e2;omega)
  exact this
end K
namespace K
variable {α : Type} {lt : α -> α -> Bool}
def bs (p:Nat->Bool) (i j:Nat):Nat:=
 if i<j then bif p ((i+j) / 2) then bs p ((i+j) / 2+1) j else bs p i ((i+j) / 2) else i
termination_by j - i
theorem ub (p:Nat->Bool) (i j:Nat):i<=j->i<=bs p i j/\bs p i j<=j/\(bs p i j=i \/ ∃k,bs p i j=k+1/\i<=k/\p k=true)/\(bs p i j=j\/p (bs p i j)=false):=by
 intro h
 induction i,j using bs.induct (p:=p)with
 | case1 i j hlt hp ih=>
  obtain⟨a1,a2,a3,a4⟩:=ih (by omega)
  rw[bs,if_pos hlt,hp,ak]
  refine⟨by omega,a2,?_,a4⟩
  rcases a3 with e | ⟨k,e1,e2,e3⟩
  .exact .inr ⟨(i+j) / 2,e,by omega,hp⟩
  .exact .inr ⟨k,e1,by omega,e3⟩
 | case2 i j hlt hp ih=>
  obtain⟨a1,a2,a3,a4⟩:=ih (by omega)
  have hp:p ((i+j) / 2)=false:=by simpa using hp
  rw[bs,if_pos hlt,hp,ap]
  refine⟨a1,by omega,a3,?_⟩
  rcases a4 with e | e
  .exact .inr (by rw[e];exact hp)
  .exact .inr e
 | case3 i j hlt=>
  rw[bs,if_neg hlt]
  exact⟨bR _,h, .inl rfl, .inl (by omega)⟩
def rG:Nat->Nat->List α->List α
 | 0,_,xs=>xs
 | n+1,k,xs=>rG n (k+1) (jK xs k (k+1))
def rH:Nat->Nat->List α->List α
 | 0,_,xs=>xs
 | n+1,k,xs=>rH n (k - 1) (jK xs k (k - 1))
theorem aal : ∀(M P Q:List α) (x:α) (k n:Nat),P.length=k->M.length=n->rG n k (P++x::(M++Q))=P++(M++x::Q)
 | [],P,Q,x,k,n,h1,h2=>by cases h2;rfl
 | y::M,P,Q,x,k,n,h1,h2=>by
  cases n with
  | zero=>cases h2
  | succ n=>
   have e:P++x::(y::M++Q)=P++x::([]++y::(M++Q)):=rfl
   rw[rG,e,H7 h1 (by simp)]
   have e2:P++y::([]++x::(M++Q))=(P++[y])++x::(M++Q):=by simp
   rw[e2,aal M (P++[y]) Q x (k+1) n (by simp[h1]) (Lo h2)]
   simp
theorem aam : ∀(r P Q:List α) (x:α) (k n:Nat),P.length+n=k->r.length=n->rH n k (P++(r.reverse++x::Q))=P++x::(r.reverse++Q)
 | [],P,Q,x,k,n,h1,h2=>by cases h2;rfl
 | y::r,P,Q,x,k,n,h1,h2=>by
  cases n with
  | zero=>cases h2
  | succ n=>
   have h2:r.length=n:=Lo h2
   have e:P++((y::r).reverse++x::Q)=(P++r.reverse)++y::([]++x::Q):=by simp
   rw[rH,aag (by omega),e,H7 (by simp;omega) (by simp;omega)]
   have e2:(P++r.reverse)++x::([]++y::Q)=P++(r.reverse++x::(y::Q)):=by simp
   rw[e2,aam r P (y::Q) x (k - 1) n (by omega) h2]
   simp
theorem apx (h:SW lt) {x:α} {A B:List α} (h1:fV lt (A++B)) (h2:Lt lt A [x]) (h3:Le lt [x] B):bB lt (x::(A++B))=A++x::B:=by
 have h0:fV lt (A++x::B):=by
  obtain⟨p1,p2,p3⟩:=mE.1 h1
  refine mE.2 ⟨p1,l6.2 ⟨fun y hy=>h3 x (i7.2 rfl) y hy,p2⟩,fun a ha b hb=>?_⟩
  rcases cK.1 hb with rfl | hb
  .exact h.asym _ _ (h2 a ha b (i7.2 rfl))
  .exact p3 a ha b hb
 refine(jo.eq h ⟨?_,h0,fun z=>?_⟩).symm
 .exact List.perm_middle
 .have:=OW h h2 z
  rw[show A++x::B=(A++[x])++B by simp,show x::(A++B)=([x]++A)++B by simp,ot,this,<-ot]
theorem apy (h:SW lt) {x:α} {A B:List α} (h1:fV lt (A++B)) (h2:Le lt A [x]) (h3:Lt lt [x] B):bB lt (A++B++[x])=A++x::B:=by
 rw[OX,OY h h1,aai h h1 fun a ha=>h2 a ha x (i7.2 rfl),O1 fun d hd=>h3 x (i7.2 rfl) d hd]
def jp (lt:α->α->Bool) (a b:Nat) (xs:List α):Prop:=fV lt ((xs.drop a).take (b - a))
theorem n6 {P M Q:List α} {a b:Nat} (h1:P.length=a) (h2:a+M.length=b):jp lt a b (P++(M++Q))↔fV lt M:=by
 subst h1 h2
 unfold jp
 rw[sQ,aFO,nH]
theorem m9 (xs:List α) {a:Nat} (h1:a<=xs.length) : ∃P Q,xs=P++Q/\P.length=a:=⟨xs.take a,xs.drop a,(nA ..).symm,by rw[eY];omega⟩
theorem kO {P Q:List α} {i:Nat} (h:P.length<=i):(P++Q)[i]? = Q[i - P.length]?:=kw h
theorem apz (h:SW lt) {a b:Nat} {xs:List α} {x:α} (hb:b<=xs.length) (hab:a+1<=b) (hx:xs[a]? = some x) (hs:jp lt (a+1) b xs) (p:Nat->Bool) (hp : ∀k y,xs[k]? = some y->p k=lt y x) :
  rG (bs p (a+1) b - 1 - a) a xs=cH a b (bB lt) xs:=by
 obtain⟨s1,s2,s3,s4⟩:=ub p (a+1) b hab
 generalize bs p (a+1) b=i at s1 s2 s3 s4
 obtain⟨P,M,Q,rfl,e1,e2⟩:=yg xs (show a<=b by omega) hb
 cases M with
 | nil=>simp at e2;omega
 | cons x' M=>
  have hx':x'=x:=by
   rw[kO (by omega),e1,qE]at hx
   simpa using hx
  subst hx'
  rw[show P++(x'::M++Q)=(P++[x'])++(M++Q) by simp,n6 (by simp[e1]) (by simp at e2;omega)]at hs
  have hM:a+1+M.length=b:=by simp at e2;omega
  obtain⟨A,B,rfl,hA⟩:=m9 M (show i - (a+1)<=M.length by omega)
  have hl:A.length+B.length=(A++B).length:=by simp
  obtain⟨q1,q2,q3⟩:=mE.1 hs
  have at2 : ∀k,a+1<=k->k<b -> ∀y,(A++B)[k - (a+1)]? = some y->(P++((x'::(A++B))++Q))[k]? = some y:=fun k h1 h2 y hy=>by
   rw[kO (by omega),e1,show k - a=k - (a+1)+1 by omega,k6,qu,mC (by omega)]
   exact hy
  have hLt:Lt lt A [x']:=by
   rcases s3 with e | ⟨k,e3,e4,e5⟩
   .have:A=[]:=jb.1 (by omega)
    subst this
    intro a ha;cases ha
   .intro c hc d hd
    rcases i7.1 hd with rfl
    have hz:A[A.length - 1]? = some A[A.length - 1]:=bC (by omega)
    have h0:=at2 k e4 (by omega) A[A.length - 1] (by rw[mC (by omega),show k - (a+1)=A.length - 1 by omega];exact hz)
    rw[hp k _ h0]at e5
    generalize A[A.length - 1]=z at e5 hz
    obtain⟨j,hj,hj2⟩:=pi.1 hc
    by_cases hlast:j=A.length - 1
    .subst hlast
     rw[bC hj]at hz
     rw[<-hj2,jC hz];exact e5
    .have hle:lt z c=false:=by
      have:=vY.1 q1 j (A.length - 1) hj (by omega) (by omega)
      rw[hj2]at this
      have hz2:A[A.length - 1]=z:=by
       have:=bC (l:=A) (i:=A.length - 1) (by omega)
       rw[hz]at this;exact(jC this).symm
      rw[hz2]at this;exact this
     cases hcd:lt c d
     .rw[h.tr d c z hcd hle]at e5;cases e5
     .rfl
  have hLe:Le lt [x'] B:=by
   intro c hc d hd
   rcases i7.1 hc with rfl
   rcases s4 with e | e
   .have:B=[]:=jb.1 (by omega)
    subst this;cases hd
   .cases B with
    | nil=>cases hd
    | cons z B=>
     have hlB:(A++z::B).length=A.length+(B.length+1):=by simp
     have h0:=at2 i (by omega) (by omega) z (by rw[show i - (a+1)=A.length by omega,kw (bR _),qE];rfl)
     rw[hp i _ h0]at e
     rcases cK.1 hd with rfl | hd
     .exact e
     .exact h.tr _ _ _ e ((l6.1 q2).1 d hd)
  rw[n5 e1 e2,apx h hs hLt hLe]
  have e:P++((x'::(A++B))++Q)=P++x'::(A++(B++Q)):=by simp
  rw[e,aal A P (B++Q) x' a (i - 1 - a) e1 (by omega)]
  simp
theorem apA (h:SW lt) {a m:Nat} {xs:List α} {x:α} (hb:m+1<=xs.length) (hab:a<=m) (hx:xs[m]? = some x) (hs:jp lt a m xs) (p:Nat->Bool) (hp : ∀k y,xs[k]? = some y->p k = !lt x y) :
  rH (m - bs p a m) m xs=cH a (m+1) (bB lt) xs:=by
 obtain⟨s1,s2,s3,s4⟩:=ub p a m hab
 generalize bs p a m=i at s1 s2 s3 s4
 obtain⟨P,M0,Q,rfl,e1,e2⟩:=yg xs (show a<=m+1 by omega) hb
 obtain⟨M,N,rfl,hM⟩:=m9 M0 (show m - a<=M0.length by omega)
 have hN:N.length=1:=by simp at e2;omega
 obtain⟨x',rfl⟩:=List.length_eq_one_iff.1 hN
 have hx':x'=x:=by
  rw[kO (by omega),e1,cq,kO (by omega),hM,qE]at hx
  simpa using hx
 subst hx'
 rw[show P++((M++[x'])++Q)=P++(M++([x']++Q)) by simp,n6 e1 (by omega)]at hs
 obtain⟨A,B,rfl,hA⟩:=m9 M (show i - a<=M.length by omega)
 have hl:A.length+B.length=(A++B).length:=by simp
 obtain⟨q1,q2,q3⟩:=mE.1 hs
 have at2 : ∀k,a<=k->k<m -> ∀y,(A++B)[k - a]? = some y->(P++((A++B++[x'])++Q))[k]? = some y:=fun k h1 h2 y hy=>by
  rw[kO (by omega),e1,cq,mC (by omega)]
  exact hy
 have hLe:Le lt A [x']:=by
  rcases s3 with e | ⟨k,e3,e4,e5⟩
  .have:A=[]:=jb.1 (by omega)
   subst this
   intro a ha;cases ha
  .intro c hc d hd
   rcases i7.1 hd with rfl
   have hz:A[A.length - 1]? = some A[A.length - 1]:=bC (by omega)
   have h0:=at2 k e4 (by omega) A[A.length - 1] (by rw[mC (by omega),show k - a=A.length - 1 by omega];exact hz)
   rw[hp k _ h0,mD]at e5
   generalize hzz:A[A.length - 1]=z at e5 hz
   obtain⟨j,hj,hj2⟩:=pi.1 hc
   by_cases hlast:j=A.length - 1
   .subst hlast
    rw[<-hj2,hzz];exact e5
   .have hle:=vY.1 q1 j (A.length - 1) hj (by omega) (by omega)
    rw[hj2,hzz]at hle
    exact h.tr c z d hle e5
 have hLt:Lt lt [x'] B:=by
  intro c hc d hd
  rcases i7.1 hc with rfl
  rcases s4 with e | e
  .have:B=[]:=jb.1 (by omega)
   subst this;cases hd
  .cases B with
   | nil=>cases hd
   | cons z B=>
    have hlB:(A++z::B).length=A.length+(B.length+1):=by simp
    have h0:=at2 i (by omega) (by omega) z (by rw[show i - a=A.length by omega,kw (bR _),qE];rfl)
    rw[hp i _ h0,Bool.not_eq_false']at e
    rcases cK.1 hd with rfl | hd
    .exact e
    .cases hcd:lt c d
     .rw[h.tr z d c ((l6.1 q2).1 d hd) hcd]at e;cases e
     .rfl
 rw[n5 e1 e2,apy h hs hLe hLt]
 have e:P++((A++B++[x'])++Q)=(P++A)++(B.reverse.reverse++x'::Q):=by simp
 rw[e,aam B.reverse (P++A) Q x' m (m - i) (by rw[ck];omega) (by rw[aFP];omega)]
 simp
end K
namespace K
variable {α : Type} {lt : α -> α -> Bool}
theorem apB (h:SW lt) {A B:List α} {x y:α} (hA:fV lt (A++[x])) (hB:fV lt (y::B)) (e:lt y x=false):Le lt (A++[x]) (y::B):=by
 intro a ha b hb
 have h1:lt x a=false:=by
  rcases dn.1 ha with ha | ha
  .exact(mE.1 hA).2.2 a ha x (i7.2 rfl)
  .rcases i7.1 ha with rfl;exact h.ua _
 have h2:lt b y=false:=by
  rcases cK.1 hb with rfl | hb
  .exact h.ua _
  .exact(l6.1 hB).1 b hb
 exact h.tr _ _ _ (h.tr _ _ _ h1 e) h2
theorem apC (h:SW lt) {A B:List α} {x y:α} (hA:fV lt (A++[x])) (hB:fV lt (y::B)) (e:lt x y=true):Lt lt (A++[x]) (y::B):=by
 intro a ha b hb
 have h1:lt x a=false:=by
  rcases dn.1 ha with ha | ha
  .exact(mE.1 hA).2.2 a ha x (i7.2 rfl)
  .rcases i7.1 ha with rfl;exact h.ua _
 have h2:lt b y=false:=by
  rcases cK.1 hb with rfl | hb
  .exact h.ua _
  .exact(l6.1 hB).1 b hb
 cases hab:lt a b
 .rw[h.tr y b x h2 (h.tr b a x hab h1)]at e;cases e
 .rfl
theorem apD (h:SW lt) {A B:List α} (hA:fV lt A) (hB:fV lt B) (e:A=[]\/B=[] \/ ∃x y,A[A.length - 1]? = some x/\B[0]? = some y/\lt y x=false):Le lt A B:=by
 rcases e with rfl | rfl | ⟨x,y,hx,hy,e⟩
 .intro a ha;cases ha
 .intro a _ b hb;cases hb
 .rcases aFQ A with rfl | ⟨A',x',rfl⟩
  .cases hx
  .cases B with
   | nil=>cases hy
   | cons y' B=>
    rw[aFR]at hx hA ⊢
    rw[ck,ou,vQ,kw (bR _),qE]at hx
    cases hx;cases hy
    exact apB h hA hB e
theorem apE (h:SW lt) {A B:List α} (hA:fV lt A) (hB:fV lt B) (e:A=[]\/B=[] \/ ∃x y,A[A.length - 1]? = some x/\B[0]? = some y/\lt x y=true):Lt lt A B:=by
 rcases e with rfl | rfl | ⟨x,y,hx,hy,e⟩
 .intro a ha;cases ha
 .intro a _ b hb;cases hb
 .rcases aFQ A with rfl | ⟨A',x',rfl⟩
  .cases hx
  .cases B with
   | nil=>cases hy
   | cons y' B=>
    rw[aFR]at hx hA ⊢
    rw[ck,ou,vQ,kw (bR _),qE]at hx
    cases hx;cases hy
    exact apC h hA hB e
theorem H9 (h:SW lt) {a b:Nat} {xs:List α} (h1:a<=b) (h2:b<=xs.length) (hs:jp lt a b xs):cH a b (bB lt) xs=xs:=by
 obtain⟨P,M,Q,rfl,e1,e2⟩:=yg xs h1 h2
 rw[n5 e1 e2,OY h ((n6 e1 e2).1 hs)]
theorem aan {m j:Nat} {xs:List α} (h2:m+j<=xs.length):gZ m 0 j xs=xs:=by
 obtain⟨P,X,Y,Q,rfl,e1,e2,e3⟩:=yf xs (cf m) h2
 have:X=[]:=jb.1 e2
 subst this
 rw[pK e1 e2 e3];rfl
theorem aao {m i:Nat} {xs:List α} (h1:i<=m) (h2:m<=xs.length):gZ m i 0 xs=xs:=by
 obtain⟨P,X,Y,Q,rfl,e1,e2,e3⟩:=yf xs h1 (j:=0) (by omega)
 have:Y=[]:=jb.1 e3
 subst this
 rw[pK e1 e2 e3];rfl
structure apF (lt:α->α->Bool) (a m b s e:Nat) (xs:List α):Prop where
 has:a<=s
 iu:s<=m
 hme:m<=e
 yy:e<=b
 Ip:s<=(a+b) / 2
 hde:(a+b) / 2<=e
 na:e+s=(a+b) / 2+m
 s1:jp lt a s (gZ m (m - s) (e - m) xs)
 s2:jp lt s ((a+b) / 2) (gZ m (m - s) (e - m) xs)
 s3:jp lt ((a+b) / 2) e (cH a ((a+b) / 2) (bB lt) (gZ m (m - s) (e - m) xs))
 s4:jp lt e b (cH a ((a+b) / 2) (bB lt) (gZ m (m - s) (e - m) xs))
 cT:cH ((a+b) / 2) b (bB lt) (cH a ((a+b) / 2) (bB lt) (gZ m (m - s) (e - m) xs))=cH a b (bB lt) xs
theorem aap (h:SW lt) {a m b s0 r0:Nat} {xs:List α} (hb:b<=xs.length) (ham:a<m) (hmb:m<b) (h1:jp lt a m xs) (h2:jp lt m b xs)
  (h0:((a+b) / 2<m/\s0=(a+b) / 2+m - b/\r0=(a+b) / 2)\/(m<=(a+b) / 2/\s0=a/\r0=m)) (p:Nat->Bool)
  (hp : ∀k x y,xs[k]? = some x->xs[(a+b) / 2+m - 1 - k]? = some y->p k = !lt y x) :
  apF lt a m b (bs p s0 r0) ((a+b) / 2+m - bs p s0 r0) xs:=by
 obtain⟨t1,t2,t3,t4⟩:=ub p s0 r0 (by omega)
 generalize bs p s0 r0=s at t1 t2 t3 t4
 generalize hd:(a+b) / 2=d at h0 hp t1 t2 t3 t4
 have EZ:2*d<=a+b:=by omega
 have ni:a+b<=2*d+1:=by omega
 generalize he:d+m - s=e
 have q1:a<=s:=by omega
 have q2:s<=m:=by omega
 have q3:m<=e:=by omega
 have q4:e<=b:=by omega
 have q5:s<=d:=by omega
 have q6:d<=e:=by omega
 have q7:e+s=d+m:=by omega
 obtain⟨P,AB,Q,rfl,e1,e2⟩:=yg xs (show a<=b by omega) hb
 obtain⟨A,B,rfl,hA⟩:=m9 AB (show m - a<=AB.length by omega)
 obtain⟨A1,A2,rfl,hA1⟩:=m9 A (show s - a<=A.length by omega)
 obtain⟨B1,B2,rfl,hB1⟩:=m9 B (show e - m<=B.length by rw[ck]at e2;omega)
 simp only[ck]at e2 hA
 have l2:A2.length=m - s:=by omega
 have l4:B2.length=b - e:=by omega
 have hsA:fV lt (A1++A2):=(n6 (b:=m) (Q:=(B1++B2)++Q) e1 (by rw[ck];omega)).1 (by rw[<-cq (A1++A2)];exact h1)
 have hsB:fV lt (B1++B2):=(n6 (a:=m) (b:=b) (P:=P++(A1++A2)) (Q:=Q) (by simp only[ck];omega) (by rw[ck];omega)).1 (by rw[cq P,<-cq (A1++A2)];exact h2)
 obtain⟨pa1,pa2,pa3⟩:=mE.1 hsA
 obtain⟨pb1,pb2,pb3⟩:=mE.1 hsB
 have hLe:Le lt A1 B2:=by
  refine apD h pa1 pb2 ?_
  rcases t3 with t3 | ⟨k,k1,k2,k3⟩
  .rcases h0 with ⟨g1,g2,g3⟩ | ⟨g1,g2,g3⟩
   .exact .inr (.inl (jb.1 (by omega)))
   .exact .inl (jb.1 (by omega))
  .right;right
   have hx:A1[A1.length - 1]? = some A1[A1.length - 1]:=bC (by omega)
   have hy:B2[0]? = some B2[0]:=bC (by omega)
   generalize A1[A1.length - 1]=x at hx
   generalize B2[0]=y at hy
   refine⟨x,y,hx,hy,?_⟩
   have:=hp k x y (by
    rw[kO (by omega),cq,cq,mC (by omega),show k - P.length=A1.length - 1 by omega];exact hx) (by
    rw[show d+m - 1 - k=e by omega,kO (by omega),cq,cq,kO (by omega),kO (by omega),cq,kO (by omega),mC (by omega),show e - P.length - A1.length - A2.length - B1.length=0 by omega];exact hy)
   rw[k3]at this
   simpa using this.symm
 have hLt:Lt lt B1 A2:=by
  refine apE h pb1 pa2 ?_
  rcases t4 with t4 | t4
  .rcases h0 with ⟨g1,g2,g3⟩ | ⟨g1,g2,g3⟩
   .exact .inl (jb.1 (by omega))
   .exact .inr (.inl (jb.1 (by omega)))
  .by_cases hr:s=r0
   .rcases h0 with ⟨g1,g2,g3⟩ | ⟨g1,g2,g3⟩
    .exact .inl (jb.1 (by omega))
    .exact .inr (.inl (jb.1 (by omega)))
   .right;right
    have hx:B1[B1.length - 1]? = some B1[B1.length - 1]:=bC (by omega)
    have hy:A2[0]? = some A2[0]:=bC (by omega)
    generalize B1[B1.length - 1]=x at hx
    generalize A2[0]=y at hy
    refine⟨x,y,hx,hy,?_⟩
    have:=hp s y x (by
     rw[kO (by omega),cq,cq,kO (by omega),mC (by omega),show s - P.length - A1.length=0 by omega];exact hy) (by
     rw[show d+m - 1 - s=e - 1 by omega,kO (by omega),cq,cq,kO (by omega),kO (by omega),cq,mC (by omega),show e - 1 - P.length - A1.length - A2.length=B1.length - 1 by omega];exact hx)
    rw[t4]at this
    simpa using this.symm
 have ex:P++(A1++A2++(B1++B2)++Q)=(P++A1)++(A2++(B1++(B2++Q))):=by simp
 have er:gZ m (m - s) (e - m) (P++(A1++A2++(B1++B2)++Q))=P++(A1++(B1++(A2++(B2++Q)))):=by
  rw[ex,pK (by rw[ck];omega) l2 hB1]
  simp
 have ez:cH a d (bB lt) (P++(A1++(B1++(A2++(B2++Q)))))=P++(bB lt (A1++B1)++(A2++(B2++Q))):=by
  rw[<-cq A1,n5 e1 (by rw[ck];omega)]
 have hln:(bB lt (A1++B1)).length=d - a:=by rw[pI h,ck];omega
 have ey:cH d b (bB lt) (P++(bB lt (A1++B1)++(A2++(B2++Q))))=P++(bB lt (A1++B1)++(bB lt (A2++B2)++Q)):=by
  rw[<-cq A2,<-cq P,n5 (by rw[ck];omega) (by rw[ck];omega),cq]
 refine⟨q1,q2,q3,q4,hd▸q5,hd▸q6,hd▸q7,?_,?_,?_,?_,?_⟩<;>(try rw[hd])<;>rw[er]
 .exact(n6 e1 (by omega)).2 pa1
 .rw[<-cq P]
  exact(n6 (by rw[ck];omega) (by omega)).2 pb1
 .rw[ez,<-cq P]
  exact(n6 (by rw[ck];omega) (by omega)).2 pa2
 .rw[ez,<-cq P,<-cq (P++_)]
  exact(n6 (by simp only[ck];omega) (by omega)).2 pb2
 .rw[ez,ey,n5 e1 (by simp only[ck];omega),<-apr h hsA hsB hLe hLt]
  simp
end K
namespace K
variable {α : Type} {lt : α -> α -> Bool}
def runs (lt:α->α->Bool) (k:Nat) (xs:List α):List α:=
 if h:0<k/\0<xs.length then bB lt (xs.take k)++runs lt k (xs.drop k) else []
termination_by xs.length
decreasing_by rw[fe];omega
theorem pM {k:Nat}:runs lt k []=[]:=by rw[runs];simp
theorem rI {k:Nat} {xs:List α} (hk:0<k) (h:xs.length<=k):runs lt k xs=bB lt xs:=by
 rw[runs]
 by_cases h0:0<xs.length
 .rw[dif_pos ⟨hk,h0⟩,B6 h,List.drop_of_length_le h,pM,gH]
 .rw[dif_neg (fun e=>h0 e.2)]
  have:xs=[]:=jb.1 (by omega)
  subst this;rfl
theorem yi {k:Nat} {M R:List α} (hk:0<k) (h:M.length=k):runs lt k (M++R)=bB lt M++runs lt k R:=by
 subst h
 rw[runs,dif_pos ⟨hk,by rw[ck];omega⟩,nH,sQ]
theorem fq (h:SW lt) {k:Nat} (hk:0<k) (xs:List α):(runs lt k xs).length=xs.length:=by
 rw[runs]
 by_cases h0:0<xs.length
 .have:(xs.drop k).length<xs.length:=by rw[fe];omega
  rw[dif_pos ⟨hk,h0⟩,ck,pI h,fq h hk (xs.drop k),<-ck,nA]
 .rw[dif_neg (fun e=>h0 e.2)]
  simp;omega
termination_by xs.length
theorem Ia {k:Nat} (hk:0<k) (B:List α) (A:List α) (t:Nat) (h:A.length=t*k):runs lt k (A++B)=runs lt k A++runs lt k B:=by
 induction t generalizing A with
 | zero=>
  have:A=[]:=jb.1 (by omega)
  subst this;rw[pM];rfl
 | succ t ih=>
  rw[Nat.succ_mul]at h
  have e:A=A.take k++A.drop k:=(nA ..).symm
  have l1:(A.take k).length=k:=by rw[eY];omega
  have l2:(A.drop k).length=t*k:=by rw[fe];omega
  generalize A.take k=X at e l1
  generalize A.drop k=Y at e l2
  subst e
  rw[cq,yi hk l1,yi hk l1,ih Y l2,cq]
def fY (lt:α->α->Bool) (a:Nat) (H:List α):Nat×List α:=
 if h:a+20<=H.length/\(cH a (a+20) (bB lt) H).length=H.length then fY lt (a+20) (cH a (a+20) (bB lt) H) else (a,H)
termination_by H.length - a
decreasing_by rw[h.2];omega
def fI (lt:α->α->Bool) (k a:Nat) (H:List α):Nat×List α:=
 if h:(0<k/\a+2*k<=H.length)/\(cH a (a+2*k) (bB lt) H).length=H.length then fI lt k (a+2*k) (cH a (a+2*k) (bB lt) H) else (a,H)
termination_by H.length - a
decreasing_by rw[h.2];omega
theorem aaq (h:SW lt) {a:Nat} {H:List α} (ha:a+20<=H.length):fY lt a H=fY lt (a+20) (cH a (a+20) (bB lt) H):=by
 rw[fY,dif_pos ⟨ha,yh h (by omega) ha⟩]
theorem O2 {a:Nat} {H:List α} (ha : ¬a+20<=H.length):fY lt a H=(a,H):=by
 rw[fY,dif_neg (fun e=>ha e.1)]
theorem aar (h:SW lt) {k a:Nat} {H:List α} (hk:0<k) (ha:a+2*k<=H.length):fI lt k a H=fI lt k (a+2*k) (cH a (a+2*k) (bB lt) H):=by
 rw[fI,dif_pos ⟨⟨hk,ha⟩,yh h (by omega) ha⟩]
theorem O3 {k a:Nat} {H:List α} (ha : ¬a+2*k<=H.length):fI lt k a H=(a,H):=by
 rw[fI,dif_neg (fun e=>ha e.1.2)]
def jL (lt:α->α->Bool) (k a:Nat) (H:List α):Prop:=∃A B,H=A++runs lt k B/\A.length=a
theorem jL.at(h:SW lt) {k a:Nat} {H:List α} (hk:0<k) (hr:jL lt k a H) (hb:a+k<H.length) (b:Nat) (hb1:a+k<b) (hb2:b<=a+2*k) (hb3:b<=H.length) (hb4:b=a+2*k\/b=H.length) :
  jp lt a (a+k) H/\jp lt (a+k) b H /\ ∀A M B,H=A++runs lt k (M++B)->A.length=a->a+M.length=b->cH a b (bB lt) H=A++(bB lt M++runs lt k B):=by
 obtain⟨A,B,rfl,hA⟩:=hr
 rw[ck,fq h hk]at hb hb3 hb4
 obtain⟨M1,B1,rfl,h1⟩:=m9 B (show k<=B.length by omega)
 obtain⟨M2,B2,rfl,h2⟩:=m9 B1 (show b - (a+k)<=B1.length by simp only[ck]at hb3;omega)
 simp only[ck]at hb hb3 hb4
 have e:runs lt k (M1++(M2++B2))=bB lt M1++(bB lt M2++runs lt k B2):=by
  rw[yi hk h1]
  congr 1
  rcases hb4 with hb4 | hb4
  .rw[yi hk (by omega)]
  .have:B2=[]:=jb.1 (by omega)
   subst this
   rw[gH,pM,gH,rI hk (by omega)]
 refine⟨?_,?_,fun A' M B' e1 e2 e3=>?_⟩
 .rw[e,n6 hA (by rw[pI h];omega)];exact(lJ h M1).ord
 .rw[e,<-cq A,n6 (by rw[ck,pI h];omega) (by rw[pI h];omega)];exact(lJ h M2).ord
 .have hA':A'=A:=by
   have:=congrArg (List.take a) e1
   rw[List.take_left' hA,List.take_left' e2]at this
   exact this.symm
  subst hA'
  rw[e1]
  have e4 : ∃X,runs lt k (M++B')=X++runs lt k B'/\X.length=M.length/\bB lt X=bB lt M:=by
   obtain⟨N1,N2,rfl,g1⟩:=m9 M (show k<=M.length by omega)
   rw[ck]at e3
   refine⟨bB lt N1++bB lt N2,?_,by simp[pI h],OZ h _ _⟩
   have hl:=congrArg ae e1
   simp only[ck,fq h hk]at hl
   rw[cq,yi hk g1,cq]
   congr 1
   rcases hb4 with hb4 | hb4
   .rw[yi hk (by omega)]
   .have:B'=[]:=jb.1 (by omega)
    subst this
    rw[gH,pM,gH,rI hk (by omega)]
  obtain⟨X,x1,x2,x3⟩:=e4
  rw[x1,n5 e2 (by omega),x3]
theorem aas (h:SW lt) (n:Nat) : ∀(A B:List α) (t:Nat),A.length=t*20->B.length<=n -> ∃A' B',A++B=A'++B'/\B'.length<20/\(∃t',A'.length=t'*20)/\fY lt A.length (runs lt 20 A++B)=(A'.length,runs lt 20 A'++B'):=by
 induction n with
 | zero=>
  intro A B t hA hB
  refine⟨A,B,rfl,by omega,⟨t,hA⟩,O2 ?_⟩
  rw[ck,fq h (by omega)];omega
 | succ n ih=>
  intro A B t hA hB
  by_cases hb:20<=B.length
  .obtain⟨M,R,rfl,hM⟩:=m9 B hb
   rw[ck]at hB
   rw[aaq h (by simp only[ck,fq h (show 0<20 by omega)];omega),n5 (fq h (by omega) A) (by omega)]
   have e:runs lt 20 A++(bB lt M++R)=runs lt 20 (A++M)++R:=by
    rw[Ia (by omega) M A t hA,rI (by omega) (by omega:M.length<=20),cq]
   have:=ih (A++M) R (t+1) (by rw[ck];omega) (by omega)
   rw[cq]at this
   rw[e,show A.length+20=(A++M).length by rw[ck,hM]]
   exact this
  .refine⟨A,B,rfl,by omega,⟨t,hA⟩,O2 ?_⟩
   rw[ck,fq h (by omega)];omega
def yj (lt:α->α->Bool) (xs:List α):List α:=cH (fY lt 0 xs).1 xs.length (bB lt) (fY lt 0 xs).2
theorem apG (h:SW lt) (xs:List α):yj lt xs=runs lt 20 xs:=by
 obtain⟨A,B,e,hB,⟨t,ht⟩,hb⟩:=aas h xs.length [] xs 0 rfl (bR _)
 rw[pM,eh,i6]at hb
 rw[eh]at e
 subst e
 unfold yj
 rw[hb]
 have e2:runs lt 20 A++B=runs lt 20 A++(B++[]):=by simp
 rw[e2,n5 (fq h (by omega) A) (by rw[ck]),gH,Ia (by omega) B A t ht,rI (by omega) (by omega:B.length<=20)]
theorem apH (h:SW lt) (xs:List α):(fY lt 0 xs).1<=xs.length/\(fY lt 0 xs).2.length=xs.length:=by
 obtain⟨A,B,e,hB,⟨t,ht⟩,hb⟩:=aas h xs.length [] xs 0 rfl (bR _)
 rw[pM,eh,i6]at hb
 rw[eh]at e
 subst e
 rw[hb]
 exact⟨by simp only[ck];omega,by simp only[ck,fq h (show 0<20 by omega)]⟩
theorem aat (h:SW lt) {k:Nat} (hk:0<k) (n:Nat) : ∀(A B:List α) (t:Nat),A.length=t*(2*k)->B.length<=n -> ∃A' B',A++B=A'++B'/\B'.length<2*k/\(∃t',A'.length=t'*(2*k))/\fI lt k A.length (runs lt (2*k) A++runs lt k B)=(A'.length,runs lt (2*k) A'++runs lt k B'):=by
 induction n with
 | zero=>
  intro A B t hA hB
  refine⟨A,B,rfl,by omega,⟨t,hA⟩,O3 ?_⟩
  rw[ck,fq h (by omega),fq h hk];omega
 | succ n ih=>
  intro A B t hA hB
  by_cases hb:2*k<=B.length
  .obtain⟨M,R,rfl,hM⟩:=m9 B hb
   rw[ck]at hB
   have hl:(runs lt (2*k) A++runs lt k (M++R)).length=A.length+(M.length+R.length):=by simp only[ck,fq h (show 0<2*k by omega),fq h hk]
   rw[aar h hk (by omega),((jL.at h hk ⟨_,_,rfl,fq h (by omega) A⟩ (by omega) (A.length+2*k) (by omega) (by omega) (by omega) (.inl rfl)).2.2 _ M R rfl (fq h (by omega) A) (by omega))]
   have e:runs lt (2*k) A++(bB lt M++runs lt k R)=runs lt (2*k) (A++M)++runs lt k R:=by
    rw[Ia (by omega) M A t hA,rI (by omega) (by omega:M.length<=2*k),cq]
   have:=ih (A++M) R (t+1) (by rw[ck,Nat.succ_mul];omega) (by omega)
   rw[cq]at this
   rw[e,show A.length+2*k=(A++M).length by rw[ck,hM]]
   exact this
  .refine⟨A,B,rfl,by omega,⟨t,hA⟩,O3 ?_⟩
   rw[ck,fq h (by omega),fq h hk];omega
def gV (lt:α->α->Bool) (k:Nat) (H:List α):List α:=
 bif decide ((fI lt k 0 H).1+k<H.length) then cH (fI lt k 0 H).1 H.length (bB lt) (fI lt k 0 H).2 else (fI lt k 0 H).2
theorem apI (h:SW lt) {k:Nat} (hk:0<k) (xs:List α):gV lt k (runs lt k xs)=runs lt (2*k) xs:=by
 obtain⟨A,B,e,hB,⟨t,ht⟩,hb⟩:=aat h hk xs.length [] xs 0 (by simp) (bR _)
 rw[pM,eh,i6]at hb
 rw[eh]at e
 unfold gV
 rw[hb,fq h hk]
 subst e
 rw[Ia (by omega) B A t ht,rI (by omega) (by omega:B.length<=2*k),ck]
 by_cases hc:A.length+k<A.length+B.length
 .rw[aj hc,ak]
  have hl:(runs lt (2*k) A++runs lt k B).length=A.length+B.length:=by simp only[ck,fq h (show 0<2*k by omega),fq h hk]
  rw[((jL.at h hk ⟨_,_,rfl,fq h (by omega) A⟩ (by omega) (A.length+B.length) (by omega) (by omega) (by omega) (.inr hl.symm)).2.2 _ B [] (by rw[gH]) (fq h (by omega) A) rfl),pM,gH]
 .rw[aH hc,ap,rI hk (by omega)]
theorem O4 (h:SW lt) {k:Nat} (hk:0<k) (xs:List α):(fI lt k 0 (runs lt k xs)).1<=xs.length/\(fI lt k 0 (runs lt k xs)).2.length=xs.length/\jL lt k (fI lt k 0 (runs lt k xs)).1 (fI lt k 0 (runs lt k xs)).2/\xs.length<(fI lt k 0 (runs lt k xs)).1+2*k:=by
 obtain⟨A,B,e,hB,⟨t,ht⟩,hb⟩:=aat h hk xs.length [] xs 0 (by simp) (bR _)
 rw[pM,eh,i6]at hb
 rw[eh]at e
 subst e
 rw[hb]
 refine⟨by rw[ck];omega,by simp only[ck,fq h (show 0<2*k by omega),fq h hk],⟨_,_,rfl,fq h (by omega) A⟩,by rw[ck];omega⟩
theorem apJ (h:SW lt) {k a:Nat} {H:List α} (hk:0<k) (hr:jL lt k a H) (hb:a+2*k<=H.length):jL lt k (a+2*k) (cH a (a+2*k) (bB lt) H):=by
 obtain⟨A,B,e,hA⟩:=hr
 have hl:=congrArg ae e
 rw[ck,fq h hk]at hl
 obtain⟨M,R,rfl,hM⟩:=m9 B (show 2*k<=B.length by omega)
 rw[(jL.at h hk ⟨A,_,e,hA⟩ (by omega) (a+2*k) (by omega) (by omega) hb (.inl rfl)).2.2 A M R e hA (by omega),<-cq]
 exact⟨_,_,rfl,by rw[ck,pI h];omega⟩
end K
namespace K
variable {α : Type} {lt : α -> α -> Bool}
theorem Dq (h:SW lt) {k:Nat} (hk:0<k) (xs:List α):bB lt (runs lt k xs)=bB lt xs:=by
 rw[runs]
 by_cases h0:0<xs.length
 .have:(xs.drop k).length<xs.length:=by rw[fe];omega
  rw[dif_pos ⟨hk,h0⟩,<-OZ h,OY h (lJ h _).ord,Dq h hk (xs.drop k),OZ h,nA]
 .rw[dif_neg (fun e=>h0 e.2)]
  have:xs=[]:=jb.1 (by omega)
  subst this;rfl
termination_by xs.length
def j7 (lt:α->α->Bool) (k:Nat) (H:List α):Prop:=∃xs,H=runs lt k xs
theorem j7.start (h:SW lt) (xs:List α):j7 lt 20 (yj lt xs)/\bB lt (yj lt xs)=bB lt xs/\(yj lt xs).length=xs.length:=by
 rw[apG h]
 exact⟨⟨xs,rfl⟩,Dq h (by omega) xs,fq h (by omega) xs⟩
theorem j7.next (h:SW lt) {k:Nat} (hk:0<k) {H:List α} (hr:j7 lt k H):j7 lt (2*k) (gV lt k H)/\bB lt (gV lt k H)=bB lt H/\(gV lt k H).length=H.length:=by
 obtain⟨xs,rfl⟩:=hr
 rw[apI h hk]
 exact⟨⟨xs,rfl⟩,by rw[Dq h (by omega),Dq h hk],by rw[fq h (by omega),fq h hk]⟩
theorem j7.done (h:SW lt) {k:Nat} (hk:0<k) {H:List α} (hr:j7 lt k H) (hl:H.length<=k):bB lt H=H:=by
 obtain⟨xs,rfl⟩:=hr
 rw[fq h hk]at hl
 rw[Dq h hk,rI hk hl]
theorem j7.apK {k:Nat} {H:List α} (hr:j7 lt k H):jL lt k 0 H:=by
 obtain⟨xs,e⟩:=hr
 exact⟨[],xs,e,rfl⟩
theorem jL.aau (h:SW lt) {k a b:Nat} {H:List α} (hk:0<k) (hr:jL lt k a H) (hb:a+k<b) (hb2:b=a+2*k\/b=H.length) (hb3:b<=H.length) (hb4:b<=a+2*k):jp lt a (a+k) H/\jp lt (a+k) b H:=by
 have:=jL.at h hk hr (by omega) b hb hb4 hb3 hb2
 exact⟨this.1,this.2.1⟩
theorem j7.O4 (h:SW lt) {k:Nat} (hk:0<k) {H:List α} (hr:j7 lt k H):(fI lt k 0 H).1<=H.length/\(fI lt k 0 H).2.length=H.length/\jL lt k (fI lt k 0 H).1 (fI lt k 0 H).2/\H.length<(fI lt k 0 H).1+2*k:=by
 obtain⟨xs,rfl⟩:=hr
 have:=K.O4 h hk xs
 rw[fq h hk]
 exact this
end K
end Go.Proofs.YtaobkfpnebbohaaGreatDoor
namespace Go.Proofs.YtaobkfpnebbohaaGreatDoor
open Go Go.RowKit
set_option linter.unusedVariables false
set_option linter.unusedSimpArgs false
set_option maxHeartbeats 1000000
def kj (a b:ay):Int:=bif iR a b then -1 else bif iR b a then 1 else 0
def aV (a b:ay):Bool:=decide (kj a b<0)
theorem agi (a b:ay):aV a b=iR a b:=by
 unfold aV kj
 cases iR a b<;>cases iR b a<;>rfl
theorem KA {a b:ay}:iR a b=true↔a.fr<b.fr\/(a.fr=b.fr/\a.tqq<b.tqq):=by
 simp[iR,F.lt]
theorem gC:K.SW aV:=by
 refine⟨fun a b h=>?_,fun a b c h1 h2=>?_⟩
 .rw[agi]at h ⊢
  cases h2:iR b a
  .rfl
  .rw[KA]at h h2;omega
 .rw[agi]at h1 h2 ⊢
  cases h3:iR c a
  .rfl
  .have n1 : ¬(b.fr<a.fr\/(b.fr=a.fr/\b.tqq<a.tqq)):=fun e=>by rw[KA.2 e]at h1;cases h1
   have n2 : ¬(c.fr<b.fr\/(c.fr=b.fr/\c.tqq<b.tqq)):=fun e=>by rw[KA.2 e]at h2;cases h2
   rw[KA]at h3;omega
namespace M
def O5:Env:=bq ty au bp [NT] [] [] []
theorem apL:aZ Tryz.prog O5:=bG (aI YS bF)
section
variable (a b:ay)
theorem apM:(aB O5 false f67 [.agg (aq a), .agg (aq b)]).val =
 ai (ac pF [AV.agg [(vI a.fr),(vI a.tqq),AV.sl (ab aC a.lines),(vI a.row),(vB a.cZ),(vB a.dl)],AV.agg [(vI b.fr),(vI b.tqq),AV.sl (ab
 aC b.lines),(vI b.row),(vB b.cZ),(vB b.dl)]]) fun z=>bif iR z.1 z.2 then some ((vI (-1:Int)),[]) else ai (ac pF [AV.agg
 [(vI b.fr),(vI b.tqq),AV.sl (ab aC b.lines),(vI b.row),(vB b.cZ),(vB b.dl)],AV.agg [(vI a.fr),(vI a.tqq),AV.sl (ab aC a.lines),(vI a.row),(vB
 a.cZ),(vB a.dl)]]) fun z=>bif iR z.1 z.2 then some ((vI 1),[]) else some ((vI 0),[]):=by kernel_rfl
def Ib:List AV:=[.agg (aq a), .agg (aq b)]
def pN (a:ay×ay):List AV:=Ib a.1 a.2
theorem apN a a' (h:pN a=pN a'):a=a':=by
 simp only[pN,Ib]at h
 try simp[MO]at h
 grind
theorem pO (a_fr:Int) (a_to:Int) (a_lines:List ByteArray) (a_row:Int) (a_bef:Bool) (a_aft:Bool) (b_fr:Int) (b_to:Int) (b_lines:List ByteArray) (b_row:Int) (b_bef:Bool) (b_aft:Bool):ac pN ([AV.agg [(vI a_fr),(vI a_to),AV.sl (ab aC a_lines),(vI a_row),(vB a_bef),(vB a_aft)],AV.agg [(vI b_fr),(vI b_to),AV.sl (ab aC b_lines),(vI b_row),
 (vB b_bef),(vB b_aft)]])=some ((ay.mk a_fr a_to a_lines a_row a_bef a_aft),(ay.mk b_fr b_to b_lines b_row b_bef b_aft)):=ax apN ((ay.mk a_fr a_to a_lines a_row a_bef a_aft),(ay.mk b_fr b_to b_lines b_row b_bef b_aft)) rfl
def O6:AV×Heap:=(vI (kj a b),[])
end
def apO (a:ay) (b:ay):Bool:=true
def O7:aW:=aY 67 true pN (aT apO) (aT O6)
theorem aav:aX Tryz.prog au O7:=by
 refine cx f67 apL ?_
 rintro⟨a,b⟩ hpre hok
 show(aB O5 false _ (Ib _ _)).val=some (O6 _ _)
 unfold Ib O6
 rw[apM]
 simp only[NR,jg,ar,kj]
 cases iR a b<;>cases iR b a<;>rfl
end M
end Go.Proofs.YtaobkfpnebbohaaGreatDoor
namespace Go.Proofs.YtaobkfpnebbohaaGreatDoor
open Go Go.RowKit Go.Lib
set_option linter.unusedVariables false
set_option linter.unusedSimpArgs false
set_option maxHeartbeats 4000000
set_option maxRecDepth 100000
namespace K
end K
namespace K
end K
end Go.Proofs.YtaobkfpnebbohaaGreatDoor
namespace Go.Proofs.YtaobkfpnebbohaaGreatDoor
open Go Go.RowKit
set_option linter.unusedVariables false
set_option linter.unusedSimpArgs false
set_option maxHeartbeats 1000000
namespace K
end K
namespace M
end M
namespace M
end M
namespace K
variable {α : Type} {lt : α -> α -> Bool}
end K
namespace M
end M
namespace K
variable {α : Type} {lt : α -> α -> Bool}
theorem apP {a j:Nat} {xs:List α} {x y:α} (hx:xs[j+1]? = some x) (hy:xs[j]? = some y) (ha:a<j+1) (hc:lt x y=true):sink lt a (j+1) xs=sink lt a j (jK xs (j+1) j):=by
 rw[sink,hx,hy]
 simp only[aj ha,hc,aS,ak]
theorem aaw {a j:Nat} {xs:List α} {x y:α} (hx:xs[j+1]? = some x) (hy:xs[j]? = some y) (hc : ¬a<j+1\/lt x y=false):sink lt a (j+1) xs=xs:=by
 rw[sink,hx,hy]
 rcases hc with hc | hc
 .simp only[aH hc,qD,ap]
 .simp only[hc,Bool.and_false,ap]
def fJ (m i j:Nat) (xs:List α):Nat×List α:=
 if h:i=0\/j=0\/i=j then (i,xs) else if j<i then fJ m (i - j) j (gk (m - i) m j xs) else fJ m i (j - i) (gk (m - i) (m+j - i) i xs)
termination_by i+j
theorem apQ (n:Nat) : ∀(i j m:Nat) (xs:List α),i+j<=n->0<i->0<j->i<=m->m+j<=xs.length ->
  0<(fJ m i j xs).1/\(fJ m i j xs).1<=m/\m+(fJ m i j xs).1<=xs.length/\(fJ m i j xs).2.length=xs.length/\gk (m - (fJ m i j xs).1) m (fJ m i j xs).1 (fJ m i j xs).2=gZ m i j xs:=by
 induction n with
 | zero=>intro i j m xs h h1;omega
 | succ n ih=>
  intro i j m xs h h1 h2 h3 h4
  rw[fJ]
  by_cases e:i=j
  .subst e
   rw[dif_pos (.inr (.inr rfl))]
   exact⟨h1,h3,h4,rfl,apu h3 h4⟩
  .rw[dif_neg (by omega)]
   by_cases e2:j<i
   .rw[if_pos e2]
    have:=ih (i - j) j m (gk (m - i) m j xs) (by omega) (by omega) h2 (by omega) (by rw[pJ];exact h4)
    rw[pJ,aps h3 h4 e2]at this
    exact this
   .rw[if_neg e2]
    have:=ih i (j - i) m (gk (m - i) (m+j - i) i xs) (by omega) h1 (by omega) h3 (by rw[pJ];omega)
    rw[pJ,apt h3 h4 (by omega)]at this
    exact this
theorem apR {m i j:Nat} {xs:List α} (h:j<i) (hj:0<j):fJ m i j xs=fJ m (i - j) j (gk (m - i) m j xs):=by
 rw[fJ,dif_neg (by omega),if_pos h]
theorem apS {m i j:Nat} {xs:List α} (h:i<j) (hi:0<i):fJ m i j xs=fJ m i (j - i) (gk (m - i) (m+j - i) i xs):=by
 rw[fJ,dif_neg (by omega),if_neg (by omega)]
theorem apT {m i:Nat} {xs:List α}:fJ m i i xs=(i,xs):=by
 rw[fJ,dif_pos (.inr (.inr rfl))]
theorem O8 {p:Nat->Bool} {i j:Nat} (h:i<j) (hp:p ((i+j) / 2)=true):bs p i j=bs p ((i+j) / 2+1) j:=by rw[bs,if_pos h,hp,ak]
theorem O9 {p:Nat->Bool} {i j:Nat} (h:i<j) (hp:p ((i+j) / 2)=false):bs p i j=bs p i ((i+j) / 2):=by rw[bs,if_pos h,hp,ap]
theorem Pb {p:Nat->Bool} {i j:Nat} (h : ¬i<j):bs p i j=i:=by rw[bs,if_neg h]
open Classical in
def cN (lt:α->α->Bool) (a b:Nat) (xs:List α):Bool:=decide (jp lt a b xs)
open Classical in
def Dr (lt:α->α->Bool) (k a:Nat) (xs:List α):Bool:=decide (jL lt k a xs)
open Classical in
def Ds (lt:α->α->Bool) (k:Nat) (xs:List α):Bool:=decide (j7 lt k xs)
end K
namespace M
theorem iC {α:Type} {xs:List α} {k:Nat} (h:k<xs.length) : ∃y,xs[k]? = some y:=⟨_,bC h⟩
theorem pP {a b:Nat} (h:a+b<=9223372036854775807):am.wrap ((a:Int)+(b:Int))=((a+b:Nat):Int):=by rw[cA (by omega) (by omega)];omega
theorem mi {a b:Nat} (h:b<=a) (h2:a<=9223372036854775807):am.wrap ((a:Int) - (b:Int))=((a - b:Nat):Int):=by rw[cA (by omega) (by omega)];omega
theorem Ic {a:Nat} (h:1<=a) (h2:a<=9223372036854775807):am.wrap ((a:Int) - 1)=((a - 1:Nat):Int):=by rw[cA (by omega) (by omega)];omega
theorem rJ {a:Nat} (h2:a<9223372036854775807):am.wrap ((a:Int)+1)=((a+1:Nat):Int):=by rw[cA (by omega) (by omega)];omega
theorem n7 (n:Nat):idx (n:Int)=some n:=rfl
theorem g7 {a b:Nat}:decide ((a:Int)<(b:Int))=decide (a<b):=by by_cases h:a<b<;>simp[h]
theorem Ie {a b:Nat}:decide ((a:Int)<=(b:Int))=decide (a<=b):=by by_cases h:a<=b<;>simp[h]
section
variable (xs:List ay) (a b n i:Nat)
def yk:St:=⟨[(10,vI i),(3,vI n),(2,vI b),(1,vI a),(0, .own 900)],[(900,⟨false,129,6,xs.map aq⟩)]⟩
def yl (a:(List ay)×Nat×Nat×Nat×Nat):St:=yk a.1 a.2.1 a.2.2.1 a.2.2.2.1 a.2.2.2.2
theorem apU a a' (h:yl a=yl a'):a=a':=by
 simp only[yl,yk]at h
 try simp[dT]at h
 grind
theorem apV: ac yl (St.mk [(10,(vI (0:Int))),(3,(vI (↑n:Int))),(2,(vI (↑b:Int))),(1,(vI (↑a:Int))),(0, .own 900)] [(900,ah.mk false 129 6 (ab aq xs))])=some (xs,a,b,n,0):=ax apU (xs,a,b,n,0) rfl
def If:T (Ex×St):= .ret (.exit 0,⟨[],[(900,⟨false,129,6,(K.gk (a+i) (b+i) (n - i) xs).map aq⟩)]⟩)
def Pc:Bool:=decide (a+n<=xs.length/\b+n<=xs.length/\xs.length<=100000/\i<=n)
def apW:Nat×(St->T (Ex×St)):=(1,lpo [10,3,2,1,0] [900] yl (fa Pc) (fa If))
def Dt:Env:=bq ty au bp [] [] [] [apW]
theorem apX:aZ Tryz.prog Dt:=bG bF
theorem aax:((exec Dt (aw f202 0) (yk xs a b n i)).bind (bE ([10,3,2,1,0],[900]) ([],[900]) ([],[]))).val =
 (fun(q:ay)=>(fun(q_1:Nat)=>bif decide ((↑i:Int)<(↑n:Int)) then ai (idx (am.wrap ((↑b:Int)+(↑i:Int)))) fun z=>bif
 decide (z<q_1) then ai (ac (ab aq) (ab aq xs)) fun z_1=>(fun(q_2:List AV)=>bif decide (z<ae z_1) then
 ai (idx (am.wrap ((↑a:Int)+(↑i:Int)))) fun z=>bif decide (z<q_1) then ai (ac (ab aq) (ab aq xs))
 fun z_2=>bif decide (z<ae z_2) then ai (idx (am.wrap ((↑a:Int)+(↑i:Int)))) fun z_3=>(fun(q_3:List
 Row)=>bif decide (z_3<q_1) then ai (ac (ab aq) (ab aq xs)) fun z_4=>bif decide (z_3<ae z_4) then ai (idx
 (am.wrap ((↑b:Int)+(↑i:Int)))) fun z_5=>bif decide (z_5<ae (ah.mk false 129 6 q_3).rows) then ai (ac (ab
 aq) q_3) fun z_6=>bif decide (z_5<ae z_6) then some (Ex.normal,St.mk [(10,(vI (am.wrap ((↑i:Int)+1)))),(3,(vI
 (↑n:Int))),(2,(vI (↑b:Int))),(1,(vI (↑a:Int))),(0, .own 900)] [(900,ah.mk false 129 6 (sR q_3 z_5 [(vI (al z_2 z q).fr),(vI (al z_2 z
 q).tqq),AV.sl (ab aC (al z_2 z q).lines),(vI (al z_2 z q).row),(vB (al z_2 z q).cZ),(vB (al z_2 z q).dl)]))]) else none else none
 else none else none) (sR (ab aq xs) z_3 q_2) else none else none else none) [(vI (al z_1 z q).fr),(vI (al z_1 z q).tqq),AV.sl (ab aC
 (al z_1 z q).lines),(vI (al z_1 z q).row),(vB (al z_1 z q).cZ),(vB (al z_1 z q).dl)] else none else some (Ex.exit (0:Nat),St.mk []
 [(900,ah.mk false 129 6 (ab aq xs))])) (ae (ah.mk false 129 6 (ab aq xs)).rows)) (ay.mk (0:Int) (0:Int) [] (0:Int) false false):=(cr _ _ _).symm.trans (by kernel_rfl)
theorem apY (xs:List ay) (a:Nat) (b:Nat) (n:Nat) (i:Nat) (hp:Pc xs a b n i=true) : ∀ex s',(If xs a b n i).val=some (ex,s')->ba Dt (aw f202 0) (yk xs a b n i) ex s':=by
 simp only[Pc,aM]at hp
 obtain⟨h1,h2,h3,h4⟩:=hp
 refine cE (st:=fun s:List ay×Nat=>yk s.1 a b n s.2) (out:=fun s=>If s.1 a b n s.2) (I:=fun s=>a+n<=s.1.length/\b+n<=s.1.length/\s.1.length<=100000/\s.2<=n) (n:=([10,3,2,1,0],[900])) (e:=([],[900])) (r:=([],[])) (fun s=>n - s.2) ?_ (xs,i) ⟨h1,h2,h3,h4⟩
 rintro⟨xs,i⟩ ⟨h1,h2,h3,h4⟩
 simp only at h1 h2 h3 h4
 by_cases hlt:i<n
 .right
  obtain⟨x,hx⟩:=iC (show a+i<xs.length by omega)
  obtain⟨y,hy⟩:=iC (show b+i<xs.length by omega)
  refine⟨(K.jK xs (a+i) (b+i),i+1),?_,rfl,⟨by simp only[K.nZ];exact h1,by simp only[K.nZ];exact h2,by simp only[K.nZ];exact h3,hlt⟩,by simp only;omega,?_⟩
  .rw[aax]
   simp only[jg,ar,aN,iM,ak,bA hlt,pP (show a+i<=9223372036854775807 by omega),pP (show b+i<=9223372036854775807 by omega),n7,aj (cy hx),aj (cy hy),getD_at hx,getD_at hy,rJ (show i<9223372036854775807 by omega),GN,FL,K.Dp hx hy,yk]
  .simp only[If];rw[show n - i=(n - (i+1))+1 by omega,K.gk];rfl
 .have:i=n:=by omega
  subst this
  left
  refine⟨_,?_,rfl,by simp,rfl⟩
  rw[aax]
  simp[K.gk]
theorem apZ:(eu Dt [] f202 [.own 900,vI a,vI b,vI n, .fn 67 []] [(900,⟨false,129,6,xs.map aq⟩)]).val =
 ai (ac yl (St.mk [(10,(vI 0)),(3,(vI (↑n:Int))),(2,(vI (↑b:Int))),(1,(vI (↑a:Int))),(0, .own 900)] [(900,ah.mk false 129 6
 (ab aq xs))])) fun z=>bif decide (z.2.1+z.2.2.2.1<=ae z.1/\z.2.2.1+z.2.2.2.1 <=
 ae z.1/\ae z.1<=100000/\z.2.2.2.2<=z.2.2.2.1)&&true then some (AV.aF [],[(900,ah.mk false 129 6 (ab aq
 (K.gk (z.2.1+z.2.2.2.2) (z.2.2.1+z.2.2.2.2) (z.2.2.2.1 - z.2.2.2.2) z.1)))],[]) else none:=(lD).symm.trans (by kernel_rfl)
def Du:List AV×Heap:=([.own 900,vI a,vI b,vI n, .fn 67 []],[(900,⟨false,129,6,xs.map aq⟩)])
def rK (a:(List ay)×Nat×Nat×Nat):List AV×Heap:=Du a.1 a.2.1 a.2.2.1 a.2.2.2
theorem ap0 a a' (h:rK a=rK a'):a=a':=by
 simp only[rK,Du]at h
 try simp[dT]at h
 grind
theorem Pd:ac rK (([.own 900,(vI (↑a:Int)),(vI (↑b:Int)),(vI (↑n:Int)),AV.fn (67:FuncId) []],[(900,ah.mk false 129 6 (ab aq xs))]))=some (xs,a,b,n):=ax ap0 (xs,a,b,n) rfl
def Pe:AV×Heap×List Nat:=(.aF [],[(900,⟨false,129,6,(K.gk a b n xs).map aq⟩)],[])
def aay:Bool:=decide (a+n<=xs.length/\b+n<=xs.length/\xs.length<=100000)
def aaz:fT:=jI 202 rK (fun a=>aay a.1 a.2.1 a.2.2.1 a.2.2.2) fun a=>Pe a.1 a.2.1 a.2.2.1 a.2.2.2
theorem ap1:fX Tryz.prog au aaz:=by
 refine mX (mv:=[]) f202 (by kernel_rfl) (by kernel_rfl) apX mixed (de (x0:=aw f202 0) (by kernel_rfl) (bS ?_)) ?_
 .rintro⟨xs,a,b,n,i⟩ hp
  exact apY xs a b n i hp
 rintro⟨xs,a,b,n⟩ hpre hok hokh
 show(eu Dt [] _ (Du _ _ _ _).1 (Du _ _ _ _).2).val=some (Pe _ _ _ _)
 unfold Du Pe
 rw[apZ]
 simp only[aay,aM]at hpre
 obtain⟨h1,h2,h3⟩:=hpre
 simp only[apV,ar,ak,aS,h1,h2,h3,cf,and_self,decide_true,jP,Nat.sub_zero]
def ym (j:Nat):St:=⟨[(9,vI j),(8,vI i),(3, .fn 67 []),(2,vI b),(1,vI a),(0, .own 900)],[(900,⟨false,129,6,xs.map aq⟩)]⟩
def yn (a:(List ay)×Nat×Nat×Nat×Nat):St:=ym a.1 a.2.1 a.2.2.1 a.2.2.2.1 a.2.2.2.2
theorem ap2 a a' (h:yn a=yn a'):a=a':=by
 simp only[yn,ym]at h
 try simp[dT]at h
 grind
theorem ap3 (j:Nat):ac yn (St.mk [(9,(vI (↑j:Int))),(8,(vI (↑i:Int))),(3,AV.fn (67:FuncId) []),(2,(vI (↑b:Int))),(1,(vI (↑a:Int))),(0, .own 900)] [(900,ah.mk false 129 6
 (ab aq xs))])=some (xs,a,b,i,j):=ax ap2 (xs,a,b,i,j) rfl
def Ig (j:Nat):T (Ex×St):= .ret (.exit 2,⟨[(8,vI i),(3, .fn 67 []),(2,vI b),(1,vI a),(0, .own 900)],[(900,⟨false,129,6,(K.sink aV a j xs).map aq⟩)]⟩)
def Pf (a:Nat) (b:Nat) (i:Nat) (j:Nat):Bool:=decide (j<xs.length/\xs.length<=100000)
def ap4:Nat×(St->T (Ex×St)):=(4,lpo [9,8,3,2,1,0] [900] yn (fa Pf) (fa Ig))
def yo:St:=⟨[(8,vI i),(3, .fn 67 []),(2,vI b),(1,vI a),(0, .own 900)],[(900,⟨false,129,6,xs.map aq⟩)]⟩
def yp (a:(List ay)×Nat×Nat×Nat):St:=yo a.1 a.2.1 a.2.2.1 a.2.2.2
theorem ap5 a a' (h:yp a=yp a'):a=a':=by
 simp only[yp,yo]at h
 try simp[dT]at h
 grind
theorem ap6:ac yp (St.mk [(8,(vI (↑i:Int))),(3,AV.fn (67:FuncId) []),(2,(vI (↑b:Int))),(1,(vI (↑a:Int))),(0, .own 900)] [(900,ah.mk false 129 6 (ab aq xs))])=some (xs,a,b,i):=ax ap5 (xs,a,b,i) rfl
def Ih:T (Ex×St):= .ret (.exit 0,⟨[],[(900,⟨false,129,6,(K.pL aV a (b - i) i xs).map aq⟩)]⟩)
def Pg (a:Nat) (b:Nat) (i:Nat):Bool:=decide (b<=xs.length/\xs.length<=100000)
def ap7:Nat×(St->T (Ex×St)):=(1,lpo [8,3,2,1,0] [900] yp (cD Pg) (cD Ih))
def uc:Env:=bq ty au bp [O7] [] [] [ap7,ap4]
theorem ap8:aZ Tryz.prog uc:=bG (aI aav bF)
theorem Ii (j:Nat):((exec uc (aw Tryz.f144 1) (ym xs a b i j)).bind (bE ([9,8,3,2,1,0],[900]) ([8,3,2,1,0],[900]) ([],[]))).val =
 (fun(q:Option (List ay))=>(fun(q_1:ay)=>(fun(q_2:Option Nat)=>(fun(q_3:Nat)=>(fun(q_4:Bool)=>(fun(q_5:List (Nat×AV))=>(fun(q_6:Option
 (Ex×St))=>bif decide ((↑a:Int)<(↑j:Int)) then bif q_4 then ai q fun z=>bif decide (j<ae z) then ai q_2 fun(z_1 :
 Nat)=>bif decide (z_1<q_3) then ai q fun z_2=>bif decide (z_1<ae z_2) then ai (ac pN [AV.agg [(vI (al z j
 q_1).fr),(vI (al z j q_1).tqq),AV.sl (ab aC (al z j q_1).lines),(vI (al z j q_1).row),(vB (al z j q_1).cZ),(vB (al z j
 q_1).dl)],AV.agg [(vI (al z_2 z_1 q_1).fr),(vI (al z_2 z_1 q_1).tqq),AV.sl (ab aC (al z_2 z_1 q_1).lines),(vI (al z_2 z_1
 q_1).row),(vB (al z_2 z_1 q_1).cZ),(vB (al z_2 z_1 q_1).dl)]]) fun z=>bif decide (kj z.1 z.2<0) then ai q_2
 fun z=>bif decide (z<q_3) then ai q fun z_3=>(fun(q_7:List Row)=>bif decide (z<ae z_3) then bif q_4 then ai q
 fun z=>bif decide (j<ae z) then bif q_4 then ai q fun z_4=>bif decide (j<ae z_4) then ai q_2 fun(z_5
 : Nat)=>bif decide (z_5<ae (ah.mk false 129 6 q_7).rows) then ai (ac (ab aq) q_7) fun z_6=>bif decide (z_5<ae
 z_6) then some (Ex.normal,St.mk ((9,(vI (am.wrap ((↑j:Int) - (1:Int)))))::q_5) [(900,ah.mk false 129 6 (sR q_7 z_5 [(vI (al z j
 q_1).fr),(vI (al z j q_1).tqq),AV.sl (ab aC (al z j q_1).lines),(vI (al z j q_1).row),(vB (al z j q_1).cZ),(vB (al z j
 q_1).dl)]))]) else none else none else none else none else none else none else none) (sR (ab aq xs) j [(vI (al z_3 z q_1).fr),(vI (al z_3 z
 q_1).tqq),AV.sl (ab aC (al z_3 z q_1).lines),(vI (al z_3 z q_1).row),(vB (al z_3 z q_1).cZ),(vB (al z_3 z q_1).dl)]) else none
 else q_6 else none else none else none else none else q_6) (some (Ex.exit (2:Nat),St.mk q_5 [(900,ah.mk false 129 6 (ab aq xs))]))) [(8,(vI (↑i:Int))),(3,
 AV.fn (67:FuncId) []),(2,(vI (↑b:Int))),(1,(vI (↑a:Int))),(0, .own 900)]) (decide (j<q_3))) (ae (ah.mk false 129 6 (ab aq xs)).rows)) (idx
 (am.wrap ((↑j:Int) - (1:Int))))) (ay.mk (0:Int) (0:Int) [] (0:Int) false false)) (ac (ab aq) (ab aq xs)):=(cr _ _ _).symm.trans (by kernel_rfl)
theorem ap9 (j:Nat) (hp:Pf xs a b i j=true) : ∀ex s',(Ig xs a b i j).val=some (ex,s')->ba uc (aw Tryz.f144 1) (ym xs a b i j) ex s':=by
 simp only[Pf,aM]at hp
 obtain⟨h1,h2⟩:=hp
 refine cE (st:=fun s:List ay×Nat=>ym s.1 a b i s.2) (out:=fun s=>Ig s.1 a b i s.2) (I:=fun s=>s.2<s.1.length/\s.1.length<=100000) (n:=([9,8,3,2,1,0],[900])) (e:=([8,3,2,1,0],[900])) (r:=([],[])) (fun s=>s.2) ?_ (xs,j) ⟨h1,h2⟩
 rintro⟨xs,j⟩ ⟨h1,h2⟩
 simp only at h1 h2
 cases j with
 | zero=>
  left
  refine⟨_,?_,rfl,by simp,rfl⟩
  rw[Ii]
  have:decide ((a:Int)<((0:Nat):Int))=false:=aH (by omega)
  simp only[this,ap,K.sink]
 | succ j=>
  obtain⟨x,hx⟩:=iC (show j+1<xs.length by omega)
  obtain⟨y,hy⟩:=iC (show j<xs.length by omega)
  have hw:am.wrap (((j+1:Nat):Int) - 1)=((j:Nat):Int):=by rw[cA (by omega) (by omega)];omega
  by_cases ha:a<j+1
  .cases hc:aV x y
   .left
    refine⟨_,?_,rfl,by simp,rfl⟩
    rw[Ii]
    have hc2:decide (kj x y<0)=false:=hc
    simp only[pO,jg,ar,aN,iM,ak,ap,g7,aj ha,hw,n7,aj (cy hx),aj (cy hy),getD_at hx,getD_at hy,hc2,K.aaw hx hy (.inr hc)]
   .right
    refine⟨(K.jK xs (j+1) j,j),?_,rfl,⟨by simp only[K.nZ];omega,by simp only[K.nZ];exact h2⟩,by simp only;omega,?_⟩
    .rw[Ii]
     have hc2:decide (kj x y<0)=true:=hc
     simp only[pO,jg,ar,aN,iM,ak,g7,aj ha,hw,n7,aj (cy hx),aj (cy hy),getD_at hx,getD_at hy,hc2,GN,FL,K.Dp hx hy,ym]
    .simp only[Ig];rw[K.apP hx hy ha hc]
  .left
   refine⟨_,?_,rfl,by simp,rfl⟩
   rw[Ii]
   simp only[pO,jg,ar,aN,iM,ap,g7,aH ha,K.aaw hx hy (.inl ha)]
theorem aaA:((exec uc (aw Tryz.f144 0) (yo xs a b i)).bind (bE ([8,3,2,1,0],[900]) ([],[900]) ([],[]))).val =
 bif decide ((↑i:Int)<(↑b:Int)) then ai (ac yn (St.mk [(9,(vI (↑i:Int))),(8,(vI (↑i:Int))),(3,AV.fn (67:FuncId) []),(2,(vI (↑b:Int))),
 (1,(vI (↑a:Int))),(0, .own 900)] [(900,ah.mk false 129 6 (ab aq xs))])) fun z=>bif decide (z.2.2.2.2 <
 ae z.1/\ae z.1<=100000)&&true then some (Ex.normal,St.mk [(8,(vI (am.wrap ((↑z.2.2.2.1:Int)+1)))),
 (3,AV.fn (67:FuncId) []),(2,(vI (↑z.2.2.1:Int))),(1,(vI (↑z.2.1:Int))),(0, .own 900)] [(900,ah.mk false 129 6 (ab aq (K.sink aV
 z.2.1 z.2.2.2.2 z.1)))]) else none else some (Ex.exit (0:Nat),St.mk [] [(900,ah.mk false 129 6 (ab aq xs))]):=(cr _ _ _).symm.trans (by kernel_rfl)
theorem aqa (hp:Pg xs a b i=true) : ∀ex s',(Ih xs a b i).val=some (ex,s')->ba uc (aw Tryz.f144 0) (yo xs a b i) ex s':=by
 simp only[Pg,aM]at hp
 obtain⟨h1,h2⟩:=hp
 refine cE (st:=fun s:List ay×Nat=>yo s.1 a b s.2) (out:=fun s=>Ih s.1 a b s.2) (I:=fun s=>b<=s.1.length/\s.1.length<=100000) (n:=([8,3,2,1,0],[900])) (e:=([],[900])) (r:=([],[])) (fun s=>b - s.2) ?_ (xs,i) ⟨h1,h2⟩
 rintro⟨xs,i⟩ ⟨h1,h2⟩
 simp only at h1 h2
 by_cases hlt:i<b
 .right
  refine⟨(K.sink aV a i xs,i+1),?_,rfl,⟨by simp only[K.O0];exact h1,by simp only[K.O0];exact h2⟩,by simp only;omega,?_⟩
  .rw[aaA]
   have hq:i<xs.length/\xs.length<=100000:=⟨by omega,h2⟩
   simp only[ap3,ar,ak,aS,bA hlt,hq,and_self,decide_true,rJ (show i<9223372036854775807 by omega),yo]
  .simp only[Ih];rw[show b - i=(b - (i+1))+1 by omega,K.pL]
 .left
  refine⟨_,?_,rfl,by simp,rfl⟩
  rw[aaA]
  simp only[g7,aH hlt,ap,show b - i=0 by omega,K.pL]
theorem aqb:(eu uc [] Tryz.f144 [.own 900,vI a,vI b, .fn 67 []] [(900,⟨false,129,6,xs.map aq⟩)]).val =
 ai (ac yp (St.mk [(8,(vI (am.wrap ((↑a:Int)+1)))),(3,AV.fn (67:FuncId) []),(2,(vI (↑b:Int))),(1,(vI (↑a:Int))),
 (0, .own 900)] [(900,ah.mk false 129 6 (ab aq xs))])) fun z=>bif decide (z.2.2.1<=ae z.1/\ae z.1 <=
 (100000:Nat))&&true then some (AV.aF [],[(900,ah.mk false 129 6 (ab aq (K.pL aV z.2.1 (z.2.2.1 - z.2.2.2) z.2.2.2 z.1)))],
 []) else none:=(lD).symm.trans (by kernel_rfl)
def Dv:List AV×Heap:=([.own 900,vI a,vI b, .fn 67 []],[(900,⟨false,129,6,xs.map aq⟩)])
def ud (a:(List ay)×Nat×Nat):List AV×Heap:=Dv a.1 a.2.1 a.2.2
theorem aqc a a' (h:ud a=ud a'):a=a':=by
 simp only[ud,Dv]at h
 try simp[dT]at h
 grind
theorem aaB:ac ud (([.own 900,(vI (↑a:Int)),(vI (↑b:Int)),AV.fn (67:FuncId) []],[(900,ah.mk false 129 6 (ab aq xs))]))=some (xs,a,b):=ax aqc (xs,a,b) rfl
def Ph:AV×Heap×List Nat:=(.aF [],[(900,⟨false,129,6,(K.cH a b (K.bB aV) xs).map aq⟩)],[])
def aaC:Bool:=decide (a<=b/\b<=xs.length/\xs.length<=100000)
end
def aaD:fT:=jI 144 ud (fun a=>aaC a.1 a.2.1 a.2.2) fun a=>Ph a.1 a.2.1 a.2.2
theorem aqd:fX Tryz.prog au aaD:=by
 refine mX (mv:=[]) Tryz.f144 (by kernel_rfl) (by kernel_rfl) ap8 mixed (md (x0:=aw Tryz.f144 0) (x1:=aw Tryz.f144 1) (by kernel_rfl) (bS ?_) (bS ?_)) ?_
 .rintro⟨xs,a,b,i⟩ hp
  exact aqa xs a b i hp
 .rintro⟨xs,a,b,i,j⟩ hp
  exact ap9 xs a b i j hp
 rintro⟨xs,a,b⟩ hpre hok hokh
 show(eu uc [] _ (Dv _ _ _).1 (Dv _ _ _).2).val=some (Ph _ _ _)
 unfold Dv Ph
 rw[aqb]
 simp only[aaC,aM]at hpre
 obtain⟨h1,h2,h3⟩:=hpre
 simp only[ap6,ar,ak,aS,rJ (show a<9223372036854775807 by omega),h2,h3,and_self,decide_true,K.apw gC h1 h2]
end M
namespace M
section
variable (xs:List ay) (m i j:Nat)
def ue:St:=⟨[(11,vI j),(10,vI i),(4, .fn 67 []),(2,vI m),(0, .own 900)],[(900,⟨false,129,6,xs.map aq⟩)]⟩
def yq (a:(List ay)×Nat×Nat×Nat):St:=ue a.1 a.2.1 a.2.2.1 a.2.2.2
theorem aqe a a' (h:yq a=yq a'):a=a':=by
 simp only[yq,ue]at h
 try simp[dT]at h
 grind
theorem aqf:ac yq (St.mk [(11,(vI (↑j:Int))),(10,(vI (↑i:Int))),(4,AV.fn (67:FuncId) []),(2,(vI (↑m:Int))),(0, .own 900)] [(900,ah.mk false 129 6 (ab aq xs))])=some (xs,m,i,j):=ax aqe (xs,m,i,j) rfl
def Dw:T (Ex×St):= .ret (.exit 0,⟨[(10,vI (K.fJ m i j xs).1),(4, .fn 67 []),(2,vI m),(0, .own 900)],[(900,⟨false,129,6,((K.fJ m i j xs).2).map aq⟩)]⟩)
def Pj:Bool:=decide (0<i/\0<j/\i<=m/\m+j<=xs.length/\xs.length<=100000)
def aqg:Nat×(St->T (Ex×St)):=(2,lpo [11,10,4,2,0] [900] yq (cD Pj) (cD Dw))
def Dx:Env:=bq ty au bp [] [aaz] [] [aqg]
theorem aqh:aZ Tryz.prog Dx:=by
 refine mU m6 mY ?_ ?_
 .simp
 .simp only[gQ]
  exact⟨ap1,by simp⟩
theorem Pk:((exec Dx (aw Tryz.f171 0) (ue xs m i j)).bind (bE ([11,10,4,2,0],[900]) ([10,4,2,0],[900]) ([],[]))).val =
 bif (↑i:Int) != (↑j:Int) then bif decide ((↑j:Int)<(↑i:Int)) then ai (ac rK ([.own 900,(vI (am.wrap ((↑m:Int) - (↑i :
 Int)))),(vI (↑m:Int)),(vI (↑j:Int)),AV.fn (67:FuncId) []],[(900,ah.mk false 129 6 (ab aq xs))])) fun z=>bif decide
 (z.2.1+z.2.2.2<=ae z.1/\z.2.2.1+z.2.2.2<=ae z.1/\ae z.1<=100000) then some (Ex.normal,St.mk [(11,
 (vI (↑j:Int))),(10,(vI (am.wrap ((↑i:Int) - (↑j:Int))))),(4,AV.fn (67:FuncId) []),(2,(vI (↑m:Int))),(0, .own 900)] [(900,ah.mk false
 129 6 (ab aq (K.gk z.2.1 z.2.2.1 z.2.2.2 z.1)))]) else none else ai (ac rK ([.own 900,(vI (am.wrap ((↑m:Int)
 - (↑i:Int)))),(vI (am.wrap (am.wrap ((↑m:Int)+(↑j:Int)) - (↑i:Int)))),(vI (↑i:Int)),AV.fn (67:FuncId) []],[(900,ah.mk
 false 129 6 (ab aq xs))])) fun z=>bif decide (z.2.1+z.2.2.2<=ae z.1/\z.2.2.1+z.2.2.2 <=
 ae z.1/\ae z.1<=100000) then some (Ex.normal,St.mk [(11,(vI (am.wrap ((↑j:Int) - (↑i:Int))))),(10,(vI (↑i :
 Int))),(4,AV.fn (67:FuncId) []),(2,(vI (↑m:Int))),(0, .own 900)] [(900,ah.mk false 129 6 (ab aq (K.gk z.2.1 z.2.2.1 z.2.2.2 z.1)))])
 else none else some (Ex.exit (0:Nat),St.mk [(10,(vI (↑i:Int))),(4,AV.fn (67:FuncId) []),(2,(vI (↑m:Int))),(0, .own 900)] [(900,ah.mk false 129 6 (ab
 aq xs))]):=(cr _ _ _).symm.trans (by kernel_rfl)
theorem aqi (xs:List ay) (m:Nat) (i:Nat) (j:Nat) (hp:Pj xs m i j=true) : ∀ex s',(Dw xs m i j).val=some (ex,s')->ba Dx (aw Tryz.f171 0) (ue xs m i j) ex s':=by
 simp only[Pj,aM]at hp
 obtain⟨h1,h2,h3,h4,h5⟩:=hp
 refine cE (st:=fun s:List ay×Nat×Nat=>ue s.1 m s.2.1 s.2.2) (out:=fun s=>Dw s.1 m s.2.1 s.2.2) (I:=fun s=>0<s.2.1/\0<s.2.2/\s.2.1<=m/\m+s.2.2<=s.1.length/\s.1.length<=100000) (n:=([11,10,4,2,0],[900])) (e:=([10,4,2,0],[900])) (r:=([],[])) (fun s=>s.2.1+s.2.2) ?_ (xs,i,j) ⟨h1,h2,h3,h4,h5⟩
 rintro⟨xs,i,j⟩ ⟨h1,h2,h3,h4,h5⟩
 simp only at h1 h2 h3 h4 h5
 have wmi:=mi (a:=m) (b:=i) h3 (by omega)
 have dne : ∀ {a b:Nat},a≠b->((a:Int) != (b:Int))=true:=fun {a b} h=>by simp;omega
 rcases Nat.lt_trichotomy i j with hlt | na | hgt
 .right
  refine⟨(K.gk (m - i) (m+j - i) i xs,i,j - i),?_,rfl,⟨h1,by simp only;omega,h3,by simp only[K.pJ];omega,by simp only[K.pJ];exact h5⟩,by simp only;omega,?_⟩
  .rw[Pk]
   have w2:am.wrap (((m+j:Nat):Int) - (i:Int))=((m+j - i:Nat):Int):=mi (by omega) (by omega)
   have hq:m - i+i<=xs.length/\m+j - i+i<=xs.length/\xs.length<=100000:=⟨by omega,by omega,h5⟩
   simp only[Pd,ar,ak,ap,g7,dne (show i≠j by omega),aH (show ¬j<i by omega),wmi,pP (show m+j<=9223372036854775807 by omega),w2,hq,and_self,decide_true,mi (show i<=j by omega) (show j<=9223372036854775807 by omega),ue]
   try rfl
  .simp only[Dw];rw[K.apS hlt h1]
 .subst na
  left
  refine⟨_,?_,rfl,by simp,rfl⟩
  rw[Pk]
  simp only[bne_self_eq_false,ap,K.apT]
 .right
  refine⟨(K.gk (m - i) m j xs,i - j,j),?_,rfl,⟨by simp only;omega,h2,by simp only;omega,by simp only[K.pJ];omega,by simp only[K.pJ];exact h5⟩,by simp only;omega,?_⟩
  .rw[Pk]
   have hq:m - i+j<=xs.length/\m+j<=xs.length/\xs.length<=100000:=⟨by omega,by omega,h5⟩
   simp only[Pd,ar,ak,g7,dne (show i≠j by omega),aj hgt,wmi,hq,and_self,decide_true,mi (show j<=i by omega) (show i<=9223372036854775807 by omega),ue]
   try rfl
  .simp only[Dw];rw[K.apR hgt h2]
theorem aqj (a:Nat) (m:Nat) (b:Nat):(eu Dx [] Tryz.f171 [.own 900,vI a,vI m,vI b, .fn 67 []] [(900,⟨false,129,6,xs.map aq⟩)]).val =
 ai (ac yq (St.mk [(11,(vI (am.wrap ((↑b:Int) - (↑m:Int))))),(10,(vI (am.wrap ((↑m:Int) - (↑a:Int))))),(4,
 AV.fn (67:FuncId) []),(2,(vI (↑m:Int))),(0, .own 900)] [(900,ah.mk false 129 6 (ab aq xs))])) fun z=>bif decide ((0 :
 Nat)<z.2.2.1/\(0:Nat)<z.2.2.2/\z.2.2.1<=z.2.1/\z.2.1+z.2.2.2<=ae z.1/\ae z.1<=100000)&&true
 then ai (ac rK ([.own 900,(vI (am.wrap ((↑z.2.1:Int) - (↑(K.fJ z.2.1 z.2.2.1 z.2.2.2 z.1).fst:Int)))),(vI
 (↑z.2.1:Int)),(vI (↑(K.fJ z.2.1 z.2.2.1 z.2.2.2 z.1).fst:Int)),AV.fn (67:FuncId) []],[(900,ah.mk false 129 6 (ab aq (K.fJ
 z.2.1 z.2.2.1 z.2.2.2 z.1).snd))])) fun z=>bif decide (z.2.1+z.2.2.2<=ae z.1/\z.2.2.1 +
 z.2.2.2<=ae z.1/\ae z.1<=100000) then some (AV.aF [],[(900,ah.mk false 129 6 (ab aq (K.gk z.2.1 z.2.2.1
 z.2.2.2 z.1)))],[]) else none else none:=(lD).symm.trans (by kernel_rfl)
def Dy (a:Nat) (m:Nat) (b:Nat):List AV×Heap:=([.own 900,vI a,vI m,vI b, .fn 67 []],[(900,⟨false,129,6,xs.map aq⟩)])
def uf (a:(List ay)×Nat×Nat×Nat):List AV×Heap:=Dy a.1 a.2.1 a.2.2.1 a.2.2.2
theorem aqk a a' (h:uf a=uf a'):a=a':=by
 simp only[uf,Dy]at h
 try simp[dT]at h
 grind
theorem j8 (a:Nat) (m:Nat) (b:Nat):ac uf (([.own 900,(vI (↑a:Int)),(vI (↑m:Int)),(vI (↑b:Int)),AV.fn (67:FuncId) []],[(900,ah.mk false 129 6 (ab aq xs))]))=some (xs,a,m,b):=ax aqk (xs,a,m,b) rfl
def Pm (a:Nat) (m:Nat) (b:Nat):AV×Heap×List Nat:=(.aF [],[(900,⟨false,129,6,(K.gZ m (m - a) (b - m) xs).map aq⟩)],[])
def aaE (a:Nat) (m:Nat) (b:Nat):Bool:=decide (a<m/\m<b/\b<=xs.length/\xs.length<=100000)
end
def aaF:fT:=jI 171 uf (fun a=>aaE a.1 a.2.1 a.2.2.1 a.2.2.2) fun a=>Pm a.1 a.2.1 a.2.2.1 a.2.2.2
theorem aql:fX Tryz.prog au aaF:=by
 refine mX (mv:=[]) Tryz.f171 (by kernel_rfl) (by kernel_rfl) aqh mixed (de (x0:=aw Tryz.f171 0) (by kernel_rfl) (bS ?_)) ?_
 .rintro⟨xs,m,i,j⟩ hp
  exact aqi xs m i j hp
 rintro⟨xs,a,m,b⟩ hpre hok hokh
 show(eu Dx [] _ (Dy _ _ _ _).1 (Dy _ _ _ _).2).val=some (Pm _ _ _ _)
 unfold Dy Pm
 rw[aqj]
 simp only[aaE,aM]at hpre
 obtain⟨h1,h2,h3,h4⟩:=hpre
 obtain⟨r1,r2,r3,r4,r5⟩:=K.apQ _ (m - a) (b - m) m xs (bR _) (by omega) (by omega) (by omega) (by omega)
 have hq:0<m - a/\0<b - m/\m - a<=m/\m+(b - m)<=xs.length/\xs.length<=100000:=⟨by omega,by omega,by omega,by omega,h4⟩
 have hq2:m - (K.fJ m (m - a) (b - m) xs).1+(K.fJ m (m - a) (b - m) xs).1<=(K.fJ m (m - a) (b - m) xs).2.length/\m+(K.fJ m (m - a) (b - m) xs).1<=(K.fJ m (m - a) (b - m) xs).2.length/\(K.fJ m (m - a) (b - m) xs).2.length<=100000:=⟨by omega,by omega,by omega⟩
 simp only[Pd,aqf,ar,ak,aS,mi (show a<=m by omega) (show m<=9223372036854775807 by omega),mi (show m<=b by omega) (show b<=9223372036854775807 by omega),hq,and_self,decide_true,mi r2 (show m<=9223372036854775807 by omega),hq2,r5]
end M
namespace M
section
variable (xs:List ay) (a i j:Nat)
def ug:St:=⟨[(11,vI j),(10,vI i),(4, .fn 67 []),(1,vI a),(0, .own 900)],[(900,⟨false,129,6,xs.map aq⟩)]⟩
def yr (a:(List ay)×Nat×Nat×Nat):St:=ug a.1 a.2.1 a.2.2.1 a.2.2.2
theorem aqm a a' (h:yr a=yr a'):a=a':=by
 simp only[yr,ug]at h
 try simp[dT]at h
 grind
theorem jq:ac yr (St.mk [(11,(vI (↑j:Int))),(10,(vI (↑i:Int))),(4,AV.fn (67:FuncId) []),(1,(vI (↑a:Int))),(0, .own 900)] [(900,ah.mk false 129 6 (ab aq xs))])=some (xs,a,i,j):=ax aqm (xs,a,i,j) rfl
def Dz:T (Ex×St):= .ret (.exit 0,⟨[(10,vI (K.bs (fun k=>aV (xs.getD k default) (xs.getD a default)) i j)),(1,vI a),(0, .own 900)],[(900,⟨false,129,6,xs.map aq⟩)]⟩)
def Pn:Bool:=decide (i<=j/\j<=xs.length/\a<xs.length/\xs.length<=100000)
def aqn:Nat×(St->T (Ex×St)):=(3,lpo [11,10,4,1,0] [900] yr (cD Pn) (cD Dz))
def yt (k:Nat):St:=⟨[(13,vI k),(10,vI i),(0, .own 900)],[(900,⟨false,129,6,xs.map aq⟩)]⟩
def yu (a:(List ay)×Nat×Nat):St:=yt a.1 a.2.1 a.2.2
theorem aqo a a' (h:yu a=yu a'):a=a':=by
 simp only[yu,yt]at h
 try simp[dT]at h
 grind
theorem jr (k:Nat):ac yu (St.mk [(13,(vI (↑k:Int))),(10,(vI (↑i:Int))),(0, .own 900)] [(900,ah.mk false 129 6 (ab aq xs))])=some (xs,i,k):=ax aqo (xs,i,k) rfl
def Ij (k:Nat):T (Ex×St):= .ret (.exit 2,⟨[],[(900,⟨false,129,6,(K.rG (i - 1 - k) k xs).map aq⟩)]⟩)
def Po (k:Nat):Bool:=decide (1<=i/\i<=xs.length/\xs.length<=100000)
def aqp:Nat×(St->T (Ex×St)):=(9,lpo [13,10,0] [900] yu (bU Po) (bU Ij))
def uh (m:Nat) (i:Nat) (j:Nat):St:=⟨[(15,vI j),(14,vI i),(4, .fn 67 []),(2,vI m),(0, .own 900)],[(900,⟨false,129,6,xs.map aq⟩)]⟩
def yv (a:(List ay)×Nat×Nat×Nat):St:=uh a.1 a.2.1 a.2.2.1 a.2.2.2
theorem aqq a a' (h:yv a=yv a'):a=a':=by
 simp only[yv,uh]at h
 try simp[dT]at h
 grind
theorem js (m:Nat) (i:Nat) (j:Nat):ac yv (St.mk [(15,(vI (↑j:Int))),(14,(vI (↑i:Int))),(4,AV.fn (67:FuncId) []),(2,(vI (↑m:Int))),(0, .own 900)] [(900,ah.mk false 129 6 (ab aq xs))])=some (xs,m,i,j):=ax aqq (xs,m,i,j) rfl
def DA (m:Nat) (i:Nat) (j:Nat):T (Ex×St):= .ret (.exit 4,⟨[(14,vI (K.bs (fun k=> !aV (xs.getD m default) (xs.getD k default)) i j)),(2,vI m),(0, .own 900)],[(900,⟨false,129,6,xs.map aq⟩)]⟩)
def Pp (m:Nat) (i:Nat) (j:Nat):Bool:=decide (i<=j/\j<=xs.length/\m<xs.length/\xs.length<=100000)
def aqr:Nat×(St->T (Ex×St)):=(15,lpo [15,14,4,2,0] [900] yv (cD Pp) (cD DA))
def yw (k:Nat):St:=⟨[(17,vI k),(14,vI i),(0, .own 900)],[(900,⟨false,129,6,xs.map aq⟩)]⟩
def yx (a:(List ay)×Nat×Nat):St:=yw a.1 a.2.1 a.2.2
theorem aqs a a' (h:yx a=yx a'):a=a':=by
 simp only[yx,yw]at h
 try simp[dT]at h
 grind
theorem jt (k:Nat):ac yx (St.mk [(17,(vI (↑k:Int))),(14,(vI (↑i:Int))),(0, .own 900)] [(900,ah.mk false 129 6 (ab aq xs))])=some (xs,i,k):=ax aqs (xs,i,k) rfl
def Ik (k:Nat):T (Ex×St):= .ret (.exit 6,⟨[],[(900,⟨false,129,6,(K.rH (k - i) k xs).map aq⟩)]⟩)
def Pq (i:Nat) (k:Nat):Bool:=decide (k<xs.length/\xs.length<=100000)
def aqt:Nat×(St->T (Ex×St)):=(21,lpo [17,14,0] [900] yx (bU Pq) (bU Ik))
def ui (m:Nat) (b:Nat) (d:Nat) (n:Nat) (i:Nat) (j:Nat) (p:Nat):St:=⟨[(22,vI p),(21,vI j),(20,vI i),(19,vI n),(18,vI d),(4, .fn 67 []),(3,vI b),(2,vI m),(1,vI a),(0, .own 900)],[(900,⟨false,129,6,xs.map aq⟩)]⟩
def uj (a:(List ay)×Nat×Nat×Nat×Nat×Nat×Nat×Nat×Nat):St:=ui a.1 a.2.1 a.2.2.1 a.2.2.2.1 a.2.2.2.2.1 a.2.2.2.2.2.1 a.2.2.2.2.2.2.1 a.2.2.2.2.2.2.2.1 a.2.2.2.2.2.2.2.2
theorem aqu a a' (h:uj a=uj a'):a=a':=by
 simp only[uj,ui]at h
 try simp[dT]at h
 grind
theorem j9 (m:Nat) (b:Nat) (d:Nat) (n:Nat) (i:Nat) (j:Nat) (p:Nat):ac uj (St.mk [(22,(vI (↑p:Int))),(21,(vI (↑j:Int))),(20,(vI (↑i:Int))),(19,(vI (↑n:Int))),(18,(vI (↑d:Int))),(4,AV.fn (67:FuncId) []),(3,(vI (↑b :
 Int))),(2,(vI (↑m:Int))),(1,(vI (↑a:Int))),(0, .own 900)] [(900,ah.mk false 129 6 (ab aq xs))])=some (xs,a,m,b,d,n,i,j,p):=ax aqu (xs,a,m,b,d,n,i,j,p) rfl
def DB (m:Nat) (b:Nat) (d:Nat) (n:Nat) (i:Nat) (j:Nat) (p:Nat):T (Ex×St):= .ret (.exit 8,⟨[(20,vI (K.bs (fun k=> !aV (xs.getD (p - k) default) (xs.getD k default)) i j)),(19,vI n),(18,vI d),(4, .fn 67 []),(3,vI b),(2,vI m),(1,vI a),(0, .own 900)],[(900,⟨false,129,6,xs.map aq⟩)]⟩)
def Pr (a:Nat) (m:Nat) (b:Nat) (d:Nat) (n:Nat) (i:Nat) (j:Nat) (p:Nat):Bool:=decide (i<=j/\j<=xs.length/\j<=p+1/\p<i+xs.length/\xs.length<=100000)
def aqv:Nat×(St->T (Ex×St)):=(33,lpo [22,21,20,19,18,4,3,2,1,0] [900] uj (xh Pr) (xh DB))
def aaG (m:Nat) (b:Nat):List AV×Heap:=([.own 900,vI a,vI m,vI b, .fn 67 []],[(900,⟨false,129,6,xs.map aq⟩)])
def iP (a:(List ay)×Nat×Nat×Nat):List AV×Heap:=aaG a.1 a.2.1 a.2.2.1 a.2.2.2
theorem aqw a a' (h:iP a=iP a'):a=a':=by
 simp only[iP,aaG]at h
 try simp[dT]at h
 grind
theorem it (m:Nat) (b:Nat):ac iP (([.own 900,(vI (↑a:Int)),(vI (↑m:Int)),(vI (↑b:Int)),AV.fn (67:FuncId) []],[(900,ah.mk false 129 6 (ab aq xs))]))=some (xs,a,m,b):=ax aqw (xs,a,m,b) rfl
def aqx (m:Nat) (b:Nat):AV×Heap×List Nat:=(.aF [],[(900,⟨false,129,6,(K.cH a b (K.bB aV) xs).map aq⟩)],[])
end
section
variable (c:Nat) (xs:List ay) (a m b:Nat)
def Il:Bool:=decide (b - a<c/\a<m/\m<b/\b<=xs.length/\xs.length<=100000)&&K.cN aV a m xs&&K.cN aV m b xs
def Im (c:Nat):fT:=jI 145 iP (fun x=>Il c x.1 x.2.1 x.2.2.1 x.2.2.2) fun x=>aqx x.1 x.2.1 x.2.2.1 x.2.2.2
def mj (c:Nat):Env:=bq ty au bp [O7] [aaF,Im c] [] [aqn,aqp,aqr,aqt,aqv]
theorem aqy (c:Nat) (h:fX Tryz.prog au (Im c)):aZ Tryz.prog (mj c):=by
 refine mU m6 mY ?_ ?_
 .simp only[gQ]
  exact⟨aav,by simp⟩
 .simp only[gQ]
  exact⟨aql,h,by simp⟩
theorem Io {i j:Nat} (h:i+j<=9223372036854775807):am.wrap (qB (aD.wrap (am.wrap ((i:Int)+(j:Int)))) 2)=(((i+j) / 2:Nat):Int):=by
 rw[pP h]
 have h1:aD.wrap ((i+j:Nat):Int)=((i+j:Nat):Int):=by
  simp only[bQ,ii,fA]
  simp
  omega
 rw[h1,UM _ (by decide),cA (by omega) (by omega)]
 omega
theorem Ps (i:Nat) (j:Nat):((exec (mj c) (aw Tryz.f145 0) (ug xs a i j)).bind (bE ([11,10,4,1,0],[900]) ([10,1,0],[900]) ([],[]))).val =
 (fun(q:ay)=>(fun(q_1:Nat)=>(fun(q_2:List (Nat×ah))=>(fun(q_3:Int)=>(fun(q_4:List (Nat×AV))=>(fun(q_5:List (Nat×AV))=>bif decide ((↑i
 : Int)<(↑j:Int)) then ai (idx q_3) fun z=>bif decide (z<q_1) then ai (ac (ab aq) (ab aq xs)) fun z_1=>
 bif decide (z<ae z_1) then bif decide (a<q_1) then ai (ac (ab aq) (ab aq xs)) fun z_2=>bif decide (a<ae
 z_2) then ai (ac pN [AV.agg [(vI (al z_1 z q).fr),(vI (al z_1 z q).tqq),AV.sl (ab aC (al z_1 z q).lines),(vI (al z_1
 z q).row),(vB (al z_1 z q).cZ),(vB (al z_1 z q).dl)],AV.agg [(vI (al z_2 a q).fr),(vI (al z_2 a q).tqq),AV.sl (ab aC (al
 z_2 a q).lines),(vI (al z_2 a q).row),(vB (al z_2 a q).cZ),(vB (al z_2 a q).dl)]]) fun z=>bif decide (kj z.1 z.2<0) then some (Ex.normal,St.mk ((11,(vI (↑j:Int)))::(10,(vI (am.wrap (q_3+1))))::q_5) q_2) else some (Ex.normal,St.mk ((11,(vI
 q_3))::(10,(vI (↑i:Int)))::q_5) q_2) else none else none else none else none else some (Ex.exit (0:Nat),St.mk ((10,(vI (↑i:Int)))::q_4) q_2)) ((4,AV.fn (67
 : FuncId) [])::q_4)) [(1,(vI (↑a:Int))),(0, .own 900)]) (am.wrap (qB (bQ aD (am.wrap ((↑i:Int)+(↑j :
 Int)))) (2:Int)))) [(900,ah.mk false 129 6 (ab aq xs))]) (ae (ah.mk false 129 6 (ab aq xs)).rows)) (ay.mk (0:Int) (0:Int) [] (0:Int)
 false false):=(cr _ _ _).symm.trans (by kernel_rfl)
theorem aqz (i:Nat) (j:Nat) (hp:Pn xs a i j=true) : ∀ex s',(Dz xs a i j).val=some (ex,s')->ba (mj c) (aw Tryz.f145 0) (ug xs a i j) ex s':=by
 simp only[Pn,aM]at hp
 obtain⟨h1,h2,h3,h4⟩:=hp
 refine cE (st:=fun s:Nat×Nat=>ug xs a s.1 s.2) (out:=fun s=>Dz xs a s.1 s.2) (I:=fun s=>s.1<=s.2/\s.2<=xs.length) (n:=([11,10,4,1,0],[900])) (e:=([10,1,0],[900])) (r:=([],[])) (fun s=>s.2 - s.1) ?_ (i,j) ⟨h1,h2⟩
 rintro⟨i,j⟩ ⟨h1,h2⟩
 simp only at h1 h2
 obtain⟨x,hx⟩:=iC (show a<xs.length from h3)
 by_cases hlt:i<j
 .right
  obtain⟨y,hy⟩:=iC (show(i+j) / 2<xs.length by omega)
  have hw:=Io (i:=i) (j:=j) (by omega)
  cases hc:aV y x
  .refine⟨(i,(i+j) / 2),?_,rfl,⟨by simp only;omega,by simp only;omega⟩,by simp only;omega,?_⟩
   .rw[Ps]
    have hc2:decide (kj y x<0)=false:=hc
    simp only[pO,jg,ar,aN,iM,ak,ap,bA hlt,hw,n7,aj (cy hx),aj (cy hy),getD_at hx,getD_at hy,hc2,ug]
   .simp only[Dz]
    rw[K.O9 hlt (by simp only[getD_at hx,getD_at hy];exact hc)]
  .refine⟨((i+j) / 2+1,j),?_,rfl,⟨by simp only;omega,h2⟩,by simp only;omega,?_⟩
   .rw[Ps]
    have hc2:decide (kj y x<0)=true:=hc
    simp only[pO,jg,ar,aN,iM,ak,bA hlt,hw,n7,aj (cy hx),aj (cy hy),getD_at hx,getD_at hy,hc2,rJ (show(i+j) / 2<9223372036854775807 by omega),ug]
   .simp only[Dz]
    rw[K.O8 hlt (by simp only[getD_at hx,getD_at hy];exact hc)]
 .left
  refine⟨_,?_,rfl,by simp,rfl⟩
  rw[Ps]
  simp only[g7,aH hlt,ap,K.Pb hlt]
theorem aaH (i:Nat) (k:Nat):((exec (mj c) (aw Tryz.f145 1) (yt xs i k)).bind (bE ([13,10,0],[900]) ([],[900]) ([],[]))).val =
 (fun(q:Int)=>(fun(q_1:ay)=>(fun(q_2:Nat)=>(fun(q_3:Bool)=>bif decide ((↑k:Int)<am.wrap ((↑i:Int) - (1:Int))) then ai
 (idx q) fun z=>bif decide (z<q_2) then ai (ac (ab aq) (ab aq xs)) fun z_1=>(fun(q_4:List Row)=>bif decide (z <
 ae z_1) then bif q_3 then ai (ac (ab aq) (ab aq xs)) fun z=>bif decide (k<ae z) then bif q_3 then
 ai (ac (ab aq) (ab aq xs)) fun z_2=>bif decide (k<ae z_2) then ai (idx q) fun z_3=>bif decide (z_3
 < ae (ah.mk false 129 6 q_4).rows) then ai (ac (ab aq) q_4) fun z_4=>bif decide (z_3<ae z_4) then some (Ex.normal,
 St.mk [(13,(vI q)),(10,(vI (↑i:Int))),(0, .own 900)] [(900,ah.mk false 129 6 (sR q_4 z_3 [(vI (al z k q_1).fr),(vI (al z k q_1).tqq),AV.sl
 (ab aC (al z k q_1).lines),(vI (al z k q_1).row),(vB (al z k q_1).cZ),(vB (al z k q_1).dl)]))]) else none else none else none else
 none else none else none else none) (sR (ab aq xs) k [(vI (al z_1 z q_1).fr),(vI (al z_1 z q_1).tqq),AV.sl (ab aC (al z_1 z
 q_1).lines),(vI (al z_1 z q_1).row),(vB (al z_1 z q_1).cZ),(vB (al z_1 z q_1).dl)]) else none else some (Ex.exit (2:Nat),St.mk [] [(900,
 ah.mk false 129 6 (ab aq xs))])) (decide (k<q_2))) (ae (ah.mk false 129 6 (ab aq xs)).rows)) (ay.mk (0:Int) (0:Int) [] (0:Int) false
 false)) (am.wrap ((↑k:Int)+1)):=(cr _ _ _).symm.trans (by kernel_rfl)
theorem aqA (i:Nat) (k:Nat) (hp:Po xs i k=true) : ∀ex s',(Ij xs i k).val=some (ex,s')->ba (mj c) (aw Tryz.f145 1) (yt xs i k) ex s':=by
 simp only[Po,aM]at hp
 obtain⟨h1,h2,h3⟩:=hp
 refine cE (st:=fun s:List ay×Nat=>yt s.1 i s.2) (out:=fun s=>Ij s.1 i s.2) (I:=fun s=>i<=s.1.length/\s.1.length<=100000) (n:=([13,10,0],[900])) (e:=([],[900])) (r:=([],[])) (fun s=>i - s.2) ?_ (xs,k) ⟨h2,h3⟩
 rintro⟨xs,k⟩ ⟨h2,h3⟩
 simp only at h2 h3
 by_cases hlt:k<i - 1
 .right
  obtain⟨x,hx⟩:=iC (show k<xs.length by omega)
  obtain⟨y,hy⟩:=iC (show k+1<xs.length by omega)
  refine⟨(K.jK xs k (k+1),k+1),?_,rfl,⟨by simp only[K.nZ];exact h2,by simp only[K.nZ];exact h3⟩,by simp only;omega,?_⟩
  .rw[aaH]
   simp only[jg,ar,aN,iM,ak,Ic h1 (show i<=9223372036854775807 by omega),bA hlt,rJ (show k<9223372036854775807 by omega),n7,aj (cy hx),aj (cy hy),getD_at hx,getD_at hy,GN,FL,K.Dp hx hy,yt]
  .simp only[Ij];rw[show i - 1 - k=(i - 1 - (k+1))+1 by omega,K.rG]
 .left
  refine⟨_,?_,rfl,by simp,rfl⟩
  rw[aaH]
  simp only[Ic h1 (show i<=9223372036854775807 by omega),g7,aH hlt,ap,show i - 1 - k=0 by omega,K.rG]
theorem Pt (i:Nat) (j:Nat):((exec (mj c) (aw Tryz.f145 2) (uh xs m i j)).bind (bE ([15,14,4,2,0],[900]) ([14,2,0],[900]) ([],[]))).val =
 (fun(q:ay)=>(fun(q_1:Nat)=>(fun(q_2:List (Nat×ah))=>(fun(q_3:Int)=>(fun(q_4:List (Nat×AV))=>(fun(q_5:List (Nat×AV))=>bif decide ((↑i
 : Int)<(↑j:Int)) then bif decide (m<q_1) then ai (ac (ab aq) (ab aq xs)) fun z=>bif decide (m<ae z) then
 ai (idx q_3) fun z_1=>bif decide (z_1<q_1) then ai (ac (ab aq) (ab aq xs)) fun z_2=>bif decide (z_1 <
 ae z_2) then ai (ac pN [AV.agg [(vI (al z m q).fr),(vI (al z m q).tqq),AV.sl (ab aC (al z m q).lines),(vI
 (al z m q).row),(vB (al z m q).cZ),(vB (al z m q).dl)],AV.agg [(vI (al z_2 z_1 q).fr),(vI (al z_2 z_1 q).tqq),AV.sl (ab aC
 (al z_2 z_1 q).lines),(vI (al z_2 z_1 q).row),(vB (al z_2 z_1 q).cZ),(vB (al z_2 z_1 q).dl)]]) fun z=>bif !decide (kj
 z.1 z.2<0) then some (Ex.normal,St.mk ((15,(vI (↑j:Int)))::(14,(vI (am.wrap (q_3+1))))::q_5) q_2) else some (Ex.normal,
 St.mk ((15,(vI q_3))::(14,(vI (↑i:Int)))::q_5) q_2) else none else none else none else none else some (Ex.exit (4:Nat),St.mk ((14,(vI (↑i:Int)))::q_4)
 q_2)) ((4,AV.fn (67:FuncId) [])::q_4)) [(2,(vI (↑m:Int))),(0, .own 900)]) (am.wrap (qB (bQ aD (bQ am
 ((↑i:Int)+(↑j:Int)))) (2:Int)))) [(900,ah.mk false 129 6 (ab aq xs))]) (ae (ah.mk false 129 6 (ab aq xs)).rows)) (ay.mk (0:Int) (0 :
 Int) [] (0:Int) false false):=(cr _ _ _).symm.trans (by kernel_rfl)
theorem aqB (i:Nat) (j:Nat) (hp:Pp xs m i j=true) : ∀ex s',(DA xs m i j).val=some (ex,s')->ba (mj c) (aw Tryz.f145 2) (uh xs m i j) ex s':=by
 simp only[Pp,aM]at hp
 obtain⟨h1,h2,h3,h4⟩:=hp
 refine cE (st:=fun s:Nat×Nat=>uh xs m s.1 s.2) (out:=fun s=>DA xs m s.1 s.2) (I:=fun s=>s.1<=s.2/\s.2<=xs.length) (n:=([15,14,4,2,0],[900])) (e:=([14,2,0],[900])) (r:=([],[])) (fun s=>s.2 - s.1) ?_ (i,j) ⟨h1,h2⟩
 rintro⟨i,j⟩ ⟨h1,h2⟩
 simp only at h1 h2
 obtain⟨x,hx⟩:=iC (show m<xs.length from h3)
 by_cases hlt:i<j
 .right
  obtain⟨y,hy⟩:=iC (show(i+j) / 2<xs.length by omega)
  have hw:=Io (i:=i) (j:=j) (by omega)
  cases hc:aV x y
  .refine⟨((i+j) / 2+1,j),?_,rfl,⟨by simp only;omega,h2⟩,by simp only;omega,?_⟩
   .rw[Pt]
    have hc2:decide (kj x y<0)=false:=hc
    simp only[pO,jg,ar,aN,iM,ak,bA hlt,hw,n7,aj (cy hx),aj (cy hy),getD_at hx,getD_at hy,hc2,dt,rJ (show(i+j) / 2<9223372036854775807 by omega),uh]
   .simp only[DA]
    rw[K.O8 hlt (by simp only[getD_at hx,getD_at hy,hc,dt])]
  .refine⟨(i,(i+j) / 2),?_,rfl,⟨by simp only;omega,by simp only;omega⟩,by simp only;omega,?_⟩
   .rw[Pt]
    have hc2:decide (kj x y<0)=true:=hc
    simp only[pO,jg,ar,aN,iM,ak,ap,bA hlt,hw,n7,aj (cy hx),aj (cy hy),getD_at hx,getD_at hy,hc2,dC,uh]
   .simp only[DA]
    rw[K.O9 hlt (by simp only[getD_at hx,getD_at hy,hc,dC])]
 .left
  refine⟨_,?_,rfl,by simp,rfl⟩
  rw[Pt]
  simp only[g7,aH hlt,ap,K.Pb hlt]
theorem aaI (i:Nat) (k:Nat):((exec (mj c) (aw Tryz.f145 3) (yw xs i k)).bind (bE ([17,14,0],[900]) ([],[900]) ([],[]))).val =
 (fun(q:Int)=>(fun(q_1:ay)=>(fun(q_2:Nat)=>(fun(q_3:Bool)=>bif decide ((↑i:Int)<(↑k:Int)) then ai (idx q) fun z=>bif decide (z
 < q_2) then ai (ac (ab aq) (ab aq xs)) fun z_1=>(fun(q_4:List Row)=>bif decide (z<ae z_1) then bif q_3 then
 ai (ac (ab aq) (ab aq xs)) fun z=>bif decide (k<ae z) then bif q_3 then ai (ac (ab aq) (ab
 aq xs)) fun z_2=>bif decide (k<ae z_2) then ai (idx q) fun z_3=>bif decide (z_3<ae (ah.mk false 129 6 q_4).rows)
 then ai (ac (ab aq) q_4) fun z_4=>bif decide (z_3<ae z_4) then some (Ex.normal,St.mk [(17,(vI q)),(14,(vI (↑i:Int))),
 (0, .own 900)] [(900,ah.mk false 129 6 (sR q_4 z_3 [(vI (al z k q_1).fr),(vI (al z k q_1).tqq),AV.sl (ab aC (al z k q_1).lines),(vI
 (al z k q_1).row),(vB (al z k q_1).cZ),(vB (al z k q_1).dl)]))]) else none else none else none else none else none else none else none) (sR
 (ab aq xs) k [(vI (al z_1 z q_1).fr),(vI (al z_1 z q_1).tqq),AV.sl (ab aC (al z_1 z q_1).lines),(vI (al z_1 z q_1).row),(vB
 (al z_1 z q_1).cZ),(vB (al z_1 z q_1).dl)]) else none else some (Ex.exit (6:Nat),St.mk [] [(900,ah.mk false 129 6 (ab aq xs))])) (decide (k <
 q_2))) (ae (ah.mk false 129 6 (ab aq xs)).rows)) (ay.mk (0:Int) (0:Int) [] (0:Int) false false)) (am.wrap ((↑k:Int) - (1 :
 Int))):=(cr _ _ _).symm.trans (by kernel_rfl)
theorem aqC (i:Nat) (k:Nat) (hp:Pq xs i k=true) : ∀ex s',(Ik xs i k).val=some (ex,s')->ba (mj c) (aw Tryz.f145 3) (yw xs i k) ex s':=by
 simp only[Pq,aM]at hp
 obtain⟨h1,h3⟩:=hp
 refine cE (st:=fun s:List ay×Nat=>yw s.1 i s.2) (out:=fun s=>Ik s.1 i s.2) (I:=fun s=>s.2<s.1.length/\s.1.length<=100000) (n:=([17,14,0],[900])) (e:=([],[900])) (r:=([],[])) (fun s=>s.2) ?_ (xs,k) ⟨h1,h3⟩
 rintro⟨xs,k⟩ ⟨h1,h3⟩
 simp only at h1 h3
 by_cases hlt:i<k
 .right
  obtain⟨x,hx⟩:=iC (show k<xs.length by omega)
  obtain⟨y,hy⟩:=iC (show k - 1<xs.length by omega)
  refine⟨(K.jK xs k (k - 1),k - 1),?_,rfl,⟨by simp only[K.nZ];omega,by simp only[K.nZ];exact h3⟩,by simp only;omega,?_⟩
  .rw[aaI]
   simp only[jg,ar,aN,iM,ak,Ic (show 1<=k by omega) (show k<=9223372036854775807 by omega),bA hlt,n7,aj (cy hx),aj (cy hy),getD_at hx,getD_at hy,GN,FL,K.Dp hx hy,yw]
  .simp only[Ik];rw[show k - i=(k - 1 - i)+1 by omega,K.rH]
 .left
  refine⟨_,?_,rfl,by simp,rfl⟩
  rw[aaI]
  simp only[g7,aH hlt,ap,show k - i=0 by omega,K.rH]
theorem Pu (d:Nat) (n:Nat) (i:Nat) (j:Nat) (p:Nat):((exec (mj c) (aw Tryz.f145 4) (ui xs a m b d n i j p)).bind (bE ([22,21,20,19,18,4,3,2,1,0],[900]) ([20,19,18,4,3,2,1,0],[900]) ([],[]))).val =
 (fun(q:ay)=>(fun(q_1:Nat)=>(fun(q_2:List (Nat×ah))=>(fun(q_3:Int)=>(fun(q_4:List (Nat×AV))=>(fun(q_5:List (Nat×AV))=>bif decide ((↑i
 : Int)<(↑j:Int)) then ai (idx (am.wrap ((↑p:Int) - q_3))) fun z=>bif decide (z<q_1) then ai (ac (ab aq)
 (ab aq xs)) fun z_1=>bif decide (z<ae z_1) then ai (idx q_3) fun z_2=>bif decide (z_2<q_1) then ai (ac
 (ab aq) (ab aq xs)) fun z_3=>bif decide (z_2<ae z_3) then ai (ac pN [AV.agg [(vI (al z_1 z q).fr),(vI
 (al z_1 z q).tqq),AV.sl (ab aC (al z_1 z q).lines),(vI (al z_1 z q).row),(vB (al z_1 z q).cZ),(vB (al z_1 z q).dl)],AV.agg
 [(vI (al z_3 z_2 q).fr),(vI (al z_3 z_2 q).tqq),AV.sl (ab aC (al z_3 z_2 q).lines),(vI (al z_3 z_2 q).row),(vB (al z_3 z_2
 q).cZ),(vB (al z_3 z_2 q).dl)]]) fun z=>bif !decide (kj z.1 z.2<0) then some (Ex.normal,St.mk ((22,(vI (↑p:Int)))::(21,
 (vI (↑j:Int)))::(20,(vI (am.wrap (q_3+1))))::q_4) q_2) else some (Ex.normal,St.mk ((22,(vI (↑p:Int)))::(21,(vI q_3))::q_5) q_2)
 else none else none else none else none else some (Ex.exit (8:Nat),St.mk q_5 q_2)) ((20,(vI (↑i:Int)))::q_4)) [(19,(vI (↑n:Int))),(18,(vI (↑d:Int))),(4,
 AV.fn (67:FuncId) []),(3,(vI (↑b:Int))),(2,(vI (↑m:Int))),(1,(vI (↑a:Int))),(0, .own 900)]) (am.wrap (qB (bQ aD
 (am.wrap ((↑i:Int)+(↑j:Int)))) (2:Int)))) [(900,ah.mk false 129 6 (ab aq xs))]) (ae (ah.mk false 129 6 (ab aq
 xs)).rows)) (ay.mk (0:Int) (0:Int) [] (0:Int) false false):=(cr _ _ _).symm.trans (by kernel_rfl)
theorem aqD (d:Nat) (n:Nat) (i:Nat) (j:Nat) (p:Nat) (hp:Pr xs a m b d n i j p=true) : ∀ex s',(DB xs a m b d n i j p).val=some (ex,s')->ba (mj c) (aw Tryz.f145 4) (ui xs a m b d n i j p) ex s':=by
 simp only[Pr,aM]at hp
 obtain⟨h1,h2,h3,h4,h5⟩:=hp
 refine cE (st:=fun s:Nat×Nat=>ui xs a m b d n s.1 s.2 p) (out:=fun s=>DB xs a m b d n s.1 s.2 p) (I:=fun s=>s.1<=s.2/\s.2<=xs.length/\s.2<=p+1/\p<s.1+xs.length) (n:=([22,21,20,19,18,4,3,2,1,0],[900])) (e:=([20,19,18,4,3,2,1,0],[900])) (r:=([],[])) (fun s=>s.2 - s.1) ?_ (i,j) ⟨h1,h2,h3,h4⟩
 rintro⟨i,j⟩ ⟨h1,h2,h3,h4⟩
 simp only at h1 h2 h3 h4
 by_cases hlt:i<j
 .right
  obtain⟨y,hy⟩:=iC (show(i+j) / 2<xs.length by omega)
  obtain⟨x,hx⟩:=iC (show p - (i+j) / 2<xs.length by omega)
  have hw:=Io (i:=i) (j:=j) (by omega)
  have hw2:=mi (a:=p) (b:=(i+j) / 2) (by omega) (by omega)
  cases hc:aV x y
  .refine⟨((i+j) / 2+1,j),?_,rfl,⟨by simp only;omega,h2,h3,by simp only;omega⟩,by simp only;omega,?_⟩
   .rw[Pu]
    have hc2:decide (kj x y<0)=false:=hc
    simp only[pO,jg,ar,aN,iM,ak,bA hlt,hw,hw2,n7,aj (cy hx),aj (cy hy),getD_at hx,getD_at hy,hc2,dt,rJ (show(i+j) / 2<9223372036854775807 by omega),ui]
   .simp only[DB]
    rw[K.O8 hlt (by simp only[getD_at hx,getD_at hy,hc,dt])]
  .refine⟨(i,(i+j) / 2),?_,rfl,⟨by simp only;omega,by simp only;omega,by simp only;omega,h4⟩,by simp only;omega,?_⟩
   .rw[Pu]
    have hc2:decide (kj x y<0)=true:=hc
    simp only[pO,jg,ar,aN,iM,ak,ap,bA hlt,hw,hw2,n7,aj (cy hx),aj (cy hy),getD_at hx,getD_at hy,hc2,dC,ui]
   .simp only[DB]
    rw[K.O9 hlt (by simp only[getD_at hx,getD_at hy,hc,dC])]
 .left
  refine⟨_,?_,rfl,by simp,rfl⟩
  rw[Pu]
  simp only[g7,aH hlt,ap,K.Pb hlt]
theorem aqE:(eu (mj c) [] Tryz.f145 [.own 900,vI a,vI m,vI b, .fn 67 []] [(900,⟨false,129,6,xs.map aq⟩)]).val =
 (fun(q:AV)=>(fun(q_1:AV)=>(fun(q_2:List AV)=>(fun(q_3:List (Nat×AV))=>(fun(q_4:List (Nat×ah))=>(fun(q_5:Int)=>(fun(q_6:List (Nat ×
 AV))=>(fun(q_7:AV)=>(fun(q_8:Int)=>(fun(q_9:Nat×AV)=>(fun(q_10:List (Nat×AV))=>bif am.wrap ((↑m:Int) - (↑a:Int))==1 then ai (ac yr (St.mk ((11,(vI (↑b:Int)))::(10,q_1)::(4,AV.fn (67:FuncId) [])::q_6) q_4)) fun z=>bif
 decide (z.2.2.1<=z.2.2.2/\z.2.2.2<=ae z.1/\z.2.1<ae z.1/\ae z.1<=100000)&&true then ai
 (ac yu (St.mk ((13,(vI (↑z.2.1:Int)))::(10,(vI (↑(K.bs (fun(k:Nat)=>aV (al z.1 k default) (al z.1 z.2.1 default))
 z.2.2.1 z.2.2.2):Int)))::q_3) [(900,ah.mk false 129 6 (ab aq z.1))])) fun z=>bif decide ((1:Nat)<=z.2.1 /\
 z.2.1<=ae z.1/\ae z.1<=100000)&&true then some (AV.aF [],[(900,ah.mk false 129 6 (ab aq (K.rG (z.2.1 - (1:Nat) -
 z.2.2) z.2.2 z.1)))],[]) else none else none else bif am.wrap ((↑b:Int) - (↑m:Int))==1 then ai (ac yv (St.mk ((15,
 q_1)::(14,q)::(4,AV.fn (67:FuncId) [])::(2,q_1)::q_3) q_4)) fun z=>bif decide (z.2.2.1<=z.2.2.2/\z.2.2.2
 <= ae z.1/\z.2.1<ae z.1/\ae z.1<=100000)&&true then ai (ac yx (St.mk ((17,(vI (↑z.2.1:Int))) ::
 (14,(vI (↑(K.bs (fun(k:Nat)=> !aV (al z.1 z.2.1 default) (al z.1 k default)) z.2.2.1 z.2.2.2):Int)))::q_3) [(900,ah.mk
 false 129 6 (ab aq z.1))])) fun z=>bif decide (z.2.2<ae z.1/\ae z.1<=100000)&&true then some
 (AV.aF [],[(900,ah.mk false 129 6 (ab aq (K.rH (z.2.2 - z.2.1) z.2.2 z.1)))],[]) else none else none else bif decide (q_5<(↑m:Int)) then
 ai (ac uj (St.mk (q_9::(21,q_7)::(20,(vI (am.wrap (q_8 - (↑b:Int)))))::q_10) q_4)) fun z=>(fun(q:Int)=>(fun(q_11:Int)=>(fun(q_12:Nat)=>(fun(q_13:Nat)=>(fun(q_14:Nat)=>(fun(q_15:List (Nat×ah))=>(fun
 (q_16:Int)=>(fun(q_17:AV)=>(fun(q_18:Int)=>(fun(q_19:AV)=>(fun(q_20:List AV)=>(fun(q_21:List AV)=>(fun(q_22:Bool)=>(fun(q_23:Bool)=>
 bif decide (q_12<=q_13/\q_13<=ae z.1/\q_13<=q_14+1/\q_14<q_12+ae z.1/\ae z.1<=100000)&&true then bif bif
 decide (q_16<q) then decide (q<q_18) else false then ai (ac uf (.own 900::q_17::(vI q)::q_19::q_2,q_15)) fun(z:List ay×Nat×Nat×Nat)
 =>(fun(q:List (Nat×ah))=>bif decide (z.2.1<z.2.2.1/\z.2.2.1<z.2.2.2/\z.2.2.2<=ae z.1/\ae z.1<=100000) then bif q_22 then ai (ac iP (q_20,q)) fun z=>(fun(q:List (Nat×ah))=>bif decide (z.2.2.2 - z.2.1
 < c/\z.2.1<z.2.2.1/\z.2.2.1<z.2.2.2/\z.2.2.2<=ae z.1/\ae z.1<=100000)&&K.cN aV z.2.1
 z.2.2.1 z.1&&K.cN aV z.2.2.1 z.2.2.2 z.1 then bif q_23 then ai (ac iP (q_21,q)) fun z=>bif
 decide (z.2.2.2 - z.2.1<c/\z.2.1<z.2.2.1/\z.2.2.1<z.2.2.2/\z.2.2.2<=ae z.1/\ae z.1<=100000)
 && K.cN aV z.2.1 z.2.2.1 z.1&&K.cN aV z.2.2.1 z.2.2.2 z.1 then some (AV.aF [],[(900,ah.mk false 129 6 (ab aq (K.cH
 z.2.1 z.2.2.2 (K.bB aV) z.1)))],[]) else none else some (AV.aF [],q,[]) else none) [(900,ah.mk false 129 6 (ab aq (K.cH z.2.1
 z.2.2.2 (K.bB aV) z.1)))] else bif q_23 then ai (ac iP (q_21,q)) fun z=>bif decide (z.2.2.2 - z.2.1
 < c/\z.2.1<z.2.2.1/\z.2.2.1<z.2.2.2/\z.2.2.2<=ae z.1/\ae z.1<=100000)&&K.cN aV z.2.1
 z.2.2.1 z.1&&K.cN aV z.2.2.1 z.2.2.2 z.1 then some (AV.aF [],[(900,ah.mk false 129 6 (ab aq (K.cH z.2.1 z.2.2.2 (K.bB
 aV) z.1)))],[]) else none else some (AV.aF [],q,[]) else none) [(900,ah.mk false 129 6 (ab aq (K.gZ z.2.2.1 (z.2.2.1 - z.2.1)
 (z.2.2.2 - z.2.2.1) z.1)))] else bif q_22 then ai (ac iP (q_20,q_15)) fun z=>(fun(q:List (Nat×ah))=>
 bif decide (z.2.2.2 - z.2.1<c/\z.2.1<z.2.2.1/\z.2.2.1<z.2.2.2/\z.2.2.2<=ae z.1/\ae z.1<=100000)&&K.cN aV z.2.1 z.2.2.1 z.1&&K.cN aV z.2.2.1 z.2.2.2 z.1 then bif q_23 then ai (ac iP (q_21,q)) fun z=>bif decide (z.2.2.2 - z.2.1<c/\z.2.1<z.2.2.1/\z.2.2.1<z.2.2.2/\z.2.2.2<=ae z.1 /\
 ae z.1<=100000)&&K.cN aV z.2.1 z.2.2.1 z.1&&K.cN aV z.2.2.1 z.2.2.2 z.1 then some (AV.aF [],[(900,ah.mk
 false 129 6 (ab aq (K.cH z.2.1 z.2.2.2 (K.bB aV) z.1)))],[]) else none else some (AV.aF [],q,[]) else none) [(900,ah.mk false 129 6
 (ab aq (K.cH z.2.1 z.2.2.2 (K.bB aV) z.1)))] else bif q_23 then ai (ac iP (q_21,q_15)) fun z=>
 bif decide (z.2.2.2 - z.2.1<c/\z.2.1<z.2.2.1/\z.2.2.1<z.2.2.2/\z.2.2.2<=ae z.1/\ae z.1<=100000)&&K.cN aV z.2.1 z.2.2.1 z.1&&K.cN aV z.2.2.1 z.2.2.2 z.1 then some (AV.aF [],[(900,ah.mk false 129 6 (ab aq (K.cH
 z.2.1 z.2.2.2 (K.bB aV) z.1)))],[]) else none else some (AV.aF [],q_15,[]) else none) (bif decide (q_11<q_18) then decide (q_18<(↑z.2.2.2.1
 : Int)) else false)) (bif decide ((↑z.2.1:Int)<q_16) then decide (q_16<q_11) else false)) (.own 900::(vI q_11)::q_19::(vI (↑z.2.2.2.1:Int)) ::
 q_2)) (.own 900::(vI (↑z.2.1:Int))::q_17::(vI q_11)::q_2)) ((vI q_18))) (am.wrap ((↑z.2.2.2.2.2.1:Int) - q_16))) ((vI q_16)))
 (↑(K.bs (fun(k:Nat)=> !aV (al z.1 (q_14 - k) default) (al z.1 k default)) q_12 q_13):Int)) [(900,ah.mk false 129 6 (ab aq z.1))])
 z.2.2.2.2.2.2.2.2) z.2.2.2.2.2.2.2.1) z.2.2.2.2.2.2.1) (↑z.2.2.2.2.1:Int)) (↑z.2.2.1:Int) else
 ai (ac uj (St.mk (q_9::(21,q_1)::(20,q)::q_10) q_4)) fun z=>(fun(q:Int)=>(fun
 (q_11:Int)=>(fun(q_12:Nat)=>(fun(q_13:Nat)=>(fun(q_14:Nat)=>(fun(q_15:List (Nat×ah))=>(fun(q_16:Int)=>(fun(q_17:AV)=>(fun(q_18:Int)
 =>(fun(q_19:AV)=>(fun(q_20:List AV)=>(fun(q_21:List AV)=>(fun(q_22:Bool)=>(fun(q_23:Bool)=>bif decide (q_12<=q_14/\q_14<=ae z.1 /\
 q_14<=q_13+1/\q_13<q_12+ae z.1/\ae z.1<=100000)&&true then bif bif decide (q_16<q) then decide (q<q_18) else false
 then ai (ac uf (.own 900::q_17::(vI q)::q_19::q_2,q_15)) fun z=>(fun(q:List (Nat×ah))=>bif decide
 (z.2.1<z.2.2.1/\z.2.2.1<z.2.2.2/\z.2.2.2<=ae z.1/\ae z.1<=100000) then bif q_22 then ai (ac
 iP (q_20,q)) fun z=>(fun(q:List (Nat×ah))=>bif decide (z.2.2.2 - z.2.1<c/\z.2.1<z.2.2.1 /\
 z.2.2.1<z.2.2.2/\z.2.2.2<=ae z.1/\ae z.1<=100000)&&K.cN aV z.2.1 z.2.2.1 z.1&&K.cN aV
 z.2.2.1 z.2.2.2 z.1 then bif q_23 then ai (ac iP (q_21,q)) fun z=>bif decide (z.2.2.2 - z.2.1<c
 /\ z.2.1<z.2.2.1/\z.2.2.1<z.2.2.2/\z.2.2.2<=ae z.1/\ae z.1<=100000)&&K.cN aV z.2.1
 z.2.2.1 z.1&&K.cN aV z.2.2.1 z.2.2.2 z.1 then some (AV.aF [],[(900,ah.mk false 129 6 (ab aq (K.cH z.2.1 z.2.2.2 (K.bB
 aV) z.1)))],[]) else none else some (AV.aF [],q,[]) else none) [(900,ah.mk false 129 6 (ab aq (K.cH z.2.1 z.2.2.2 (K.bB aV) z.1)))]
 else bif q_23 then ai (ac iP (q_21,q)) fun z=>bif decide (z.2.2.2 - z.2.1<c/\z.2.1<z.2.2.1 /\
 z.2.2.1<z.2.2.2/\z.2.2.2<=ae z.1/\ae z.1<=100000)&&K.cN aV z.2.1 z.2.2.1 z.1&&K.cN aV
 z.2.2.1 z.2.2.2 z.1 then some (AV.aF [],[(900,ah.mk false 129 6 (ab aq (K.cH z.2.1 z.2.2.2 (K.bB aV) z.1)))],[]) else none else
 some (AV.aF [],q,[]) else none) [(900,ah.mk false 129 6 (ab aq (K.gZ z.2.2.1 (z.2.2.1 - z.2.1) (z.2.2.2 - z.2.2.1) z.1)))]
 else bif q_22 then ai (ac iP (q_20,q_15)) fun z=>(fun(q:List (Nat×ah))=>bif decide (z.2.2.2 - z.2.1<c
 /\ z.2.1<z.2.2.1/\z.2.2.1<z.2.2.2/\z.2.2.2<=ae z.1/\ae z.1<=100000)&&K.cN aV z.2.1
 z.2.2.1 z.1&&K.cN aV z.2.2.1 z.2.2.2 z.1 then bif q_23 then ai (ac iP (q_21,q)) fun z=>bif
 decide (z.2.2.2 - z.2.1<c/\z.2.1<z.2.2.1/\z.2.2.1<z.2.2.2/\z.2.2.2<=ae z.1/\ae z.1<=100000)
 && K.cN aV z.2.1 z.2.2.1 z.1&&K.cN aV z.2.2.1 z.2.2.2 z.1 then some (AV.aF [],[(900,ah.mk false 129 6 (ab aq (K.cH
 z.2.1 z.2.2.2 (K.bB aV) z.1)))],[]) else none else some (AV.aF [],q,[]) else none) [(900,ah.mk false 129 6 (ab aq (K.cH z.2.1
 z.2.2.2 (K.bB aV) z.1)))] else bif q_23 then ai (ac iP (q_21,q_15)) fun z=>bif decide (z.2.2.2 -
 z.2.1<c/\z.2.1<z.2.2.1/\z.2.2.1<z.2.2.2/\z.2.2.2<=ae z.1/\ae z.1<=100000)&&K.cN aV
 z.2.1 z.2.2.1 z.1&&K.cN aV z.2.2.1 z.2.2.2 z.1 then some (AV.aF [],[(900,ah.mk false 129 6 (ab aq (K.cH z.2.1
 z.2.2.2 (K.bB aV) z.1)))],[]) else none else some (AV.aF [],q_15,[]) else none) (bif decide (q_11<q_18) then decide (q_18<(↑z.2.2.2.1:Int))
 else false)) (bif decide ((↑z.2.1:Int)<q_16) then decide (q_16<q_11) else false)) (.own 900::(vI q_11)::q_19::(vI (↑z.2.2.2.1:Int))::q_2))
 (.own 900::(vI (↑z.2.1:Int))::q_17::(vI q_11)::q_2)) ((vI q_18))) (am.wrap ((↑z.2.2.2.2.2.1:Int) - q_16))) ((vI q_16)))
 (↑(K.bs (fun(k:Nat)=> !aV (al z.1 (q_13 - k) default) (al z.1 k default)) q_12 q_14):Int)) [(900,ah.mk false 129 6 (ab aq z.1))])
 z.2.2.2.2.2.2.2.1) z.2.2.2.2.2.2.2.2) z.2.2.2.2.2.2.1) (↑z.2.2.2.2.1:Int)) (↑z.2.2.1:Int)) ((19,(vI
 q_8))::(18,q_7)::(4,AV.fn (67:FuncId) [])::(3,(vI (↑b:Int)))::(2,q_1)::q_6)) (22,(vI (am.wrap (q_8 - (1:Int)))))) (bQ
 am (q_5+(↑m:Int)))) ((vI q_5))) ((1,q)::q_3)) (am.wrap (qB (bQ aD (am.wrap ((↑a:Int)+(↑b :
 Int)))) (2:Int)))) [(900,ah.mk false 129 6 (ab aq xs))]) [(0, .own 900)]) [AV.fn (67:FuncId) []]) ((vI (↑m:Int)))) ((vI (↑a:Int))):=(lD).symm.trans (by kernel_rfl)
end
end M
namespace M
theorem aqF {E:Env} {fn:Func} {x0 x1 x2 x3 x4:Code} (h:Func.loops fn=[x0,x1,x2,x3,x4]) (h0 : ∀s e s',(E.lp (fg x0) s).val=some (e,s')->ba E x0 s e s') (h1 : ∀s e s',(E.lp (fg x1) s).val=some (e,s')->ba E x1 s e s') (h2 : ∀s e s',(E.lp (fg x2) s).val=some (e,s')->ba E x2 s e s') (h3 : ∀s e s',(E.lp (fg x3) s).val=some (e,s')->ba E x3 s e s') (h4 : ∀s e s',(E.lp (fg x4) s).val=some (e,s')->ba E x4 s e s') :
  ∀x∈Func.loops fn,∀s e s',(E.lp (fg x) s).val=some (e,s')->ba E x s e s':=by
 rw[h];intro x hx
 rcases cK.1 hx with rfl | hx
 .exact h0
 rcases cK.1 hx with rfl | hx
 .exact h1
 rcases cK.1 hx with rfl | hx
 .exact h2
 rcases cK.1 hx with rfl | hx
 .exact h3
 rcases cK.1 hx with rfl | hx
 .exact h4
 cases hx
theorem aqG (c:Nat) (xs:List ay) (a:Nat) (m:Nat) (b:Nat) (p1:b - a<c+1) (p2:a<m) (p3:m<b) (p4:b<=xs.length) (p5:xs.length<=100000) (s1:K.jp aV a m xs) (s2:K.jp aV m b xs) :
  (eu (mj c) [] Tryz.f145 [.own 900,vI a,vI m,vI b, .fn 67 []] [(900,⟨false,129,6,xs.map aq⟩)]).val=some (.aF [],[(900,⟨false,129,6,(K.cH a b (K.bB aV) xs).map aq⟩)],[]):=by
 rw[aqE]
 have wma:=mi (a:=m) (b:=a) (by omega) (by omega)
 have wbm:=mi (a:=b) (b:=m) (by omega) (by omega)
 have e1 : ∀n:Nat,((n:Int)==1)=decide (n=1):=fun n=>by
  by_cases h:n=1
  .subst h;rfl
  .rw[aH h];simp;omega
 by_cases c1:m - a=1
 .obtain⟨x,hx⟩:=iC (show a<xs.length by omega)
  have hm:m=a+1:=by omega
  subst hm
  obtain⟨hb1,hb2, -, -⟩:=K.ub (fun k=>aV (xs.getD k default) (xs.getD a default)) (a+1) b (by omega)
  have hr:=K.apz gC p4 (by omega) hx s2 (fun k=>aV (xs.getD k default) (xs.getD a default)) (fun k y hy=>by simp only[getD_at hx,getD_at hy])
  have q1:a+1<=b/\b<=xs.length/\a<xs.length/\xs.length<=100000:=⟨by omega,p4,by omega,p5⟩
  have q2:1<=K.bs (fun k=>aV (xs.getD k default) (xs.getD a default)) (a+1) b/\K.bs (fun k=>aV (xs.getD k default) (xs.getD a default)) (a+1) b<=xs.length/\xs.length<=100000:=⟨by omega,by omega,p5⟩
  simp only[it,jq,jr,js,jt,ar,ak,aS,wma,e1,aj c1,q1,q2,and_self,decide_true,hr]
 by_cases c2:b - m=1
 .obtain⟨x,hx⟩:=iC (show m<xs.length by omega)
  have hm:b=m+1:=by omega
  subst hm
  obtain⟨hb1,hb2, -, -⟩:=K.ub (fun k=> !aV (xs.getD m default) (xs.getD k default)) a m (by omega)
  have hr:=K.apA gC p4 (by omega) hx s1 (fun k=> !aV (xs.getD m default) (xs.getD k default)) (fun k y hy=>by simp only[getD_at hx,getD_at hy])
  have q1:a<=m/\m<=xs.length/\m<xs.length/\xs.length<=100000:=⟨by omega,by omega,by omega,p5⟩
  have q2:m<xs.length/\xs.length<=100000:=⟨by omega,p5⟩
  simp only[it,jq,jr,js,jt,ar,ak,ap,aS,wma,wbm,e1,aH c1,aj c2,q1,and_self,decide_true,hr]
 have wd:=Io (i:=a) (j:=b) (by omega)
 obtain⟨d,hd⟩ : ∃d,d=(a+b) / 2:=⟨_,rfl⟩
 rw[<-hd]at wd
 have wn:=pP (a:=d) (b:=m) (by omega)
 have wp:=Ic (a:=d+m) (by omega) (by omega)
 by_cases c3:d<m
 .have wb:=mi (a:=d+m) (b:=b) (by omega) (by omega)
  have dm:decide ((d:Int)<(m:Int))=true:=aj (by omega)
  have h0:((a+b) / 2<m/\d+m - b=(a+b) / 2+m - b/\d=(a+b) / 2)\/(m<=(a+b) / 2/\d+m - b=a/\d=m):=by omega
  have hS:=K.aap gC p4 p2 p3 s1 s2 h0 (fun k=> !aV (xs.getD (d+m - 1 - k) default) (xs.getD k default)) (fun k x y hx hy=>by rw[<-hd]at hy;simp only[getD_at hx,getD_at hy])
  obtain⟨hb1,hb2, -, -⟩:=K.ub (fun k=> !aV (xs.getD (d+m - 1 - k) default) (xs.getD k default)) (d+m - b) (d) (by omega)
  rw[<-hd]at hS
  have q5:d+m - b<=d/\d<=xs.length/\d<=d+m - 1+1/\d+m - 1<d+m - b+xs.length/\xs.length<=100000:=⟨by omega,by omega,by omega,by omega,p5⟩
  generalize hs:K.bs (fun k=> !aV (xs.getD (d+m - 1 - k) default) (xs.getD k default)) (d+m - b) (d)=s at hS hb1 hb2
  have ws:=mi (a:=d+m) (b:=s) (by have:=hS.Ip;omega) (by omega)
  generalize he:d+m - s=e at hS ws
  obtain⟨X1,hX1⟩ : ∃X,K.gZ m (m - s) (e - m) xs=X:=⟨_,rfl⟩
  have u1:=hS.has;have u2:=hS.iu;have u3:=hS.hme;have u4:=hS.yy;have u5:=hS.Ip;have u6:=hS.hde
  have v1:=hS.s1;have v2:=hS.s2;have v3:=hS.s3;have v4:=hS.s4;have v5:=hS.cT
  rw[<-hd]at u5 u6 v2 v3 v4 v5
  rw[hX1]at v1 v2 v3 v4 v5
  have l1:X1.length=xs.length:=by rw[<-hX1];exact K.aah (by omega) (by omega)
  obtain⟨X2,hX2⟩ : ∃X,K.cH a d (K.bB aV) X1=X:=⟨_,rfl⟩
  rw[hX2]at v3 v4 v5
  have l2:X2.length=xs.length:=by rw[<-hX2,K.yh gC (by omega) (by omega),l1]
  have g0:([900]:List Nat).getD 0 0=900:=rfl
  have d1:K.cN aV a s X1=true:=by simp only[K.cN,aM];exact v1
  have d2:K.cN aV s d X1=true:=by simp only[K.cN,aM];exact v2
  have d3:K.cN aV d e X2=true:=by simp only[K.cN,aM];exact v3
  have d4:K.cN aV e b X2=true:=by simp only[K.cN,aM];exact v4
  have k2:a<s->s<d->(d - a<c/\a<s/\s<d/\d<=X1.length/\X1.length<=100000):=fun h1 h2=>⟨by omega,h1,h2,by omega,by omega⟩
  have k3:d<e->e<b->(b - d<c/\d<e/\e<b/\b<=X2.length/\X2.length<=100000):=fun h1 h2=>⟨by omega,h1,h2,by omega,by omega⟩
  have bt : ∀ {p q r t:Nat},p<q/\r<t->(bif decide ((p:Int)<(q:Int)) then decide ((r:Int)<(t:Int)) else false)=true:=fun h=>by rw[g7,g7,aj h.1,aj h.2];rfl
  have bf : ∀ {p q r t:Nat},¬(p<q/\r<t)->(bif decide ((p:Int)<(q:Int)) then decide ((r:Int)<(t:Int)) else false)=false:=fun {p q r t} h=>by
   rw[g7,g7]
   by_cases h1:p<q
   .rw[aj h1,aH (fun h2=>h ⟨h1,h2⟩)];rfl
   .rw[aH h1];rfl
  have n2 : ¬(a<s/\s<d)->X2=X1:=fun h=>by
   rw[<-hX2]
   refine K.H9 gC (by omega) (by omega) ?_
   by_cases h1:a<s
   .have:s=d:=by omega
    rw[<-this];exact v1
   .have:s=a:=by omega
    rw[<-this];exact v2
  have n3 : ¬(d<e/\e<b)->X2=K.cH a b (K.bB aV) xs:=fun h=>by
   rw[<-v5]
   refine(K.H9 gC (by omega) (by omega) ?_).symm
   by_cases h1:d<e
   .have:e=b:=by omega
    rw[<-this];exact v3
   .have:e=d:=by omega
    rw[<-this];exact v4
  have n1 : ¬(s<m/\m<e)->X1=xs:=fun h=>by
   rw[<-hX1]
   by_cases h1:s<m
   .rw[show e - m=0 by omega]
    exact K.aao (by omega) (by omega)
   .rw[show m - s=0 by omega]
    exact K.aan (by omega)
  have y1:s<m/\m<e->(s<m/\m<e/\e<=xs.length/\xs.length<=100000):=fun h=>⟨h.1,h.2,by omega,p5⟩
  by_cases t1:s<m/\m<e<;>by_cases t2:a<s/\s<d<;>by_cases t3:d<e/\e<b
  .simp only[j8,it,jq,jr,js,jt,j9,ar,ak,ap,aS,fM,wma,wbm,e1,aH c1,aH c2,wd,wn,wp,dm,wb,q5,and_self,decide_true,hs,ws,bt t1,y1 t1,bt t2,k2 t2.1 t2.2,bt t3,k3 t3.1 t3.2,hX1,hX2,d1,d2,d3,d4]
   try rw[v5]
  .simp only[j8,it,jq,jr,js,jt,j9,ar,ak,ap,aS,fM,wma,wbm,e1,aH c1,aH c2,wd,wn,wp,dm,wb,q5,and_self,decide_true,hs,ws,bt t1,y1 t1,bt t2,k2 t2.1 t2.2,bf t3,hX1,hX2,d1,d2]
   try rw[<-n3 t3]
  .have z2:=n2 t2
   subst z2
   simp only[j8,it,jq,jr,js,jt,j9,ar,ak,ap,aS,wma,wbm,e1,aH c1,aH c2,wd,wn,wp,dm,wb,q5,and_self,decide_true,hs,ws,bt t1,y1 t1,bf t2,bt t3,k3 t3.1 t3.2,hX1,d3,d4]
   try rw[v5]
  .have z2:=n2 t2
   subst z2
   simp only[j8,it,jq,jr,js,jt,j9,ar,ak,ap,aS,wma,wbm,e1,aH c1,aH c2,wd,wn,wp,dm,wb,q5,and_self,decide_true,hs,ws,bt t1,y1 t1,bf t2,bf t3,hX1]
   try rw[<-n3 t3]
  .have z1:=n1 t1
   subst z1
   simp only[j8,it,jq,jr,js,jt,j9,ar,ak,ap,aS,wma,wbm,e1,aH c1,aH c2,wd,wn,wp,dm,wb,q5,and_self,decide_true,hs,ws,bf t1,bt t2,k2 t2.1 t2.2,bt t3,k3 t3.1 t3.2,hX1,hX2,d1,d2,d3,d4]
   try rw[v5]
  .have z1:=n1 t1
   subst z1
   simp only[j8,it,jq,jr,js,jt,j9,ar,ak,ap,aS,wma,wbm,e1,aH c1,aH c2,wd,wn,wp,dm,wb,q5,and_self,decide_true,hs,ws,bf t1,bt t2,k2 t2.1 t2.2,bf t3,hX1,hX2,d1,d2,d3,d4]
   try rw[<-n3 t3]
  .have z2:=n2 t2
   subst z2
   have z1:=n1 t1
   subst z1
   simp only[j8,it,jq,jr,js,jt,j9,ar,ak,ap,aS,wma,wbm,e1,aH c1,aH c2,wd,wn,wp,dm,wb,q5,and_self,decide_true,hs,ws,bf t1,bf t2,bt t3,k3 t3.1 t3.2,hX1,hX2,d1,d2,d3,d4]
   try rw[v5]
  .have z2:=n2 t2
   subst z2
   have z1:=n1 t1
   subst z1
   simp only[j8,it,jq,jr,js,jt,j9,ar,ak,ap,aS,wma,wbm,e1,aH c1,aH c2,wd,wn,wp,dm,wb,q5,and_self,decide_true,hs,ws,bf t1,bf t2,bf t3,hX1,hX2,d1,d2,d3,d4]
   try rw[<-n3 t3]
 .have dm:decide ((d:Int)<(m:Int))=false:=aH (by omega)
  have h0:((a+b) / 2<m/\a=(a+b) / 2+m - b/\m=(a+b) / 2)\/(m<=(a+b) / 2/\a=a/\m=m):=by omega
  have hS:=K.aap gC p4 p2 p3 s1 s2 h0 (fun k=> !aV (xs.getD (d+m - 1 - k) default) (xs.getD k default)) (fun k x y hx hy=>by rw[<-hd]at hy;simp only[getD_at hx,getD_at hy])
  obtain⟨hb1,hb2, -, -⟩:=K.ub (fun k=> !aV (xs.getD (d+m - 1 - k) default) (xs.getD k default)) (a) (m) (by omega)
  rw[<-hd]at hS
  have q5:a<=m/\m<=xs.length/\m<=d+m - 1+1/\d+m - 1<a+xs.length/\xs.length<=100000:=⟨by omega,by omega,by omega,by omega,p5⟩
  generalize hs:K.bs (fun k=> !aV (xs.getD (d+m - 1 - k) default) (xs.getD k default)) (a) (m)=s at hS hb1 hb2
  have ws:=mi (a:=d+m) (b:=s) (by have:=hS.Ip;omega) (by omega)
  generalize he:d+m - s=e at hS ws
  obtain⟨X1,hX1⟩ : ∃X,K.gZ m (m - s) (e - m) xs=X:=⟨_,rfl⟩
  have u1:=hS.has;have u2:=hS.iu;have u3:=hS.hme;have u4:=hS.yy;have u5:=hS.Ip;have u6:=hS.hde
  have v1:=hS.s1;have v2:=hS.s2;have v3:=hS.s3;have v4:=hS.s4;have v5:=hS.cT
  rw[<-hd]at u5 u6 v2 v3 v4 v5
  rw[hX1]at v1 v2 v3 v4 v5
  have l1:X1.length=xs.length:=by rw[<-hX1];exact K.aah (by omega) (by omega)
  obtain⟨X2,hX2⟩ : ∃X,K.cH a d (K.bB aV) X1=X:=⟨_,rfl⟩
  rw[hX2]at v3 v4 v5
  have l2:X2.length=xs.length:=by rw[<-hX2,K.yh gC (by omega) (by omega),l1]
  have g0:([900]:List Nat).getD 0 0=900:=rfl
  have d1:K.cN aV a s X1=true:=by simp only[K.cN,aM];exact v1
  have d2:K.cN aV s d X1=true:=by simp only[K.cN,aM];exact v2
  have d3:K.cN aV d e X2=true:=by simp only[K.cN,aM];exact v3
  have d4:K.cN aV e b X2=true:=by simp only[K.cN,aM];exact v4
  have k2:a<s->s<d->(d - a<c/\a<s/\s<d/\d<=X1.length/\X1.length<=100000):=fun h1 h2=>⟨by omega,h1,h2,by omega,by omega⟩
  have k3:d<e->e<b->(b - d<c/\d<e/\e<b/\b<=X2.length/\X2.length<=100000):=fun h1 h2=>⟨by omega,h1,h2,by omega,by omega⟩
  have bt : ∀ {p q r t:Nat},p<q/\r<t->(bif decide ((p:Int)<(q:Int)) then decide ((r:Int)<(t:Int)) else false)=true:=fun h=>by rw[g7,g7,aj h.1,aj h.2];rfl
  have bf : ∀ {p q r t:Nat},¬(p<q/\r<t)->(bif decide ((p:Int)<(q:Int)) then decide ((r:Int)<(t:Int)) else false)=false:=fun {p q r t} h=>by
   rw[g7,g7]
   by_cases h1:p<q
   .rw[aj h1,aH (fun h2=>h ⟨h1,h2⟩)];rfl
   .rw[aH h1];rfl
  have n2 : ¬(a<s/\s<d)->X2=X1:=fun h=>by
   rw[<-hX2]
   refine K.H9 gC (by omega) (by omega) ?_
   by_cases h1:a<s
   .have:s=d:=by omega
    rw[<-this];exact v1
   .have:s=a:=by omega
    rw[<-this];exact v2
  have n3 : ¬(d<e/\e<b)->X2=K.cH a b (K.bB aV) xs:=fun h=>by
   rw[<-v5]
   refine(K.H9 gC (by omega) (by omega) ?_).symm
   by_cases h1:d<e
   .have:e=b:=by omega
    rw[<-this];exact v3
   .have:e=d:=by omega
    rw[<-this];exact v4
  have n1 : ¬(s<m/\m<e)->X1=xs:=fun h=>by
   rw[<-hX1]
   by_cases h1:s<m
   .rw[show e - m=0 by omega]
    exact K.aao (by omega) (by omega)
   .rw[show m - s=0 by omega]
    exact K.aan (by omega)
  have y1:s<m/\m<e->(s<m/\m<e/\e<=xs.length/\xs.length<=100000):=fun h=>⟨h.1,h.2,by omega,p5⟩
  by_cases t1:s<m/\m<e<;>by_cases t2:a<s/\s<d<;>by_cases t3:d<e/\e<b
  .simp only[j8,it,jq,jr,js,jt,j9,ar,ak,ap,aS,wma,wbm,e1,aH c1,aH c2,wd,wn,wp,dm,q5,and_self,decide_true,hs,ws,bt t1,y1 t1,bt t2,k2 t2.1 t2.2,bt t3,k3 t3.1 t3.2,hX1,hX2,d1,d2,d3,d4]
   try rw[v5]
  .simp only[j8,it,jq,jr,js,jt,j9,ar,ak,ap,aS,wma,wbm,e1,aH c1,aH c2,wd,wn,wp,dm,q5,and_self,decide_true,hs,ws,bt t1,y1 t1,bt t2,k2 t2.1 t2.2,bf t3,hX1,hX2,d1,d2]
   try rw[<-n3 t3]
  .have z2:=n2 t2
   subst z2
   simp only[j8,it,jq,jr,js,jt,j9,ar,ak,ap,aS,wma,wbm,e1,aH c1,aH c2,wd,wn,wp,dm,q5,and_self,decide_true,hs,ws,bt t1,y1 t1,bf t2,bt t3,k3 t3.1 t3.2,hX1,d3,d4]
   try rw[v5]
  .have z2:=n2 t2
   subst z2
   simp only[j8,it,jq,jr,js,jt,j9,ar,ak,ap,aS,wma,wbm,e1,aH c1,aH c2,wd,wn,wp,dm,q5,and_self,decide_true,hs,ws,bt t1,y1 t1,bf t2,bf t3,hX1]
   try rw[<-n3 t3]
  .have z1:=n1 t1
   subst z1
   simp only[j8,it,jq,jr,js,jt,j9,ar,ak,ap,aS,wma,wbm,e1,aH c1,aH c2,wd,wn,wp,dm,q5,and_self,decide_true,hs,ws,bf t1,bt t2,k2 t2.1 t2.2,bt t3,k3 t3.1 t3.2,hX1,hX2,d1,d2,d3,d4]
   try rw[v5]
  .have z1:=n1 t1
   subst z1
   simp only[j8,it,jq,jr,js,jt,j9,ar,ak,ap,aS,wma,wbm,e1,aH c1,aH c2,wd,wn,wp,dm,q5,and_self,decide_true,hs,ws,bf t1,bt t2,k2 t2.1 t2.2,bf t3,hX1,hX2,d1,d2,d3,d4]
   try rw[<-n3 t3]
  .have z2:=n2 t2
   subst z2
   have z1:=n1 t1
   subst z1
   simp only[j8,it,jq,jr,js,jt,j9,ar,ak,ap,aS,wma,wbm,e1,aH c1,aH c2,wd,wn,wp,dm,q5,and_self,decide_true,hs,ws,bf t1,bf t2,bt t3,k3 t3.1 t3.2,hX1,hX2,d1,d2,d3,d4]
   try rw[v5]
  .have z2:=n2 t2
   subst z2
   have z1:=n1 t1
   subst z1
   simp only[j8,it,jq,jr,js,jt,j9,ar,ak,ap,aS,wma,wbm,e1,aH c1,aH c2,wd,wn,wp,dm,q5,and_self,decide_true,hs,ws,bf t1,bf t2,bf t3,hX1,hX2,d1,d2,d3,d4]
   try rw[<-n3 t3]
theorem aaJ : ∀c,fX Tryz.prog au (Im c)
 | 0=>by
  refine GL ⟨Tryz.f145,by kernel_rfl,by kernel_rfl,by kernel_rfl⟩ (fun x hp _ _=>?_)
  simp[Il]at hp
 | c+1=>by
  refine mX (mv:=[]) Tryz.f145 (by kernel_rfl) (by kernel_rfl) (aqy c (aaJ c)) mixed (aqF (x0:=aw Tryz.f145 0) (x1:=aw Tryz.f145 1) (x2:=aw Tryz.f145 2) (x3:=aw Tryz.f145 3) (x4:=aw Tryz.f145 4) (by kernel_rfl) (bS ?_) (bS ?_) (bS ?_) (bS ?_) (bS ?_)) ?_
  .rintro⟨xs,a,i,j⟩ hp
   exact aqz c xs a i j hp
  .rintro⟨xs,i,k⟩ hp
   exact aqA c xs i k hp
  .rintro⟨xs,m,i,j⟩ hp
   exact aqB c xs m i j hp
  .rintro⟨xs,i,k⟩ hp
   exact aqC c xs i k hp
  .rintro⟨xs,a,m,b,d,n,i,j,p⟩ hp
   exact aqD c xs a m b d n i j p hp
  .rintro⟨xs,a,m,b⟩ hpre hok hokh
   have hpre:Il (c+1) xs a m b=true:=hpre
   simp only[Il,aG,aM,K.cN]at hpre
   obtain⟨⟨⟨p1,p2,p3,p4,p5⟩,s1⟩,s2⟩:=hpre
   exact aqG c xs a m b p1 p2 p3 p4 p5 s1 s2
def aaK:fT:=Im 100001
theorem aqH:fX Tryz.prog au aaK:=aaJ _
end M
end Go.Proofs.YtaobkfpnebbohaaGreatDoor
