/- What is proved here: The machine is sound: results, regions and open orders (no statement of the seat). -/
import Derived.WalkKit
import Derived.Laws.AppendOwn
import Derived.Laws.Small
import Derived.RowKit
import Derived.ChangeKeysEq
import Derived.Below
import Derived.Laws.Tables
import Derived.Great.BuildSlice
import Derived.Laws.MakeOwn
import Derived.Orders
open Array renaming eq_empty_of_size_eq_zero→aFB,ext'→vE,foldl_toList→aFA,getD_eq_getD_getElem?→k8,getElem?_append_left→K4,getElem?_eq_getElem→qv,getElem?_map→aFE,getElem?_range→aFF,getElem?_setIfInBounds→FC,getElem?_toList→BU,length_toList→nB,size_append→vJ
open Bool renaming and_eq_true→aG,false_eq_true→ij,not_eq_true→BR,not_eq_true'→mD
open ByteArray renaming size_append→gE,size_extract→K1
open ForInStep renaming yield→aFz
open Go.Array renaming range_zero'→aFC
open Go.Builtin renaming append_→vH,len_→BS,zeroCells→gF
open Go.Instr renaming field→UO,fieldAt→UN,fill→BT,index→agt,indexAt→UP,loadAt→FA,slice→UQ,sliceAt→pf,sliceBound→agu,sliceBounds→UR,sureAddr→KZ
open Go.IntKind renaming bits→fA,max→iX,min→jB,signed→ii,wrap→bQ
open Go.Op renaming bytesLess→UK,equalIn→pd
open Go.Oper renaming upon_value→sG,wp→ol
open Go.Result renaming andThen_ok→kZ
open Go.Sem renaming run→KW,run_bind→lX,run_pure→oj
open Go.World renaming cell?→lW,cell?_of_block→aFy
open Int renaming toNat_natCast→om
open List renaming all_eq_true→bP,append_assoc→cq,cons_append→k6,drop_eq_nil_of_le→qr,eq_nil_of_length_eq_zero→sI,flatMap_def→vK,foldl_cons→lY,foldl_nil→KV,getElem?_append→KY,getElem?_append_left→mC,getElem?_append_right→kw,getElem?_drop→sH,getElem?_eq_getElem→bC,getElem?_eq_some_iff→cO,getElem?_map→dM,getElem?_range→K3,getElem?_replicate→aFD,getElem?_take→mB,getElem?_toArray→FB,getElem_mem→iZ,length→ae,length_append→ck,length_cons→gq,length_drop→fe,length_pos_iff→UX,length_replicate→vF,length_take→eY,map_congr_left→k9,map_cons→gP,map_map→K2,mem_cons→cK,mem_flatMap→eF,mem_map→eQ,mem_map_of_mem→BX,mem_of_getElem?→cL,nil_append→eh,nodup_cons→BY,replicate→ig,reverse_cons→K5,size_toArray→l3
open List.cons renaming injEq→qq
open Nat renaming add_assoc→K0,add_mul→fB,add_zero→jP,beq→bk,ble→aP,blt→lV,div_add_mod→vG,div_lt_iff_lt_mul→FE,eq_zero_or_pos→US,le_mul_of_pos_right→UT,le_refl→bR,le_trans→iW,mod_eq_of_lt→BV,mod_lt→sK,mul_add_mod→UV,mul_comm→oq,mul_le_mul_right→iY,pos_of_ne_zero→UU,zero_add→gD
open Option renaming bind_eq_some_iff→UL,getD_some→k7,map→agv,map_eq_some_iff→eZ,map_some→lZ
open Option.some renaming inj→jC,injEq→eX
open Prod renaming fst→K6
open Prod.mk renaming injEq→ny
namespace Go.Proofs.YtaobkfpnebbohaaGreatDoor
theorem aj{p:Prop}[Decidable p](h:p):decide p=true:=_root_.decide_eq_true h
theorem aH{p:Prop}[Decidable p](h:¬p):decide p=false:=_root_.decide_eq_false h
theorem aM{p:Prop}[Decidable p]:(decide p=true)=p:=_root_.decide_eq_true_eq
theorem ak{α:Sort _}(a b:α):cond true a b=a:=rfl
theorem ap{α:Sort _}(a b:α):cond false a b=b:=rfl
end Go.Proofs.YtaobkfpnebbohaaGreatDoor
namespace Go.Proofs.YtaobkfpnebbohaaGreatDoor.M
open Go
set_option linter.unusedVariables false
set_option linter.unusedSimpArgs false
section
inductive AV where
 | bL
 | e0
 | v (x:Value)
 | agg (cs:List AV)
 | aF (vs:List AV)
 | sl (rows:List (List AV))
 | own (k:Nat)
 | win (k lo n:Nat)
 | ptr (k i off:Nat)
 | bD (row:List AV) (off:Nat)
 | fn (f:FuncId) (cap:List AV)
 | gd (j:Nat) (b want:Bool) (a:AV)
 | nz (b:Bool) (rows:List (List AV))
instance : Inhabited AV := ⟨.bL⟩
abbrev Row:=List AV
structure ah where
 box:Bool
 ty:Nat
 sz:Nat
 rows:List Row
def ah.shape (b:ah):Bool×Nat×Nat:=(b.box,b.sz,b.rows.length)
abbrev Heap:=List (Nat×ah)
abbrev dG:=List (Nat×AV)
def an {α:Type}:List (Nat×α)->Nat->Option α
 | [],_=>none
 | (k,x)::r,n=>match bk n k with
  | true=>some x
  | false=>an r n
def mG {α:Type}:List (Nat×α)->Nat->α->List (Nat×α)
 | [],n,y=>[(n,y)]
 | (k,x)::r,n,y=>match bk n k with
  | true=>(n,y)::r
  | false=>match aP k n with
   | true=>(n,y)::(k,x)::r
   | false=>(k,x)::mG r n y
def iy {α:Type} (m:List (Nat×α)):List (Nat×α)->List (Nat×α)
 | []=>m
 | (k,x)::r=>iy (mG m k x) r
structure TI where
 agg:Bool
 size:Nat
 wU:List (Nat×Bool×Nat)
 zero:List AV
 elem:Nat
 bv:Nat
 oI:Nat
 wW:List AV
 kind:Option IntKind
 desc:Nat
 eqs:List Nat
structure St where
 t:dG
 h:Heap
inductive Ex where
 | normal | exit (id:Nat) | ret
inductive T (α:Type):Type 1 where
 | ret (a:α)
 | fail
 | bM (b:Bool) (x y:T α)
 | gS {β:Type} (o:Option β) (f:β->T α)
def T.bind {α β:Type}:T α->(α->T β)->T β
 | .ret a,g=>g a
 | .fail,_=> .fail
 | .bM b x y,g=> .bM b (x.bind g) (y.bind g)
 | .gS o f,g=> .gS o fun z=>(f z).bind g
def T.val {α:Type}:T α->Option α
 | .ret a=>some a
 | .fail=>none
 | .bM b x y=>match b with
  | true=>x.val
  | false=>y.val
 | .gS o f=>match o with
  | some z=>(f z).val
  | none=>none
structure GR where
 row:List AV
 cond:Array Value->Prop
structure Env where
 ty:TypeId->Option TI
 dH:Nat->Option GR
 flat:FuncId->Bool
 fn:FuncId->List AV->T (AV×Heap)
 lp:Nat->St->T (Ex×St)
 look:Nat->List Row->Nat->T Row
 mv:Nat->Bool
 hp:FuncId->Bool
 fh:FuncId->List AV->Heap->T (AV×Heap×List Nat)
def rowAt (E:Env) (b:ah) (i:Nat):T Row:=match b.box with
 | true=> .gS b.rows[i]? .ret
 | false=>E.look b.ty b.rows i
def pj:Value->AV
 | .slice none 0 0=> .e0
 | .agg cs=> .agg (cs.toList.map .v)
 | x=> .v x
def Cc:Value->Bool
 | .bool _=>true
 | .int k n=>decide (k.min<=n)&&decide (n<=k.max)
 | .string s=>aP s.size 9223372036854775807
 | .nilFunc=>true
 | .nilIface=>true
 | .pointer none=>true
 | _=>false
def Lx:Value->Bool
 | .slice none 0 0=>true
 | .agg cs=>cs.toList.all Cc
 | x=>Cc x
def bJ (t:dG) (n:Nat):AV:=match an t n with | some a=>a | none=> .bL
def ev (E:Env) (t:dG):Operand->AV
 | .tmp n=>bJ t n
 | .const v=>match Lx v with
  | true=>pj v
  | false=> .bL
 | .global g=>match E.dH g with | some r=> .bD r.row 0 | none=> .bL
 | .func f=> .fn f []
def asked (b want:Bool):Bool:=match want with
 | true=>b
 | false=> !b
def fC:AV->AV
 | .gd _ _ _ _=> .bL
 | a=>a
def v7:AV->AV
 | .gd _ _ _ _=> .bL
 | .aF _=> .bL
 | a=>a
def nI (g:Option (Nat×Bool)):AV->AV
 | .gd i b w a=>match g with
  | some (n,wt)=>match bk n i&&asked w wt with
   | true=>v7 a
   | false=> .gd i b w a
  | none=> .gd i b w a
 | a=>a
def dk:AV->List Nat
 | .own j=>[j]
 | .win j _ _=>[j]
 | .ptr j _ _=>[j]
 | _=>[]
def du:AV->List Nat
 | .fn _ cs=>cs.flatMap dk
 | a=>dk a
def e8:AV->List Nat
 | .agg cs=>cs.flatMap du
 | a=>du a
def bK:AV->List Nat
 | .aF cs=>cs.flatMap e8
 | .gd _ _ _ a=>e8 a
 | a=>e8 a
def dw (ks:List Nat) (a:AV):AV:=match (bK a).any fun k=>ks.elem k with
 | true=> .bL
 | false=>a
def ah.kill (ks:List Nat) (b:ah):ah:=match b.box with
 | true=>⟨b.box,b.ty,b.sz,b.rows.map (·.map (dw ks))⟩
 | false=>b
def St.kill (s:St) (ks:List Nat):St:=⟨s.t.map fun p=>(p.1,dw ks p.2),s.h.map fun p=>(p.1,p.2.kill ks)⟩
def iz (hg:Nat->Option ah):AV->AV
 | .own k=>match hg k with
  | some b=>match b.box with
   | true=> .bL
   | false=> .sl b.rows
  | none=> .bL
 | .win k lo n=>match hg k with
  | some b=>match b.box with
   | true=> .bL
   | false=> .sl ((b.rows.drop lo).take n)
  | none=> .bL
 | .ptr _ _ _=> .bL
 | .bD _ _=> .bL
 | .gd _ _ _ _=> .bL
 | .e0=> .sl []
 | .v x=> .v x
 | .sl r=> .sl r
 | .nz _ r=> .sl r
 | .fn f []=> .fn f []
 | _=> .bL
def mH (hg:Nat->Option ah):AV->AV
 | .ptr k i off=>match hg k with
  | some b=>match b.box with
   | true=>match b.rows[i]? with
    | some row=> .bD (row.map (iz hg)) off
    | none=> .bL
   | false=> .bL
  | none=> .bL
 | .bD row off=> .bD row off
 | a=>iz hg a
def ov (hg:Nat->Option ah):AV->AV
 | .fn f cs=> .fn f (cs.map (mH hg))
 | a=>mH hg a
def oy (hg:Nat->Option ah):AV->AV
 | .agg cs=> .agg (cs.map (ov hg))
 | a=>ov hg a
def oz (hg:Nat->Option ah):AV->AV
 | .aF cs=> .aF (cs.map (oy hg))
 | a=>oy hg a
def mI:AV->AV
 | .e0=> .sl []
 | .v x=> .v x
 | .sl r=> .sl r
 | .nz _ r=> .sl r
 | .fn f []=> .fn f []
 | _=> .bL
def cellsOf:AV->List AV
 | .agg cs=>cs
 | .bL=>[]
 | .aF _=>[]
 | .gd _ _ _ _=>[]
 | a=>[a]
def mJ:AV->Bool
 | .bL=>false
 | .aF _=>false
 | .gd _ _ _ _=>false
 | _=>true
def idx:Int->Option Nat
 | .ofNat n=>some n
 | .negSucc _=>none
def Ly (op:BinOp) (kd:IntKind) (a b:Int):T AV:=match op with
 | .add=> .ret (.v (.int kd (kd.wrap (a+b))))
 | .sub=> .ret (.v (.int kd (kd.wrap (a - b))))
 | .mul=> .ret (.v (.int kd (kd.wrap (a*b))))
 | .quo=> .bM (b==0) .fail (.ret (.v (.int kd (kd.wrap (a.tdiv b)))))
 | .rem=> .bM (b==0) .fail (.ret (.v (.int kd (a.tmod b))))
 | .eql=> .ret (.v (.bool (a==b)))
 | .neq=> .ret (.v (.bool (a != b)))
 | .lss=> .ret (.v (.bool (decide (a<b))))
 | .leq=> .ret (.v (.bool (decide (a<=b))))
 | .gtr=> .ret (.v (.bool (decide (b<a))))
 | .geq=> .ret (.v (.bool (decide (b<=a))))
 | .shr=> .bM (b==1) (.ret (.v (.int kd (a.fdiv 2)))) (.bM (decide (0<=b)&&decide (b<=64)) (.ret (.v (.int kd (a / (2:Int) ^ min b.toNat kd.bits)))) .fail)
 | .shl=> .bM (decide (0<=b)&&decide (b<=64)) (.ret (.v (.int kd (kd.wrap (a*(2:Int) ^ min b.toNat kd.bits))))) .fail
 | .and=> .ret (.v (.int kd (bits .and kd a b)))
 | .or=> .ret (.v (.int kd (bits .or kd a b)))
 | .xor=> .ret (.v (.int kd (bits .xor kd a b)))
 | .andNot=> .ret (.v (.int kd (bits .andNot kd a b)))
def LA (op:BinOp) (x y:ByteArray):T AV:=match op with
 | .add=> .bM (aP (x.size+y.size) 9223372036854775807) (.ret (.v (.string (x++y)))) .fail
 | .eql=> .ret (.v (.bool (x.toList==y.toList)))
 | .neq=> .ret (.v (.bool (!(x.toList==y.toList))))
 | .lss=> .ret (.v (.bool (UK x.toList y.toList)))
 | .leq=> .ret (.v (.bool (UK x.toList y.toList||x.toList==y.toList)))
 | .gtr=> .ret (.v (.bool (!(UK x.toList y.toList||x.toList==y.toList))))
 | .geq=> .ret (.v (.bool (!(UK x.toList y.toList))))
 | _=> .fail
def oA:IntKind->Nat
 | .i8=>0 | .i16=>1 | .i32=>2 | .i64=>3 | .u8=>4 | .u16=>5 | .u32=>6 | .u64=>7
def Vd (op:BinOp):Value->Value->T AV
 | .int ka a, .int kb b=>match bk (oA ka) (oA kb)with
  | true=>Ly op ka a b
  | false=> .fail
 | .string a, .string b=>LA op a b
 | _,_=> .fail
def agZ:Value->Bool
 | .bool _=>true
 | _=>false
def Cd (k:Nat):Value->Value->Option Bool
 | .int ka a, .int kb b=>match bk k 0&&bk (oA ka) (oA kb)with | true=>some (a==b) | false=>none
 | .string a, .string b=>match bk k 1 with | true=>some (a.toList==b.toList) | false=>none
 | .bool a, .bool b=>match bk k 2 with | true=>some (a==b) | false=>none
 | _,_=>none
def Ve (k:Nat):AV->AV->Option Bool
 | .v a, .v b=>Cd k a b
 | _,_=>none
def Ce:List Nat->List AV->List AV->Option Bool
 | [],[],[]=>some true
 | k::ks,a::x,b::y=>match Ve k a b with
  | some p=>match Ce ks x y with
   | some q=>some (p&&q)
   | none=>none
  | none=>none
 | _,_,_=>none
def LB (E:Env) (op:BinOp) (t:TypeId) (a b:List AV):T AV:=match E.ty t with
 | some ti=>match ti.eqs with
  | k::ks=>match Ce (k::ks) a b with
   | some r=>match op with
    | .eql=> .ret (.v (.bool r))
    | .neq=> .ret (.v (.bool (!r)))
    | _=> .fail
   | none=> .fail
  | []=> .fail
 | none=> .fail
def LC (E:Env) (op:BinOp) (t:TypeId):Value->Value->T AV
 | .bool a, .bool b=>match E.ty t with
  | some ti=>match bk ti.desc 1 with
   | true=>match op with
    | .eql=> .ret (.v (.bool (a==b)))
    | .neq=> .ret (.v (.bool (!(a==b))))
    | _=> .fail
   | false=> .fail
  | none=> .fail
 | _,_=> .fail
def LD (E:Env) (op:BinOp) (t:TypeId):AV->AV->T AV
 | .v x, .v y=>match agZ x with
  | true=>LC E op t x y
  | false=>Vd op x y
 | .agg a, .agg b=>LB E op t a b
 | _,_=> .fail
def LF (op:UnOp):AV->T AV
 | .v (.bool b)=>match op with | .not=> .ret (.v (.bool (!b))) | _=> .fail
 | .v (.int kd n)=>match op with | .neg=> .ret (.v (.int kd (kd.wrap (0 - n)))) | _=> .fail
 | _=> .fail
def nJ:AV->Option Bool
 | .v (.bool b)=>some b
 | _=>none
def mK (c:Nat) (side:Bool):AV->AV
 | .gd j b want a=>match bk j c&&(match side with | true=>want | false=> !want)with
  | true=>a
  | false=> .gd j b want a
 | a=>a
def FN (c:Nat) (side:Bool):AV->Bool
 | .gd j f want _=>match bk j c&&asked side want with
  | true=> !f
  | false=>false
 | _=>false
def Vf (c:Nat) (b:Bool) (x y:AV):T AV:=
 match nJ (mK c true x)with
 | some p=>match nJ (mK c false y)with
  | some q=> .ret (.v (.bool (match b with | true=>p | false=>q)))
  | none=> .bM b (.ret (mK c true x)) (.ret (mK c false y))
 | none=> .bM b (.ret (mK c true x)) (.ret (mK c false y))
def Vg:AV->Bool
 | .gd _ _ _ .bL=>true
 | _=>false
def LG (c:Nat) (b:Bool) (x y:AV):T AV:=match Vg x with
 | true=> .bM (FN c true x) (.ret (mK c false y)) .fail
 | false=>match Vg y with
  | true=> .bM (FN c false y) (.ret (mK c true x)) .fail
  | false=>Vf c b x y
def FO (ti:TI) (row:Row) (off:Nat):T AV:=match ti.agg with
 | true=> .bM (aP (off+ti.size) row.length) (.ret (.agg ((row.drop off).take ti.size))) .fail
 | false=> .gS row[off]? .ret
def putAt (cs:List AV) (o:Nat) (xs:List AV):List AV:=cs.take o++xs++cs.drop (o+xs.length)
def pm (ti:TI) (ρ:Operand->AV):List (Nat×Operand)->List AV->Option (List AV)
 | [],cs=>some cs
 | (f,x)::r,cs=>match ti.wU[f]? with
  | some (o,_,n)=>match mJ (ρ x)&&bk (cellsOf (ρ x)).length n&&aP (o+n) cs.length with
   | true=>pm ti ρ r (putAt cs o (cellsOf (ρ x)))
   | false=>none
  | none=>none
def rowsOf (hg:Nat->Option ah):AV->Option (List Row)
 | .sl rows=>some rows
 | .nz _ rows=>some rows
 | .own k=>match hg k with
  | some b=>match b.box with
   | true=>none
   | false=>some b.rows
  | none=>none
 | .e0=>some []
 | _=>none
def cz (d:Nat) (k:Nat):Nat:=1000*(d+1)+k
def v8 (f:Nat->Nat):AV->AV
 | .own k=> .own (f k)
 | .win k lo n=> .win (f k) lo n
 | .ptr k i o=> .ptr (f k) i o
 | a=>a
def wc (f:Nat->Nat):AV->AV
 | .fn g cs=> .fn g (cs.map (v8 f))
 | a=>v8 f a
def we (f:Nat->Nat):AV->AV
 | .agg cs=> .agg (cs.map (wc f))
 | a=>wc f a
def wg (f:Nat->Nat):AV->AV
 | .aF cs=> .aF (cs.map (we f))
 | .gd j b w a=> .gd j b w (we f a)
 | a=>we f a
def ah.fD (f:Nat->Nat) (b:ah):ah:=match b.box with
 | true=>⟨b.box,b.ty,b.sz,b.rows.map (·.map (wc f))⟩
 | false=>b
def jc (b:ah):List Nat:=match b.box with
 | true=>b.rows.flatMap (·.flatMap bK)
 | false=>[]
def gb (acc:List Nat):List Nat->List Nat
 | []=>acc
 | k::r=>match acc.elem k with
  | true=>gb acc r
  | false=>gb (acc++[k]) r
def fE (hg:Nat->Option ah) (k:Nat):List Nat:=match hg k with
 | some b=>jc b
 | none=>[]
def reach (hg:Nat->Option ah):Nat->List Nat->List Nat
 | 0,ks=>ks
 | n+1,ks=>reach hg n (gb ks (ks.flatMap (fE hg)))
def sS (hg:Nat->Option ah) (ks:List Nat):Bool:=ks.all fun k=>match hg k with
 | some b=>(jc b).all fun j=>ks.elem j
 | none=>false
def ik:List Nat->Nat->Nat
 | [],_=>0
 | j::r,k=>match bk j k with
  | true=>0
  | false=>ik r k+1
def nodupB:List Nat->Bool
 | []=>true
 | j::r=>match r.elem j with
  | true=>false
  | false=>nodupB r
def sT (k:Nat):Bool:=aP 900 k&&lV k 1000
def ep (ks:List Nat) (k:Nat):Nat:=900+ik ks k
def jD (hg:Nat->Option ah) (ks:List Nat):List Nat->Heap->Heap
 | [],acc=>acc
 | k::r,acc=>match hg k with
  | some b=>jD hg ks r ((ep ks k,b.fD (ep ks))::acc)
  | none=>jD hg ks r acc
section
variable (E:Env) (hg:Nat->Option ah) (ks:List Nat) (d:Nat) (nw:Bool) (H:Heap) (mv:List Nat)
def cV (k:Nat):Nat:=match aP 900 k with
 | true=>ks.getD (k - 900) 0
 | false=>cz d k
def FQ (zero:List AV) (t:Nat):Nat:=match zero with
 | [.v (.pointer none), .e0]=>t
 | _=>0
def qF (zero:List AV):List AV:=match zero with
 | [.v (.pointer none), .e0]=>[.v (.pointer none), .v (.slice none 0 0)]
 | z=>z
def wh:Bool:=
 nodupB (H.map (·.1))&&H.all (fun q=>match aP 900 q.1 with
  | true=>lV (q.1 - 900) ks.length
  | false=>nw&&lV q.1 4&&(match hg (cz d q.1)with | none=>true | some _=>false)) &&
 (ks.all fun k=>(H.map (·.1)).elem (ep ks k))&&mv.all (fun k=>aP 900 k&&lV (k - 900) ks.length)&&mv.all (fun k=> !(sT (cV ks d k))||E.mv (cV ks d k))
def sU (E:Env) (hg:Nat->Option ah) (ks:List Nat) (d:Nat) (nw:Bool) (p:AV×Heap×List Nat):T (AV×Heap×List Nat):=match wh E hg ks d nw p.2.1 p.2.2 with
 | true=> .ret (wg (cV ks d) p.1,p.2.1.map (fun q=>(cV ks d q.1,q.2.fD (cV ks d))),p.2.2.map (cV ks d))
 | false=> .fail
def LH (E:Env) (hg:Nat->Option ah) (dst:Option Tmp) (f:FuncId) (args:List AV) (ks:List Nat):T (AV×Heap×List Nat):=match sS hg ks&&aP ks.length 99&&nodupB ks with
 | true=>(E.fh f (args.map (wg (ep ks))) (jD hg ks ks [])).bind fun p=>match dst with
  | some d=>sU E hg ks d true p
  | none=>sU E hg ks 0 false (.bL,p.2)
 | false=> .fail
def qG (E:Env) (hg:Nat->Option ah) (dst:Option Tmp) (f:FuncId) (args:List AV):T (AV×Heap×List Nat):=
 LH E hg dst f args (reach hg 2 (gb [] (args.flatMap bK)))
def qH (hg:Nat->Option ah) (d:Nat):Heap->Bool
 | []=>true
 | p::r=>match lV p.1 4 with
  | true=>match hg (cz d p.1)with
   | none=>qH hg d r
   | some _=>false
  | false=>false
def fresh (hg:Nat->Option ah) (dst:Option Tmp):Option Nat:=match dst with
 | some d=>match lV d 900 with
  | true=>match hg d with
   | none=>some d
   | some _=>none
  | false=>none
 | none=>none
def made (hg:Nat->Option ah) (dst:Option Tmp) (av:Nat->AV) (b:ah):T (AV×Heap):=match fresh hg dst with
 | some d=> .ret (av d,[(d,b)])
 | none=> .fail
def plain (a:AV):T (AV×Heap):= .ret (a,[])
def T.plain (t:T AV):T (AV×Heap):=t.bind M.plain
def fF (ρ:Operand->AV):Option Operand->Option AV
 | some x=>some (ρ x)
 | none=>none
def qI:Option AV->Nat->T Nat
 | none,n=> .ret n
 | some (.v (.int _ l)),_=> .gS (idx l) .ret
 | _,_=> .fail
def isZero:Option AV->Bool
 | some (.v (.int _ (.ofNat 0)))=>true
 | _=>false
def LI (rows:List Row) (l m:Nat) (lo hi:Option AV):List Row:=match hi with
 | none=>rows.drop l
 | some _=>match lo with
  | none=>rows.take m
  | some _=>(rows.take m).drop l
def LJ (n:Nat) (rows:List Row) (lo hi:Option AV):T AV:=
 (qI lo 0).bind fun l=>(qI hi rows.length).bind fun m=> .bM (aP l m&&aP m rows.length&&rows.all fun r=>bk r.length n)
  (.ret (.sl (LI rows l m lo hi))) .fail
def LK (s:ByteArray) (lo hi:Option AV):T AV:=
 (qI lo 0).bind fun l=>(qI hi s.size).bind fun m=> .bM (aP l m&&aP m s.size) (.ret (.v (.string (s.extract l m)))) .fail
def Vh (ti:TI) (x:AV) (lo hi mx:Option AV):T AV:=match mx with
 | none=>match x with
  | .sl rows=>match bk ti.desc 4 with
   | true=>LJ ti.bv rows lo hi
   | false=> .fail
  | .v (.string s)=>match bk ti.desc 2 with
   | true=>LK s lo hi
   | false=> .fail
  | _=> .fail
 | some _=>match isZero mx&&isZero hi&&(match lo with | none=>true | some _=>false)&&bk ti.desc 4 with
  | true=>match x with
   | .sl _=> .ret .e0
   | .own _=> .ret .e0
   | .e0=> .ret .e0
   | _=> .fail
  | false=> .fail
def FR (k l0 n:Nat) (lo hi:Option AV):T AV:=
 (qI lo 0).bind fun l=>(qI hi n).bind fun m=> .bM (aP l m&&aP m n) (.ret (.win k (l0+l) (m - l))) .fail
def sV (hg:Nat->Option ah) (ti:TI) (k:Nat):Option Nat:=match hg k with
 | some b=>match !b.box&&bk b.sz ti.bv with
  | true=>some b.rows.length
  | false=>none
 | none=>none
def wj (hg:Nat->Option ah) (ti:TI) (x:AV) (lo hi:Option AV):T AV:=match bk ti.desc 4 with
 | true=>match x with
  | .own k=>match sV hg ti k with
   | some n=>FR k 0 n lo hi
   | none=> .fail
  | .win k l0 n=>match sV hg ti k with
   | some _=>FR k l0 n lo hi
   | none=> .fail
  | _=> .fail
 | false=> .fail
def Vi (E:Env):Option Tmp->Bool
 | some d=>E.mv d
 | none=>false
def wl (hg:Nat->Option ah) (ti:TI):AV->T AV
 | .v (.string s)=>match bk ti.desc 2 with
  | true=> .ret (.v (.int .i64 s.size))
  | false=> .fail
 | .sl rows=>match bk ti.desc 4 with
  | true=> .ret (.v (.int .i64 rows.length))
  | false=> .fail
 | .own j=>match hg j with
  | some b=>match bk ti.desc 4 with
   | true=> .ret (.v (.int .i64 b.rows.length))
   | false=> .fail
  | none=> .fail
 | .e0=>match bk ti.desc 4 with
  | true=> .ret (.v (.int .i64 0))
  | false=> .fail
 | .win _ _ n=>match bk ti.desc 4 with
  | true=> .ret (.v (.int .i64 n))
  | false=> .fail
 | _=> .fail
def wm:AV->Option Int
 | .v (.int _ n)=>some n
 | _=>none
def int64:AV->Option Int
 | .v (.int .i64 n)=>some n
 | _=>none
def LL (box:Bool) (sz n:Nat):Bool:=bk sz n&&(!box || !(bk sz 0))
def ag0:AV->Bool
 | .ptr _ _ _=>true
 | _=>false
def Vj (rows:List Row):Bool:=rows.any fun r=>r.any ag0
def wo (E:Env) (hg:Nat->Option ah) (ti:TI) (x i:AV):T AV:=match wm i with
 | some n=> .gS (idx n) fun j=>match x with
  | .sl rows=>(E.look ti.elem rows j).bind fun row=> .bM (bk row.length ti.bv) (.ret (.bD row 0)) .fail
  | .own b=>match hg b with
   | some blk=>match !blk.box&&bk blk.sz ti.bv with
    | true=> .bM (decide (j<blk.rows.length)) (.ret (.ptr b j 0)) .fail
    | false=> .fail
   | none=> .fail
  | .win b lo n=>match hg b with
   | some blk=>match LL blk.box blk.sz ti.bv with
    | true=> .bM (decide (j<n)) (.ret (.ptr b (lo+j) 0)) .fail
    | false=> .fail
   | none=> .fail
  | _=> .fail
 | none=> .fail
def wq:Nat->Nat->List (Nat×Operand)->Bool
 | n,i,[]=>bk n i
 | n,i,p::r=>match bk p.1 i with
  | true=>wq n (i+1) r
  | false=>false
def wu (n:Nat):List Row->Bool
 | []=>true
 | r::rs=>match bk r.length n with
  | true=>wu n rs
  | false=>false
def wv:Nat:=140737488355328
def wx (E:Env) (s:TypeId) (f:Nat):Option (Nat×Bool×Nat):=match E.ty s with
 | some ti=>ti.wU[f]?
 | none=>none
def LM (off n:Nat) (ag:Bool):AV->T AV
 | .agg cs=>match ag with
  | true=> .bM (aP (off+n) cs.length) (.ret (.agg ((cs.drop off).take n))) .fail
  | false=> .gS cs[off]? .ret
 | _=> .fail
def addrAt (off:Nat):AV->T AV
 | .ptr b i o=> .ret (.ptr b i (o+off))
 | .bD row o=> .ret (.bD row (o+off))
 | _=> .fail
def qJ (E:Env) (hg:Nat->Option ah) (ti:TI):AV->T AV
 | .bD row off=>FO ti row off
 | .ptr b i off=>match hg b with
  | some blk=>(rowAt E blk i).bind fun row=>FO ti row off
  | none=> .fail
 | _=> .fail
def wy (box:Bool) (cs:List AV):List AV:=match box with
 | true=>cs
 | false=>cs.map mI
def sW (E:Env) (hg:Nat->Option ah) (ti:TI) (y:AV):AV->T (AV×Heap)
 | .ptr b i off=>match hg b with
  | some blk=>(rowAt E blk i).bind fun row=> .bM (mJ y&&bk (cellsOf y).length ti.size&&aP (off+ti.size) row.length)
    (.ret (.bL,[(b,⟨blk.box,blk.ty,blk.sz,blk.rows.set i (putAt row off (wy blk.box (cellsOf y)))⟩)])) .fail
  | none=> .fail
 | _=> .fail
def Vk {α:Type} (b:Bool) (x y:T α):T α:=match b with
 | true=>x
 | false=>y
def FFq (hg:Nat->Option ah) (dst:Option Tmp) (ti:TI) (x y:AV):T (AV×Heap):=match int64 x with
 | some n=>match int64 y with
  | some c=> .gS (idx n) fun n=> .gS (idx c) fun c=>(Vk (bk ti.bv 0) .fail <| .bM (aP n c&&aP (c*ti.oI) wv)
    (made hg dst .own ⟨false,ti.elem,ti.bv,ig n (ti.wW.map mI)⟩) .fail)
  | none=> .fail
 | none=> .fail
def Cf (op:Int->Int->Int) (x y:AV):T AV:=match int64 x with
 | some a=>match int64 y with
  | some b=> .ret (.v (.int .i64 (op a b)))
  | none=> .fail
 | none=> .fail
def sX:AV->Bool
 | .e0=>true
 | _=>false
def FT (E:Env) (hg:Nat->Option ah) (dst:Option Tmp) (t:TypeId) (x y:AV):T (AV×Heap):=match sX x with
 | true=>match rowsOf hg y with
  | some rs=>match E.ty t with
   | some ti=>match bk ti.bv 0 with
    | true=> .fail
    | false=> .bM (aP (rs.length*ti.oI) wv&&rs.all fun r=>bk r.length ti.bv) (made hg dst .own ⟨false,ti.elem,ti.bv,rs⟩) .fail
   | none=> .fail
  | none=> .fail
 | false=> .fail
def wz (hg:Nat->Option ah) (ti:TI):AV->T (AV×Heap)
 | .win b lo n=>match hg b with
  | some blk=>match !blk.box&&bk blk.sz ti.bv && !(bk ti.bv 0)with
   | true=> .bM (aP (lo+n) blk.rows.length&&aP 1 n)
     (.ret (.bL,[(b,⟨false,blk.ty,blk.sz,blk.rows.take lo++ig n (ti.wW.map mI)++blk.rows.drop (lo+n)⟩)])) .fail
   | false=> .fail
  | none=> .fail
 | _=> .fail
def FU (E:Env) (ρ:Operand->AV) (hg:Nat->Option ah) (dst:Option Tmp) (b:Builtin) (args:List Operand) (ts:List TypeId):T (AV×Heap):=match b with
 | .len=>match args,ts with
  | [x],[t]=>match E.ty t with
   | some ti=>(wl hg ti (ρ x)).plain
   | none=> .fail
  | _,_=> .fail
 | .max=>match args with
  | [x,y]=>(Cf max (ρ x) (ρ y)).plain
  | _=> .fail
 | .min=>match args with
  | [x,y]=>(Cf min (ρ x) (ρ y)).plain
  | _=> .fail
 | .append=>match args,ts with
  | [x,y],[t,t']=>match bk t t' with
   | true=>FT E hg dst t (ρ x) (ρ y)
   | false=> .fail
  | _,_=> .fail
 | .clear=>match args,ts with
  | [x],[t]=>match E.ty t with
   | some ti=>wz hg ti (ρ x)
   | none=> .fail
  | _,_=> .fail
 | _=> .fail
def Vl:AV->Bool
 | .bL=>true
 | .v _=>true
 | .sl _=>true
 | .own _=>true
 | .fn _ []=>true
 | _=>false
def Vm:AV->Bool
 | .agg cs=>cs.all Vl
 | a=>Vl a
def ag3:AV->Bool
 | .aF cs=>cs.all Vm
 | a=>Vm a
def l8:Heap->Bool
 | []=>true
 | p::r=>match (r.map (·.1)).elem p.1 with
  | true=>false
  | false=>l8 r
def Vn (args:List AV):Bool:=args.all fun a=>match bK a with
 | []=>true
 | _=>false
def FV (E:Env) (hg:Nat->Option ah) (dst:Option Tmp) (f:FuncId) (args:List AV):T (AV×Heap):=
 match E.flat f||Vn args with
 | true=>(E.fn f (args.map (oz hg))).bind fun p=>match dst with
  | some d=>match ag3 p.1&&qH hg d p.2&&l8 p.2 with
   | true=> .ret (wg (cz d) p.1,p.2.map fun q=>(cz d q.1,q.2))
   | false=> .fail
  | none=> .ret (.bL,[])
 | false=> .fail
def Cg (E:Env) (t:TypeId) (n:Nat):Bool:=match E.ty t with
 | some ti=>bk ti.desc n
 | none=>false
def LN:AV->AV->T AV
 | .v (.string s), .v (.int _ n)=> .gS (idx n) fun j=> .gS s[j]? fun b=> .ret (.v (.int .u8 b.toNat))
 | _,_=> .fail
def Vo:Operand->Bool
 | .const (.slice none 0 0)=>true
 | _=>false
def FW (op:BinOp) (b:Bool):T AV:=match op with
 | .eql=> .ret (.v (.bool b))
 | .neq=> .ret (.v (.bool (!b)))
 | _=> .fail
def LO (E:Env) (op:BinOp) (t:TypeId) (x:AV):T AV:=match Cg E t 4 with
 | true=>match x with
  | .nz b _=>FW op b
  | .sl rows=> .bM (bk rows.length 0) .fail (FW op false)
  | _=> .fail
 | false=> .fail
def qK:AV->Bool
 | .own _=>true
 | .ptr _ _ _=>true
 | .bD _ _=>true
 | .v _=>true
 | .sl _=>true
 | _=>false
def lm (E:Env) (ρ:Operand->AV) (hg:Nat->Option ah) (o:Oper):T (AV×Heap):=
 match o.op with
 | .move x=>plain (ρ x)
 | .assign x=>match sX (ρ x)with
  | true=>match fresh hg o.dst with
   | some _=>match E.ty o.type with
    | some ti=>made hg o.dst .own ⟨false,ti.elem,ti.bv,[]⟩
    | none=> .fail
   | none=>plain (ρ x)
  | false=>plain (ρ x)
 | .pick c x y=>match c with
  | .tmp c=>match nJ (ρ (.tmp c))with
   | some b=>(LG c b (ρ x) (ρ y)).plain
   | none=> .fail
  | _=> .fail
 | .binOp op t x y _=>match Vo y with
  | true=>(LO E op t (ρ x)).plain
  | false=>(LD E op t (ρ x) (ρ y)).plain
 | .unOp op _ x=>(LF op (ρ x)).plain
 | .convert t0 t x=>match E.ty t with
  | some ti=>match (match E.ty t0 with | some _=>ti.kind | none=>none)with
   | some kd=>match wm (ρ x)with
    | some n=>plain (.v (.int kd (kd.wrap n)))
    | none=> .fail
   | none=> .fail
  | none=> .fail
 | .extract x i=>match ρ x with
  | .aF vs=>T.plain (.gS vs[i]? .ret)
  | _=> .fail
 | .field s x f=>match wx E s f with
  | some (off,ag,n)=>(LM off n ag (ρ x)).plain
  | none=> .fail
 | .fieldAddr s x f=>match wx E s f with
  | some (off,_,_)=>(addrAt off (ρ x)).plain
  | none=> .fail
 | .nilCheck x=>(addrAt 0 (ρ x)).plain
 | .indexAddr t x i=>match E.ty t with
  | some ti=>match bk ti.desc 4 with
   | true=>(wo E hg ti (ρ x) (ρ i)).plain
   | false=> .fail
  | none=> .fail
 | .index t x i=>match Cg E t 2 with
  | true=>(LN (ρ x) (ρ i)).plain
  | false=> .fail
 | .load t x=>match E.ty t with
  | some ti=>(qJ E hg ti (ρ x)).plain
  | none=> .fail
 | .alloc t=>match E.ty t with
  | some ti=>made hg o.dst (.ptr · 0 0) ⟨true,FQ ti.zero t,0,[qF ti.zero]⟩
  | none=> .fail
 | .box t x=>match E.ty t with
  | some ti=>match mJ (ρ x)&&bk (cellsOf (ρ x)).length ti.size with
   | true=>made hg o.dst (.ptr · 0 0) ⟨true,0,0,[cellsOf (ρ x)]⟩
   | false=> .fail
  | none=> .fail
 | .build t parts=>match E.ty t with
  | some ti=>match (match bk ti.desc 5 with | true=>pm ti ρ parts.toList ti.zero | false=>none)with
   | some cs=>plain (.agg cs)
   | none=> .fail
  | none=> .fail
 | .buildSlice t n parts=>match E.ty t with
  | some ti=>match wq n 0 parts.toList&&parts.toList.all (fun p=>mJ (ρ p.2))&&wu ti.bv (parts.toList.map fun p=>cellsOf (ρ p.2)) && !(bk ti.bv 0)&&aP (n*ti.bv) 16777216 with
   | true=>match Vj (parts.toList.map fun p=>cellsOf (ρ p.2))with
    | true=>made hg o.dst (.win · 0 n) ⟨true,ti.elem,ti.bv,parts.toList.map fun p=>cellsOf (ρ p.2)⟩
    | false=>made hg o.dst .own ⟨false,ti.elem,ti.bv,parts.toList.map fun p=>(cellsOf (ρ p.2)).map mI⟩
   | false=> .fail
  | none=> .fail
 | .makeSlice t x y=>match E.ty t with
  | some ti=>FFq hg o.dst ti (ρ x) (ρ y)
  | none=> .fail
 | .store t x y=>match E.ty t with
  | some ti=>sW E hg ti (ρ y) (ρ x)
  | none=> .fail
 | .slice t x lo hi mx=>match E.ty t with
  | some ti=>match Vi E o.dst&&mx.isNone with
   | true=>(wj hg ti (ρ x) (fF ρ lo) (fF ρ hi)).plain
   | false=>(Vh ti (ρ x) (fF ρ lo) (fF ρ hi) (fF ρ mx)).plain
  | none=> .fail
 | .makeFunc fn first captured=>match fn with
  | .func f=>match first.toList with
   | []=>match (captured.toList.map ρ).all qK with
    | true=>plain (.fn f (captured.toList.map ρ))
    | false=> .fail
   | _=> .fail
  | _=> .fail
 | .call c=>match c.callee with
  | .builtin b=>FU E ρ hg o.dst b c.args.toList c.argTypes.toList
  | .value f=>match ρ f with
   | .fn f cap=>match cap.all qK with
    | true=>FV E hg o.dst f (c.args.toList.map ρ++cap)
    | false=> .fail
   | _=> .fail
  | _=> .fail
 | _=> .fail
def l9 (d:Nat):AV->Bool
 | .gd j _ _ _=>bk j d
 | _=>false
def oB (a:AV):AV:=match l9 d a with
 | true=> .bL
 | false=>a
def kz (t:dG) (d:Nat):dG:=match an t d with
 | none=>t
 | some _=>t.map fun p=>(p.1,oB d p.2)
def ff (t:dG) (d:Option Tmp) (a:AV):dG:=match d with
 | some d=>mG (kz t d) d a
 | none=>t
def fP (E:Env) (ρ:Operand->AV) (dst:Option Tmp):Op->List Nat
 | .buildSlice _ _ parts=>match Vj (parts.toList.map fun p=>cellsOf (ρ p.2))with
  | true=>[]
  | false=>parts.toList.flatMap fun p=>bK (ρ p.2)
 | .slice _ x _ _ none=>match Vi E dst with
  | true=>[]
  | false=>bK (ρ x)
 | .call c=>match c.callee with
  | .value f=>match ρ f with
   | .fn f _=>match E.flat f with
    | true=>[]
    | false=>c.args.toList.flatMap fun x=>bK (ρ x)
   | _=>[]
  | _=>[]
 | _=>[]
def qL (k:Nat) (b:ah):AV->AV
 | .own j=>match bk j k with
  | true=> .sl b.rows
  | false=> .own j
 | .win j lo n=>match bk j k with
  | true=> .sl ((b.rows.drop lo).take n)
  | false=> .win j lo n
 | .ptr j i o=>match bk j k with
  | true=> .bL
  | false=> .ptr j i o
 | .gd _ _ _ _=> .bL
 | a=>a
def qM (k:Nat) (b:ah):AV->AV
 | .fn f cs=> .fn f (cs.map (qL k b))
 | a=>qL k b a
def wA (k:Nat) (b:ah):AV->AV
 | .agg cs=> .agg (cs.map (qM k b))
 | a=>qM k b a
def kA (k:Nat) (b:ah):AV->AV
 | .aF cs=> .aF (cs.map (wA k b))
 | a=>wA k b a
def ah.fP (k:Nat) (c b:ah):ah:=match c.box with
 | true=>⟨c.box,c.ty,c.sz,c.rows.map (·.map (qM k b))⟩
 | false=>c
def St.freeze (s:St) (k:Nat):St:=match an s.h k with
 | some b=>match b.box with
  | true=>s
  | false=>⟨s.t.map fun p=>(p.1,kA k b p.2),(s.h.filter fun p=> !bk p.1 k).map fun p=>(p.1,p.2.fP k b)⟩
 | none=>s
def St.oC (s:St):List Nat->St
 | []=>s
 | k::r=>(s.freeze k).oC r
def wB (E:Env) (hg:Nat->Option ah) (t:TypeId) (j:Nat) (y:AV):T (AV×Heap×List Nat):=
 match (bK y).elem j with
 | true=> .fail
 | false=>match rowsOf hg y with
  | some rs=>match E.ty t with
   | some ti=>match hg j with
    | some b=>match bk ti.bv 0||bk ti.oI 0 || !(bk b.ty ti.elem) || !(bk b.sz ti.bv)||b.box with
     | true=> .fail
     | false=> .bM (aP ((b.rows.length+rs.length)*ti.oI) wv&&rs.all fun r=>bk r.length ti.bv)
       (.ret (.own j,[(j,⟨false,ti.elem,ti.bv,b.rows++rs⟩)],[j])) .fail
    | none=> .fail
   | none=> .fail
  | none=> .fail
def cM (E:Env) (g:Option (Nat×Bool)) (t:dG) (x:Operand):AV:=nI g (ev E t x)
def norm (E:Env) (g:Option (Nat×Bool)) (s:St) (o:Oper):T (St×List Nat):=
 (lm E (cM E g s.t) (an s.h) o).bind fun p=> .ret (⟨ff s.t o.dst (fC p.1),iy s.h p.2⟩,p.2.map (·.1))
def oD (p:St×List Nat):T (St×Option (List Nat×List Nat)):= .ret (p.1,some (p.2,[]))
def FX (p:St×List Nat):T (St×Option (List Nat×List Nat)):= .ret (p.1,none)
def db (s:St) (dst:Option Tmp) (av:AV) (ws:Heap) (ks:List Nat):St:=⟨ff (s.kill ks).t dst av,iy (s.kill ks).h ws⟩
def mL (E:Env) (s:St) (dst:Option Tmp) (p:AV×Heap×List Nat):T (St×Option (List Nat×List Nat)):=match p.2.2.all fun k=> !(sT k)||E.mv k with
 | true=> .ret (db s dst (fC p.1) p.2.1 p.2.2,some (p.2.1.map (·.1),p.2.2))
 | false=> .fail
def oE (E:Env) (ρ:Operand->AV):Op->Option (FuncId×List AV)
 | .call c=>match c.callee with
  | .value f=>match ρ f with
   | .fn f cap=>match E.hp f&&cap.all qK with
    | true=>some (f,c.args.toList.map ρ++cap)
    | false=>none
   | _=>none
  | _=>none
 | _=>none
def Ch:AV->Option Nat
 | .own j=>some j
 | _=>none
def isApp:Op->Option (Operand×Operand×TypeId)
 | .call c=>match c.callee with
  | .builtin .append=>match c.args.toList,c.argTypes.toList with
   | [x,y],[t,t']=>match bk t t' with
    | true=>some (x,y,t)
    | false=>none
   | _,_=>none
  | _=>none
 | _=>none
def LP (t:dG):Option (Nat×Bool)->Bool
 | none=>true
 | some (d,_)=>match bJ t d with
  | .v (.bool _)=>true
  | _=>false
def step1 (E:Env) (g:Option (Nat×Bool)) (s:St) (o:Oper):T (St×Option (List Nat×List Nat)):=
 match isApp o.op with
 | some (x,y,t)=>match Ch (cM E g s.t x)with
  | some j=>(wB E (an s.h) t j (cM E g s.t y)).bind (mL E s o.dst)
  | none=>(norm E g s o).bind oD
 | none=>match oE E (cM E g s.t) o.op with
  | some (f,args)=>(qG E (an s.h) o.dst f args).bind (mL E s o.dst)
  | none=>match fP E (cM E g s.t) o.dst o.op with
   | []=>(norm E g s o).bind oD
   | ks=>match LP s.t g with
    | true=>(norm E g (s.oC ks) o).bind FX
    | false=> .fail
def wC:Op->Bool
 | .move _=>true
 | .binOp op _ _ _ _=>match op with
  | .quo=>false
  | .rem=>false
  | .add=>false
  | .shl=>false
  | .shr=>false
  | _=>true
 | .unOp _ _ _=>true
 | .pick _ _ _=>true
 | .fieldAddr _ _ _=>true
 | .load _ _=>true
 | .extract _ _=>true
 | .call c=>match c.callee with
  | .builtin .len=>true
  | _=>false
 | _=>false
def nK (ops:List Oper) (j:Nat):Option Nat:=match ops[j]? with
 | some o=>o.dst
 | none=>none
def mM (o:Oper) (t:dG) (d:Nat):Bool:=match o.dst with
 | some e=> !(bk e d) && !(l9 e (bJ t d))
 | none=>false
def mN (o:Oper) (t:dG) (d:Nat) (want:Bool):AV:=match mM o t d with
 | true=> .gd d false want .bL
 | false=> .bL
def iI (s:St) (o:Oper) (d:Nat) (want:Bool):T (St×Option (List Nat×List Nat)):= .ret (⟨ff s.t o.dst (mN o s.t d want),s.h⟩,some ([],[]))
def LQ:AV->Bool
 | .aF _=>false
 | .gd _ _ _ _=>false
 | _=>true
def FY (ρ:Operand->AV) (hg:Nat->Option ah):Op->Bool
 | .load _ x=>match ρ x with
  | .ptr k _ _=>match hg k with
   | some b=>b.box
   | none=>true
  | _=>true
 | _=>true
def lq (E:Env) (s:St) (o:Oper) (d:Nat) (want:Bool):Bool:=match wC o.op with
 | true=>mM o s.t d&&FY (cM E (some (d,want)) s.t) (an s.h) o.op
 | false=>false
def guarded (E:Env) (s:St) (o:Oper) (d:Nat) (f want:Bool):T (St×Option (List Nat×List Nat)):=
 match lq E s o d want with
 | true=>match (lm E (cM E (some (d,want)) s.t) (an s.h) o).val with
  | some p=>match LQ p.1 with
   | true=> .ret (⟨ff s.t o.dst (.gd d f want p.1),s.h⟩,some ([],[]))
   | false=> .fail
  | none=> .bM f .fail (iI s o d want)
 | false=> .bM f (step1 E (some (d,want)) s o) (iI s o d want)
def stepG (E:Env) (ops:List Oper) (s:St) (o:Oper):T (St×Option (List Nat×List Nat)):=match o.guard with
 | none=>step1 E none s o
 | some (j,want)=>match nK ops j with
  | some d=>match bJ s.t d with
   | .v (.bool b)=>guarded E s o d (asked b want) want
   | .gd _ f _ (.v (.bool b))=>guarded E s o d (f&&asked b want) want
   | .gd _ f _ _=> .bM f .fail (iI s o d want)
   | _=> .fail
  | none=> .fail
def FZ (E:Env) (t:dG) (hg:Nat->Option ah) (o:Oper):Option (AV×Heap×List Nat):=match o.guard with
 | none=>match o.op with
  | .assign x=>match sX (cM E none t x)with
   | true=>match o.dst with
    | some d=>match E.mv d with
     | true=>match hg d with
      | some b=>match b.box with
       | true=>none
       | false=>match E.ty o.type with
        | some ti=>some (.own d,[(d,⟨false,ti.elem,ti.bv,[]⟩)],[d])
        | none=>none
      | none=>none
     | false=>none
    | none=>none
   | false=>none
  | _=>none
 | some _=>none
def LR (E:Env) (t:dG) (hg:Nat->Option ah) (o:Oper):List Nat:=match o.guard with
 | none=>match o.op with
  | .store _ x y=>match cM E none t x with
   | .ptr k _ _=>match hg k with
    | some b=>match b.box with
     | true=>[]
     | false=>bK (cM E none t y)
    | none=>[]
   | _=>[]
  | _=>[]
 | some _=>[]
def Ci (E:Env) (ops:List Oper) (s:St) (o:Oper):T (St×Option (List Nat×List Nat)):=match FZ E s.t (an s.h) o with
 | some p=>mL E s o.dst p
 | none=>stepG E ops (s.oC (LR E s.t (an s.h) o)) o
def steps (E:Env) (ops:List Oper):List Oper->St->T St
 | [],s=> .ret s
 | o::r,s=>(Ci E ops s o).bind fun p=>steps E ops r p.1
structure FP where
 o:Oper
 tm:List Nat
 rd:List Nat
 tr:List Nat
 wr:Option (List Nat×List Nat)
 rf:List Nat
 kt:List Nat
 hit:List Nat
 nu:Bool
 og:List Nat
 sh:List Nat
 ws:List Nat
def LS (t:dG):Option Tmp->Bool
 | none=>true
 | some d=>match an t d with
  | none=>true
  | some _=>t.all fun p=> !(l9 d p.2)
def F0 (t:dG):Option Tmp->List Nat
 | some d=>match bJ t d with
  | .gd j _ _ _=>[j]
  | _=>[]
 | none=>[]
def tmpsOf (ops:List Oper) (o:Oper):List Nat:=
 (o.op.operands.toList.flatMap fun | .tmp t=>[t] | _=>[])++(match o.guard with | some (j,_)=>(nK ops j).toList | none=>[])
def wD (d:Nat):List Nat:=[cz d 0,cz d 1,cz d 2,cz d 3]
def wE:Option Tmp->List Nat
 | some d=>d::wD d
 | none=>[]
def nL:Op->Bool
 | .load _ _=>true
 | .store _ _ _=>true
 | .call _=>true
 | _=>false
def Vp:Op->Bool
 | .indexAddr _ _ _=>true
 | .slice _ _ _ _ _=>true
 | _=>false
def stOp:Op->Bool
 | .store _ _ _=>true
 | _=>false
def ma (ops:List Oper) (s:St) (o:Oper):List Nat:=(tmpsOf ops o).flatMap fun t=>bK (bJ s.t t)
def fQ (n:Nat) (ops:List Oper) (s:St) (o:Oper):List Nat:=wE o.dst++(match nL o.op with
 | true=>reach (an s.h) n (ma ops s o)
 | false=>[])
def qN (t:dG):Option Tmp->List Nat
 | some d=>bK (bJ t d)
 | none=>[]
def wF (h:Heap):Option (List Nat×List Nat)->List Nat
 | some (wk,_)=>wk.flatMap (fE (an h))
 | none=>[]
def pn (s:St) (o:Oper) (wr:Option (List Nat×List Nat)):List Nat:=qN s.t o.dst++wF s.h wr++(wE o.dst).flatMap (fE (an s.h))
def jd (ks:List Nat) (a:AV):Bool:=(bK a).any fun k=>ks.elem k
def mb (ks:List Nat) (b:ah):Bool:=(jc b).any fun k=>ks.elem k
def Vq (s:St):Option (List Nat×List Nat)->List Nat
 | some (_,k::ks)=>(s.t.filter fun p=>jd (k::ks) p.2).map (·.1)
 | _=>[]
def Vr:AV->List Nat
 | .gd j _ _ _=>[j]
 | _=>[]
def LU (s:St):Option (List Nat×List Nat)->List Nat
 | some (_,k::ks)=>(s.t.filter fun p=>jd (k::ks) p.2).flatMap fun p=>Vr p.2
 | _=>[]
def Vs (s:St):Option (List Nat×List Nat)->List Nat
 | some (_,k::ks)=>(s.h.filter fun p=>mb (k::ks) p.2).map (·.1)
 | _=>[]
def qO (s':St) (o:Oper) (wr:Option (List Nat×List Nat)):List Nat:=
 qN s'.t o.dst++wF s'.h wr
def sY (ops:List Oper) (s:St) (o:Oper):List Nat:=match Vp o.op with
 | true=>ma ops s o
 | false=>[]
def LV (o:Oper) (wr:Option (List Nat×List Nat)):List Nat:=match stOp o.op with
 | true=>[]
 | false=>match wr with
  | some (wk,_)=>wk
  | none=>[]
def oF (ops:List Oper) (s:St) (o:Oper) (wr:Option (List Nat×List Nat)) (s':St):FP:=
 ⟨o,tmpsOf ops o,fQ 3 ops s o,ma ops s o++fQ 3 ops s o++pn s o wr,wr,qO s' o wr,Vq s wr,Vs s wr,LS s.t o.dst,F0 s.t o.dst++LU s wr,sY ops s o,LV o wr⟩
def apart (x y:List Nat):Bool:=x.all fun a=> !(y.elem a)
def qP (o:Oper) (l:List Nat):Bool:=match o.dst with
 | some d=> !(l.elem d)
 | none=>true
def oneOf:List Nat->List Nat->Bool
 | [],_=>true
 | _,[]=>true
 | _,_=>false
def qQ (ops:List Oper) (a b:FP):Bool:=
 a.nu&&b.nu&&apart a.ws b.sh&&apart b.ws a.sh&&qP a.o b.tm&&qP b.o a.tm&&qP a.o b.o.dst.toList&&qP a.o b.og&&qP b.o a.og &&
 (match a.wr with
  | some wa=>match b.wr with
   | some wb=>apart wa.1 b.rd&&apart wb.1 a.rd&&apart wa.1 wb.1&&oneOf wa.2 wb.2 &&
     apart a.kt b.tm&&qP b.o a.kt&&apart a.hit b.rd&&apart a.hit wb.1&&apart wa.2 b.rf&&apart wb.2 a.tr&&apart wb.2 a.rf
   | none=>false
  | none=>false)
def wG (j:Nat) (o:Oper):Bool:=o.after.toList.any fun e=>bk e.on j&&(match e.ground with
 | .textOnly _=>false
 | .gcOnly _=>false
 | _=>true)
def LW (e:Edge):Bool:=match e.ground with
 | .textOnly _=>false
 | .gcOnly _=>false
 | _=>true
def sZ (ops:List Oper):Nat->Nat->Oper->Bool
 | 0,_,_=>false
 | n+1,j,o=>o.after.toList.any fun e=>match LW e with
  | true=>match bk e.on j with
   | true=>true
   | false=>match lV j e.on with
    | true=>match ops[e.on]? with
     | some p=>sZ ops n j p
     | none=>false
    | false=>false
  | false=>false
def wH (ops:List Oper) (f:FP):List FP->Bool
 | []=>true
 | g::r=>match wG r.length f.o with
  | true=>wH ops f r
  | false=>match qQ ops g f with
   | true=>wH ops f r
   | false=>match sZ ops 12 r.length f.o with
    | true=>wH ops f r
    | false=>false
def wI (ops:List Oper):List FP->Bool
 | []=>true
 | f::r=>match wH ops f r with
  | true=>wI ops r
  | false=>false
def s5:Nat->List Oper->Bool
 | _,[]=>true
 | i,o::r=>match o.after.toList.all (fun e=>match e.ground with
   | .textOnly _=>true
   | .gcOnly _=>true
   | _=>lV e.on i)with
  | true=>s5 (i+1) r
  | false=>false
def s6 (E:Env) (ops:List Oper):List Oper->St->List FP->T St
 | [],s,tr=>match wI ops tr&&s5 0 ops with
  | true=> .ret s
  | false=> .fail
 | o::r,s,tr=>(stepG E ops s o).bind fun p=>s6 E ops r p.1 (oF ops s o p.2 p.1::tr)
def fg:Code->Nat
 | .seq x _=>fg x
 | .block _ x=>fg x
 | .region id _ _=>id
 | _=>0
def done (s:St):T (Ex×St):= .ret (.normal,s)
def exec (E:Env):Code->St->T (Ex×St)
 | .skip,s=>done s
 | .region _ ops dr,s=>match dr with
  | false=>(steps E ops.toList ops.toList s).bind done
  | true=>(s6 E ops.toList ops.toList s []).bind done
 | .seq x y,s=>(exec E x s).bind fun p=>match p.1 with
  | .normal=>exec E y p.2
  | _=> .ret p
 | .cond c x y,s=>match nJ (ev E s.t c)with
  | some b=> .bM b (exec E x s) (exec E y s)
  | none=> .fail
 | .block id x,s=>(exec E x s).bind fun p=>match p.1 with
  | .exit i=>match bk i id with
   | true=> .ret (.normal,p.2)
   | false=> .ret p
  | _=> .ret p
 | .loop x,s=>E.lp (fg x) s
 | .exit id,s=> .ret (.exit id,s)
 | .ret,s=> .ret (.ret,s)
 | _,_=> .fail
def lr (i:Nat):List AV->dG->dG
 | [],acc=>acc
 | a::r,acc=>lr (i+1) r ((i,a)::acc)
def F1 (s:St):ResultVar->T AV
 | .tmp t=> .ret (bJ s.t t)
 | .cell a t=>match E.ty t with
  | some ti=>qJ E (an s.h) ti (bJ s.t a)
  | none=> .fail
end
def kB (E:Env) (s:St):List ResultVar->T (List AV)
 | []=> .ret []
 | r::rs=>(F1 E s r).bind fun a=>(kB E s rs).bind fun as1=> .ret (a::as1)
def Cj (h:Heap) (ks:List Nat):AV->AV
 | .own k=> .own (ik ks k)
 | .win _ _ _=> .bL
 | a=>iz (an h) a
def Ck (h:Heap) (ks:List Nat):AV->AV
 | .agg cs=> .agg (cs.map (Cj h ks))
 | a=>Cj h ks a
def Vt (h:Heap) (ks:List Nat):AV->AV
 | .aF cs=> .aF (cs.map (Ck h ks))
 | a=>Ck h ks a
def Cl (h:Heap) (ks:List Nat):List Nat->Option Heap
 | []=>some []
 | j::r=>match an h j with
  | some b=>match b.box with
   | true=>none
   | false=>match Cl h ks r with
    | some H=>some ((ik ks j,b)::H)
    | none=>none
  | none=>none
def finish (keep:Bool) (s:St) (r:AV):T (AV×Heap):=match keep with
 | false=> .ret (oz (an s.h) r,[])
 | true=>match nodupB (bK r)with
  | true=>match Cl s.h (bK r) (bK r)with
   | some H=> .ret (Vt s.h (bK r) r,H)
   | none=> .fail
  | false=> .fail
def fR (n:Nat):Code->Bool
 | .seq x y=>fR n x&&fR n y
 | .cond _ x y=>fR n x&&fR n y
 | .block _ x=>fR n x
 | .loop x=>fR n x
 | .region _ ops _=>ops.toList.all fun o=>match o.dst with | some d=>lV d n | none=>true
 | _=>true
def lu:List AV->AV
 | [x]=>fC x
 | xs=> .aF (xs.map v7)
def aB (E:Env) (keep:Bool) (fn:Func) (args:List AV):T (AV×Heap):=
 match fn.body with
 | none=> .fail
 | some c=>match fR fn.ntmps c with
  | true=>(exec E c ⟨lr 0 (args.map fC) [],[]⟩).bind fun p=>match p.1 with
   | .ret=>(kB E p.2 fn.results.toList).bind fun as1=>finish keep p.2 (lu as1)
   | _=> .fail
  | false=> .fail
def po (hg:Nat->Option ah) (f:Nat->Nat):List Nat->Heap
 | []=>[]
 | k::r=>match hg k with
  | some b=>(f k,b.fD f)::po hg f r
  | none=>po hg f r
def jT (ins new:List Nat) (k:Nat):Nat:=match ins.elem k with
 | true=>k
 | false=>ik new k
def Vu (ins mv:List Nat) (hg:Nat->Option ah) (r:AV) (ks new:List Nat):T (AV×Heap×List Nat):=match sS hg ks&&nodupB ks&&aP new.length 4 with
 | true=> .ret (wg (jT ins new) r,po hg (jT ins new) ks,mv)
 | false=> .fail
def Vv (ins mv:List Nat) (hg:Nat->Option ah) (r:AV) (ks:List Nat):T (AV×Heap×List Nat):=Vu ins mv hg r ks (ks.filter fun k=> !(ins.elem k))
def F2 (ins mv:List Nat) (s:St) (r:AV):T (AV×Heap×List Nat):=Vv ins mv (an s.h) r (reach (an s.h) 2 (gb ins (bK r)))
def eu (E:Env) (mv:List Nat) (fn:Func) (args:List AV) (hin:Heap):T (AV×Heap×List Nat):=
 match fn.body with
 | none=> .fail
 | some c=>match fR fn.ntmps c&&(hin.map (·.1)).all (fun k=>sT k&&(mv.elem k || !(E.mv k)))with
  | true=>(exec E c ⟨lr 0 (args.map fC) [],hin⟩).bind fun p=>match p.1 with
   | .exit _=> .fail
   | _=>(kB E p.2 fn.results.toList).bind fun as1=>F2 (hin.map (·.1)) mv p.2 (lu as1)
  | false=> .fail
def less (kt kh:List Nat) (s:St):St:=⟨(s.t.filter fun p=>kt.elem p.1).map fun p=>(p.1,fC p.2),s.h.filter fun p=>kh.elem p.1⟩
def hasAll (h:Heap) (ks:List Nat):Bool:=ks.all fun k=>(an h k).isSome
def fS (s:St):Bool:=s.t.all (fun p=>hasAll s.h (bK p.2))&&s.h.all (fun p=>match p.2.box with
 | true=>p.2.rows.all fun row=>row.all fun a=>hasAll s.h (bK a)
 | false=>true)
def jE:Code->List Code
 | .seq x y=>jE x++jE y
 | .cond _ x y=>jE x++jE y
 | .block _ x=>jE x
 | .loop x=>x::jE x
 | _=>[]
def Func.loops (fn:Func):List Code:=match fn.body with
 | some c=>jE c
 | none=>[]
def aw (fn:Func) (i:Nat):Code:=(Func.loops fn).getD i .skip
end
section
theorem beq_true {a b:Nat}:bk a b=true↔a=b:=⟨Nat.eq_of_beq_eq_true,fun h=>h▸Nat.beq_refl a⟩
theorem beq_false {a b:Nat}:bk a b=false↔a≠b:=by
 rw[<-BR,beq_true]
theorem gu {α:Type} (m:List (Nat×α)) (n:Nat) (y:α) (k:Nat):an (mG m n y) k=if k=n then some y else an m k:=by
 induction m with
 | nil=>
  simp only[mG,an]
  cases h:bk k n
  .rw[if_neg (beq_false.1 h)]
  .rw[if_pos (beq_true.1 h)]
 | cons p r ih=>
  obtain⟨j,x⟩:=p
  simp only[mG]
  cases h:bk n j
  .cases h2:aP j n
   .simp only[an,ih]
    cases h3:bk k j
    .rfl
    .have e1:=beq_true.1 h3
     have e2:=beq_false.1 h
     simp only[]
     rw[if_neg (by omega)]
   .simp only[an]
    cases h3:bk k n
    .rw[if_neg (beq_false.1 h3)]
    .rw[if_pos (beq_true.1 h3)]
  .have:=beq_true.1 h
   subst this
   simp only[an]
   cases h3:bk k n
   .rw[if_neg (beq_false.1 h3)]
   .rw[if_pos (beq_true.1 h3)]
theorem wJ (t:dG) (n:Nat) (y:AV) (k:Nat):bJ (mG t n y) k=if k=n then y else bJ t k:=by
 unfold bJ;rw[gu];by_cases h:k=n<;>simp[h]
def dh:Value->Prop
 | .bool _=>True
 | .int k n=>k.min<=n/\n<=k.max
 | .string s=>s.size<=9223372036854775807
 | .nilFunc=>True
 | .nilIface=>True
 | .pointer none=>True
 | .slice none 0 0=>True
 | _=>False
theorem dh.one {x:Value} (h:dh x):x.oneCell'=true:=by
 unfold dh at h
 split at h<;>first | rfl | (exact False.elim h)
structure BI where
 real:Bool
 b:Nat
 len:Nat
 cap:Nat
 size:Nat
inductive R0 (w:World) (S:Nat->Prop):AV->Value->Prop where
 | bL {v:Value} (h:v.oneCell'=true):R0 w S .bL v
 | v {x:Value} (h:dh x):R0 w S (.v x) x
 | fn (f:FuncId):R0 w S (.fn f []) (.func (.func f) #[] #[])
 | sl {rows:List Row} {A:Option Addr} {cap size b off:Nat} {vals:Nat->Nat->Value}
   (hc:rows.length<=cap) (hm:cap<=9223372036854775807)
   (hA:rows≠[]->A=some ⟨b,off,none⟩/\S b)
   (hl : ∀(i:Nat) (row:Row),rows[i]? = some row->row.length=size)
   (dJ : ∀(i j:Nat) (row:Row) (a:AV),rows[i]? = some row->row[j]? = some a->w.cell? ⟨b,off+i*size+j,none⟩=some (vals i j))
   (hr : ∀(i j:Nat) (row:Row) (a:AV),rows[i]? = some row->row[j]? = some a->R0 w S a (vals i j)) :
   R0 w S (.sl rows) (.slice A rows.length cap)
theorem R0.one {w:World} {S:Nat->Prop} {a:AV} {v:Value} (h:R0 w S a v):v.oneCell'=true:=by
 cases h with
 | bL h=>exact h
 | v h=>exact h.one
 | fn f=>rfl
 | sl=>rfl
theorem R0.mono {w w':World} {S S':Nat->Prop} (hw : ∀b,S b->w'.heap[b]? = w.heap[b]?) (hS : ∀b,S b->S' b) {a:AV} {v:Value} (h:R0 w S a v):R0 w' S' a v:=by
 induction h with
 | bL h=>exact .bL h
 | v h=>exact .v h
 | fn f=>exact .fn f
 | sl hc hm hA hl dJ hr ih=>
  refine .sl hc hm (fun h=>⟨(hA h).1,hS _ (hA h).2⟩) hl (fun i j row a hi hj=>?_) ih
  rename_i rows A cap size b off vals
  have hne:rows≠[]:=by rintro rfl;simp at hi
  rw[aFy (hw b (hA hne).2)]
  exact dJ i j row a hi hj
def wK (w:World) (S:Nat->Prop) (b o:Nat) (row:Row):Prop:=
 S b /\ ∀(j:Nat) (a:AV),row[j]? = some a -> ∃v,w.cell? ⟨b,o+j,none⟩=some v/\R0 w S a v
theorem wK.mono {w w':World} {S S':Nat->Prop} (hw : ∀b,S b->w'.heap[b]? = w.heap[b]?) (hS : ∀b,S b->S' b) {b o:Nat} {row:Row} (h:wK w S b o row):wK w' S' b o row:=by
 refine⟨hS _ h.1,fun j a ha=>?_⟩
 obtain⟨v,h1,h2⟩:=h.2 j a ha
 exact⟨v,by rw[aFy (hw b h.1)];exact h1,h2.mono hw hS⟩
def RL (R:AV->Value->Prop):List AV->List Value->Prop
 | [],[]=>True
 | a::x,v::y=>R a v/\RL R x y
 | _,_=>False
theorem RL.imp {R R':AV->Value->Prop} : ∀ {x:List AV} {y:List Value},(∀a∈x,∀v,R a v->R' a v)->RL R x y->RL R' x y
 | [],[],_,_=>trivial
 | a::x,v::y,h,hr=>⟨h a (by simp) v hr.1,RL.imp (fun b hb=>h b (by simp[hb])) hr.2⟩
theorem RL.length {R:AV->Value->Prop} : ∀ {x:List AV} {y:List Value},RL R x y->x.length=y.length
 | [],[],_=>rfl
 | _::_,_::_,h=>by simp[RL.length h.2]
theorem RL.get {R:AV->Value->Prop} : ∀ {x:List AV} {y:List Value},RL R x y -> ∀ {i:Nat} {a:AV},x[i]? = some a -> ∃v,y[i]? = some v/\R a v
 | [],_,_,i,b,hb=>by simp at hb
 | a::x,v::y,h,0,b,hb=>by simp at hb;subst hb;exact⟨v,rfl,h.1⟩
 | a::x,v::y,h,i+1,b,hb=>by simpa using RL.get h.2 (i:=i) (a:=b) (by simpa using hb)
theorem RL.of {R:AV->Value->Prop} : ∀ {x:List AV} {y:List Value},x.length=y.length->(∀(i:Nat) (a:AV) (v:Value),x[i]? = some a->y[i]? = some v->R a v)->RL R x y
 | [],[],_,_=>trivial
 | a::x,v::y,hl,h=>⟨h 0 a v rfl rfl,RL.of (by simpa using hl) fun i b u hb hu=>h (i+1) b u (by simpa using hb) (by simpa using hu)⟩
 | [],_::_,hl,_=>by simp at hl
 | _::_,[],hl,_=>by simp at hl
theorem RL.append {R:AV->Value->Prop} : ∀ {x x':List AV} {y y':List Value},RL R x y->RL R x' y'->RL R (x++x') (y++y')
 | [],_,[],_,_,h=>h
 | a::x,_,v::y,_,h,h'=>⟨h.1,RL.append h.2 h'⟩
theorem RL.take {R:AV->Value->Prop} : ∀ {x:List AV} {y:List Value} (n:Nat),RL R x y->RL R (x.take n) (y.take n)
 | [],[],n,_=>by simp[RL]
 | a::x,v::y,0,_=>by simp[RL]
 | a::x,v::y,n+1,h=>⟨h.1,RL.take n h.2⟩
theorem RL.drop {R:AV->Value->Prop} : ∀ {x:List AV} {y:List Value} (n:Nat),RL R x y->RL R (x.drop n) (y.drop n)
 | [],[],n,_=>by simp[RL]
 | a::x,v::y,0,h=>h
 | a::x,v::y,n+1,h=>RL.drop n h.2
theorem RL.map {R R':AV->Value->Prop} {f:AV->AV} : ∀ {x:List AV} {y:List Value},(∀a∈x,∀v,R a v->R' (f a) v)->RL R x y->RL R' (x.map f) y
 | [],[],_,_=>trivial
 | a::x,v::y,h,hr=>⟨h a (by simp) v hr.1,RL.map (fun b hb=>h b (by simp[hb])) hr.2⟩
def LX:Value->Bool
 | .slice none _ _=>true
 | _=>false
def RP (w:World) (S:Nat->Prop) (β:Nat->Option BI):AV->Value->Prop
 | .e0,v=>∃A,v = .slice A 0 0
 | .own k,v=>∃x,β k=some x/\(x.real=true->v = .slice (some ⟨x.b,0,none⟩) x.len x.cap)/\(x.real=false -> ∃A,v = .slice A 0 0)
 | .win k lo n,v=>∃x,β k=some x /\ ∃A c,v = .slice A n c/\n<=c/\c<=9223372036854775807/\(n≠0->x.real=true/\A=some ⟨x.b,lo*x.size,none⟩/\lo+n<=x.len)
 | .ptr k i off,v=>∃x,β k=some x/\x.real=true/\v = .pointer (some ⟨x.b,i*x.size+off,none⟩)
 | .bD row off,v=>∃b o,v = .pointer (some ⟨b,o+off,none⟩)/\wK w S b o row
 | .nz b rows,v=>R0 w S (.sl rows) v/\LX v=b
 | a,v=>R0 w S a v
def RC (w:World) (S:Nat->Prop) (β:Nat->Option BI):AV->Value->Prop
 | .fn f cs,v=>∃vs:List Value,v = .func (.func f) #[] vs.toArray/\RL (RP w S β) cs vs
 | a,v=>RP w S β a v
def RT (w:World) (S:Nat->Prop) (β:Nat->Option BI):AV->Value->Prop
 | .bL,_=>True
 | .agg cs,v=>∃vs:List Value,v = .agg vs.toArray/\RL (RC w S β) cs vs
 | a,v=>RC w S β a v
def RV (w:World) (S:Nat->Prop) (β:Nat->Option BI):AV->Value->Prop
 | .aF cs,v=>∃vs:List Value,v = .tuple vs.toArray/\RL (RT w S β) cs vs
 | .gd _ f _ a,v=>(f=true->RT w S β a v)/\(f=false->v=undef)
 | a,v=>RT w S β a v
section
variable {w w' : World} {S S' : Nat -> Prop} {β β' : Nat -> Option BI} {a : AV} {v : Value}
theorem RP.mono (hw : ∀b,S b->w'.heap[b]? = w.heap[b]?) (hS : ∀b,S b->S' b) (hβ : ∀k∈dk a,∀x,β k=some x->β' k=some x) (h:RP w S β a v):RP w' S' β' a v:=by
 cases a<;>simp only[RP]at h ⊢
 case own k=>obtain⟨x,h1,h2⟩:=h;exact⟨x,hβ k (by simp[dk]) x h1,h2⟩
 case win k lo n=>obtain⟨x,h1,h2⟩:=h;exact⟨x,hβ k (by simp[dk]) x h1,h2⟩
 case ptr k i off=>obtain⟨x,h1,h2⟩:=h;exact⟨x,hβ k (by simp[dk]) x h1,h2⟩
 case e0=>exact h
 case bD row off=>obtain⟨b,o,h1,h2⟩:=h;exact⟨b,o,h1,h2.mono hw hS⟩
 case nz b rows=>exact⟨h.1.mono hw hS,h.2⟩
 all_goals exact h.mono hw hS
theorem nM (hn : ∀f cs,a ≠ .fn f cs):RC w S β a v=RP w S β a v:=by cases a<;>first | rfl | exact absurd rfl (hn _ _)
theorem F3 (hn : ∀f cs,a ≠ .fn f cs):du a=dk a:=by cases a<;>first | rfl | exact absurd rfl (hn _ _)
theorem wL (hn : ∀cs,a ≠ .agg cs) (hu:a ≠ .bL):RT w S β a v=RC w S β a v:=by cases a<;>first | rfl | exact absurd rfl (hn _) | exact absurd rfl hu
theorem Cm (hn : ∀cs,a ≠ .agg cs):e8 a=du a:=by cases a<;>first | rfl | exact absurd rfl (hn _)
theorem s7 (hn : ∀cs,a ≠ .aF cs) (hu : ∀j b w x,a ≠ .gd j b w x):RV w S β a v=RT w S β a v:=by cases a<;>first | rfl | exact absurd rfl (hn _) | exact absurd rfl (hu _ _ _ _)
theorem wM (hn : ∀cs,a ≠ .aF cs) (hu : ∀j b w x,a ≠ .gd j b w x):bK a=e8 a:=by cases a<;>first | rfl | exact absurd rfl (hn _) | exact absurd rfl (hu _ _ _ _)
theorem RC.mono (hw : ∀b,S b->w'.heap[b]? = w.heap[b]?) (hS : ∀b,S b->S' b) (hβ : ∀k∈du a,∀x,β k=some x->β' k=some x) (h:RC w S β a v):RC w' S' β' a v:=by
 by_cases hn : ∃f cs,a = .fn f cs
 .obtain⟨f,cs,rfl⟩:=hn
  obtain⟨vs,h1,h2⟩:=h
  exact⟨vs,h1,h2.imp fun b hb u hu=>hu.mono hw hS fun k hk=>hβ k (by simp only[du,eF];exact⟨b,hb,hk⟩)⟩
 .have hn' : ∀f cs,a ≠ .fn f cs:=fun f cs e=>hn ⟨f,cs,e⟩
  rw[nM hn']at h ⊢
  rw[F3 hn']at hβ
  exact h.mono hw hS hβ
theorem RT.mono (hw : ∀b,S b->w'.heap[b]? = w.heap[b]?) (hS : ∀b,S b->S' b) (hβ : ∀k∈e8 a,∀x,β k=some x->β' k=some x) (h:RT w S β a v):RT w' S' β' a v:=by
 by_cases hn : ∃cs,a = .agg cs
 .obtain⟨cs,rfl⟩:=hn
  obtain⟨vs,h1,h2⟩:=h
  exact⟨vs,h1,h2.imp fun b hb u hu=>hu.mono hw hS fun k hk=>hβ k (by simp only[e8,eF];exact⟨b,hb,hk⟩)⟩
 .by_cases hu:a = .bL
  .subst hu;trivial
  .have hn' : ∀cs,a ≠ .agg cs:=fun cs e=>hn ⟨cs,e⟩
   rw[wL hn' hu]at h ⊢
   rw[Cm hn']at hβ
   exact h.mono hw hS hβ
theorem RV.mono (hw : ∀b,S b->w'.heap[b]? = w.heap[b]?) (hS : ∀b,S b->S' b) (hβ : ∀k∈bK a,∀x,β k=some x->β' k=some x) (h:RV w S β a v):RV w' S' β' a v:=by
 by_cases hn : ∃cs,a = .aF cs
 .obtain⟨cs,rfl⟩:=hn
  obtain⟨vs,h1,h2⟩:=h
  exact⟨vs,h1,h2.imp fun b hb u hu=>hu.mono hw hS fun k hk=>hβ k (by simp only[bK,eF];exact⟨b,hb,hk⟩)⟩
 .by_cases hu : ∃j b want x,a = .gd j b want x
  .obtain⟨j,b,want,x,rfl⟩:=hu
   exact⟨fun hb=>RT.mono hw hS hβ (h.1 hb),h.2⟩
  .have hn' : ∀cs,a ≠ .aF cs:=fun cs e=>hn ⟨cs,e⟩
   have hu' : ∀j b w x,a ≠ .gd j b w x:=fun j b w x e=>hu ⟨j,b,w,x,e⟩
   rw[s7 hn' hu']at h ⊢
   rw[wM hn' hu']at hβ
   exact h.mono hw hS hβ
theorem RP.one (h:RP w S β a v):v.oneCell'=true:=by
 cases a<;>simp only[RP]at h
 case e0=>obtain⟨A,rfl⟩:=h;rfl
 case own k=>
  obtain⟨x,_,h1,h2⟩:=h
  cases hx:x.real
  .obtain⟨A,rfl⟩:=h2 hx;rfl
  .rw[h1 hx];rfl
 case win=>obtain⟨x,_,A,c,rfl,_⟩:=h;rfl
 case ptr=>obtain⟨x,_,_,rfl⟩:=h;rfl
 case bD=>obtain⟨b,o,rfl,_⟩:=h;rfl
 case nz=>exact h.1.one
 all_goals exact h.one
theorem RC.one (h:RC w S β a v):v.oneCell'=true:=by
 cases a
 case fn f cs=>obtain⟨vs,rfl,_⟩:=h;rfl
 all_goals (rw[nM (by simp)]at h;exact h.one)
theorem R0.rp (h:R0 w S a v):RP w S β a v:=by
 cases h with
 | bL h=>exact .bL h
 | v h=>exact .v h
 | fn f=>exact .fn f
 | sl hc hm hA hl dJ hr=>exact .sl hc hm hA hl dJ hr
theorem R0.rc (h:R0 w S a v):RC w S β a v:=by
 cases h with
 | bL h=>exact .bL h
 | v h=>exact .v h
 | fn f=>exact⟨[],rfl,trivial⟩
 | sl hc hm hA hl dJ hr=>exact .sl hc hm hA hl dJ hr
theorem RC.rt (h:RC w S β a v):RT w S β a v:=by
 cases a
 case bL=>trivial
 case agg cs=>exact nomatch (show R0 w S (.agg cs) v from h)
 all_goals exact h
theorem RT.rv (h:RT w S β a v):RV w S β a v:=by
 cases a
 case aF cs=>exact nomatch (show R0 w S (.aF cs) v from h)
 case gd j b c x=>exact nomatch (show R0 w S (.gd j b c x) v from h)
 all_goals exact h
def iJ (w:World) (S:Nat->Prop) (g:Nat) (r:GR):Prop:=
 S g /\ ∃cs ty o,w.heap[g]? = some (.cells cs ty o)/\(∀(j:Nat) (a:AV),r.row[j]? = some a -> ∃v,cs[j]? = some v/\R0 w S a v)/\r.cond cs
theorem iJ.mono {w w':World} {S S':Nat->Prop} (hw : ∀b,S b->w'.heap[b]? = w.heap[b]?) (hS : ∀b,S b->S' b) {g:Nat} {r:GR} (h:iJ w S g r):iJ w' S' g r:=by
 obtain⟨h1,cs,ty,o,h2,h3,h4⟩:=h
 refine⟨hS _ h1,cs,ty,o,by rw[hw g h1];exact h2,fun j a ha=>?_,h4⟩
 obtain⟨v,hv,hr⟩:=h3 j a ha
 exact⟨v,hv,hr.mono hw hS⟩
theorem iJ.row {w:World} {S:Nat->Prop} {g:Nat} {r:GR} (h:iJ w S g r):wK w S g 0 r.row:=by
 obtain⟨h1,cs,ty,o,h2,h3,h4⟩:=h
 refine⟨h1,fun j a ha=>?_⟩
 obtain⟨v,hv,hr⟩:=h3 j a ha
 refine⟨v,?_,hr⟩
 rw[gD]
 simp only[lW,h2]
 simpa using hv
theorem iJ.cells {w:World} {S:Nat->Prop} {g:Nat} {r:GR} (h:iJ w S g r) : ∃cs ty o,w.heap[g]? = some (.cells cs ty o)/\r.cond cs:=by
 obtain⟨_,cs,ty,o,h2,_,h4⟩:=h
 exact⟨cs,ty,o,h2,h4⟩
def fy (w:World) (S:Nat->Prop) (β:Nat->Option BI) (bl:ah) (x:BI):Prop:=
 ∃(cs:Array Value) (ty:TypeId),w.heap[x.b]? = some (.cells cs ty (0,0))/\cs.size=x.cap*x.size/\bl.rows.length=x.len/\x.len<=x.cap/\x.cap<=9223372036854775807 /\
  (bl.box=false->ty=bl.ty/\x.size=bl.sz)/\(bl.box=true->(bl.sz=0->x.cap=1)/\(bl.sz≠0->x.size=bl.sz)/\(bl.ty=0\/ty=bl.ty)) /\
  ∀(i:Nat) (row:Row),bl.rows[i]? = some row->row.length=x.size /\
   ∀(j:Nat) (a:AV),row[j]? = some a -> ∃v,cs[i*x.size+j]? = some v/\(if bl.box then RC w S β a v else R0 w S a v)
structure dW (B:Nat->Prop) (w w':World):Prop where
 os:w'.os=w.os
 tape:w'.tape=w.tape
 output:w'.output=w.output
 size:w.heap.size<=w'.heap.size
 block : ∀k,B k->w'.heap[k]? = w.heap[k]?
theorem dW.refl (B:Nat->Prop) (w:World):dW B w w:=⟨rfl,rfl,rfl,bR _,fun _ _=>rfl⟩
theorem dW.trans {B:Nat->Prop} {a b c:World} (h:dW B a b) (k:dW B b c):dW B a c:=
 ⟨k.os.trans h.os,k.tape.trans h.tape,k.output.trans h.output,iW h.size k.size,fun i hi=>(k.block i hi).trans (h.block i hi)⟩
theorem dW.mono {B B':Nat->Prop} {w w':World} (h:dW B w w') (hB : ∀k,B' k->B k):dW B' w w':=⟨h.os,h.tape,h.output,h.size,fun k hk=>h.block k (hB k hk)⟩
theorem dW.drew {B:Nat->Prop} {a w:World} (h:dW B a w):dW B a w.drew:=⟨h.os,h.tape,h.output,h.size,h.block⟩
theorem dW.alloc {B:Nat->Prop} {a w:World} (h:dW B a w) (hB : ∀k,B k->k<w.heap.size) (o:Obj):dW B a (w.alloc o):=
 h.trans ⟨rfl,rfl,rfl,by simp,fun k hk=>by
  show(w.heap.push o)[k]? = _
  have:=hB k hk
  rw[Array.getElem?_push,if_neg (by omega)]⟩
def nN (k:Nat):Prop:=900<=k/\k<1000
structure mO (G:Nat->Option GR) (B:Nat->Prop) (w:World) (S:Nat->Prop) (β:Nat->Option BI) (h:Heap):Prop where
 base : ∀b,B b->b<w.heap.size
 lt : ∀b,S b->b<w.heap.size
 inj : ∀k k' x x',β k=some x->β k'=some x'->x.real=true->x'.real=true->x.b=x'.b->k=k'
 new : ∀k x,β k=some x->x.real=true -> ¬B x.b/\x.b<w.heap.size /\ ¬S x.b
 di : ∀k x,β k=some x -> ∃bl,an h k=some bl/\(x.real=true->fy w S β bl x)/\(x.real=false->bl.rows=[]/\bl.box=false)
 il : ∀k bl,an h k=some bl -> ∃x,β k=some x
 dH : ∀g r,G g=some r->iJ w S g r
abbrev Inv (E:Env):=mO E.dH
def s8 (w:World) (S:Nat->Prop) (β:Nat->Option BI) (t:dG) (a:Act):Prop:=∀n,RV w S β (bJ t n) (a.tmps.getD n undef)
end
end
section
def s9:TypeDesc->Bool
 | .struct _=>true
 | .array _ _=>true
 | _=>false
def nO:Value->AV
 | .slice none 0 0=> .e0
 | .bool b=> .v (.bool b)
 | .int k 0=> .v (.int k 0)
 | .string s=>match s.data.toList with
  | []=> .v (.string ⟨#[]⟩)
  | _=> .bL
 | .pointer none=> .v (.pointer none)
 | .nilFunc=> .v .nilFunc
 | .nilIface=> .v .nilIface
 | _=> .bL
def F4 (P:Program) (f:Field):Option (Nat×Bool×Nat):=match P.info? f.type with
 | some i=>match P.underlying f.type with
  | some d=>match bk i.size 0 with
   | true=>none
   | false=>some (f.offset,s9 d,i.size)
  | none=>none
 | none=>none
def qR {α β:Type} (f:α->Option β):List α->Option (List β)
 | []=>some []
 | a::r=>match f a with
  | some b=>match qR f r with
   | some bs=>some (b::bs)
   | none=>none
  | none=>none
def Cn (P:Program):TypeDesc->Option (List (Nat×Bool×Nat))
 | .struct fs=>qR (F4 P) fs.toList
 | _=>some []
def F5 (i:TypeInfo):Option (List AV):=match i.zero with
 | some z=>match bk z.cells.size i.size&&z.cells.toList.all (·.oneCell')with
  | true=>some (z.cells.toList.map nO)
  | false=>none
 | none=>none
def Co (P:Program):TypeDesc->Option (Nat×Nat×Nat×List AV)
 | .slice e=>match P.info? e with
  | some i=>match bk i.size 0 with
   | true=>none
   | false=>match F5 i with
    | some z=>some (e,i.size,i.bytes,z)
    | none=>none
  | none=>none
 | _=>some (0,0,0,[])
def kindOf:TypeDesc->Option IntKind
 | .int k=>some k
 | _=>none
def wN:TypeDesc->Nat
 | .bool=>1
 | .string=>2
 | .int _=>3
 | .slice _=>4
 | .struct _=>5
 | _=>0
def pp (r:Option (List Nat)) (f:Field) (k:Option (List Nat)):Option (List Nat):=match r with
 | some ks => match (f.name != "_") && bk f.offset ks.length with
  | true=>match k with
   | some k=>some (ks++k)
   | none=>none
  | false=>none
 | none=>none
def mP (P:Program):Nat->TypeId->Option (List Nat)
 | 0,_=>none
 | d+1,t=>match P.info? t with
  | some i=>match P.underlying t with
   | some .bool=>some [2]
   | some (.int _)=>some [0]
   | some .string=>some [1]
   | some (.struct fs)=>match P.stoodInHeld t with
    | true=>none
    | false=>match fs.toList.foldl (fun r f=>pp r f (mP P d f.type)) (some [])with
     | some ks=>match bk ks.length i.size with
      | true=>some ks
      | false=>none
     | none=>none
   | _=>none
  | none=>none
def F6 (P:Program) (t:TypeId):List Nat:=match P.underlying t with
 | some (.struct _)=>match P.eqGuardType P.depth t with
  | true=>[]
  | false=>match mP P 6 t with
   | some ks=>ks
   | none=>[]
 | _=>[]
def qS (P:Program) (t:TypeId):Option TI:=match P.info? t with
 | some i=>match P.underlying t with
  | some d=>match F5 i with
   | some z=>match Cn P d with
    | some fl=>match Co P d with
     | some el=>some ⟨s9 d,i.size,fl,z,el.1,el.2.1,el.2.2.1,el.2.2.2,kindOf d,wN d,F6 P t⟩
     | none=>none
    | none=>none
   | none=>none
  | none=>none
 | none=>none
def ag4 (P:Program) (t:TypeId) (ks:List Nat):Prop:=∀(w:World) (op:BinOp) (p q:Operand) (S:Nat->Prop) (β:Nat->Option BI) (x y:List AV) (u v:Value) (r:Bool),
 RV w S β (.agg x) u->RV w S β (.agg y) v->Ce ks x y=some r->op = .eql\/op = .neq ->
 (do eqGuard op t p q u v;binOp op t u v:Sem Value).run P w = .ok (.bool (match op with | .eql=>r | _=> !r)) w
structure fG (P:Program) (E:Env):Prop where
 ty : ∀t ti,E.ty t=some ti->qS P t=some ti
 look : ∀t rows k row,(E.look t rows k).val=some row->rows[k]? = some row
structure mQ (P:Program) (t:TypeId) (ti:TI) (i:TypeInfo) (d:TypeDesc) (z:Value):Prop where
 Gs:P.info? t=some i
 fk:P.underlying t=some d
 zero:i.zero=some z
 aF2:z.cells.size=i.size
 Wq : ∀v∈z.cells.toList,v.oneCell'=true
 size:ti.size=i.size
 agg:ti.agg=s9 d
 zs:ti.zero=z.cells.toList.map nO
 fl:Cn P d=some ti.wU
 el:Co P d=some (ti.elem,ti.bv,ti.oI,ti.wW)
 kind:ti.kind=kindOf d
 desc:ti.desc=wN d
 eqs:ti.eqs=F6 P t
theorem Vw {i:TypeInfo} {zs:List AV} (h:F5 i=some zs) : ∃z,i.zero=some z/\z.cells.size=i.size/\(∀v∈z.cells.toList,v.oneCell'=true)/\zs=z.cells.toList.map nO:=by
 unfold F5 at h
 split at h
 .rename_i z hz
  split at h
  .rename_i hb
   simp only[aG]at hb
   refine⟨z,hz,beq_true.1 hb.1,fun v hv=>bP.1 hb.2 v hv,?_⟩
   cases h;rfl
  .cases h
 .cases h
theorem ag5 {P:Program} {t:TypeId} {ti:TI} (h:qS P t=some ti) : ∃i d z,mQ P t ti i d z:=by
 unfold qS at h
 split at h
 .rename_i i hi
  split at h
  .rename_i d hd
   split at h
   .rename_i zs hz
    split at h
    .rename_i fl hfl
     split at h
     .rename_i el hel
      obtain⟨z,z1,z2,z3,rfl⟩:=Vw hz
      cases h
      exact⟨i,d,z,hi,hd,z1,z2,z3,rfl,rfl,rfl,hfl,hel,rfl,rfl,rfl⟩
     .cases h
    .cases h
   .cases h
  .cases h
 .cases h
theorem fG.spec {P:Program} {E:Env} (hT:fG P E) {t:TypeId} {ti:TI} (h:E.ty t=some ti) : ∃i d z,mQ P t ti i d z:=by
 exact ag5 (hT.ty t ti h)
theorem Vx {α β:Type} {f:α->Option β} : ∀ {l:List α} {bs:List β},qR f l=some bs -> ∀ {i:Nat} {b:β},bs[i]? = some b -> ∃a,l[i]? = some a/\f a=some b
 | [],bs,h,i,b,hb=>by simp only[qR,eX]at h;subst h;simp at hb
 | a::r,bs,h,i,b,hb=>by
  simp only[qR]at h
  split at h
  .rename_i b0 hb0
   split at h
   .rename_i bs0 hbs
    cases h
    cases i with
    | zero=>simp at hb;subst hb;exact⟨a,rfl,hb0⟩
    | succ i=>simpa using Vx hbs (i:=i) (b:=b) (by simpa using hb)
   .cases h
  .cases h
theorem mQ.fld {P:Program} {t:TypeId} {ti:TI} {i:TypeInfo} {d:TypeDesc} {z:Value} (h:mQ P t ti i d z) {f o n:Nat} {ag:Bool} (hf:ti.wU[f]? = some (o,ag,n)) :
  ∃fs fd fi fu,d = .struct fs/\fs[f]? = some fd/\fd.offset=o/\P.info? fd.type=some fi/\P.underlying fd.type=some fu/\fi.size=n/\n≠0/\ag=s9 fu:=by
 have hfl:=h.fl
 cases d
 case struct fs=>
  simp only[Cn]at hfl
  obtain⟨fd,h1,h2⟩:=Vx hfl hf
  unfold F4 at h2
  split at h2
  .rename_i fi hfi
   split at h2
   .rename_i fu hfu
    split at h2
    .cases h2
    .rename_i hz
     cases h2
     exact⟨fs,fd,fi,fu,rfl,by simpa using h1,rfl,hfi,hfu,rfl,beq_false.1 hz,rfl⟩
   .cases h2
  .cases h2
 all_goals
  simp only[Cn,eX]at hfl
  rw[<-hfl]at hf
  simp at hf
theorem mQ.elem {P:Program} {t:TypeId} {ti:TI} {i:TypeInfo} {d:TypeDesc} {z:Value} (h:mQ P t ti i d z) (h0:ti.bv≠0) :
  ∃ei ez,d = .slice ti.elem/\P.info? ti.elem=some ei/\ei.size=ti.bv/\ei.bytes=ti.oI/\ei.zero=some ez/\ez.cells.size=ti.bv/\(∀v∈ez.cells.toList,v.oneCell'=true)/\ti.wW=ez.cells.toList.map nO:=by
 have hel:=h.el
 cases d
 case slice e=>
  simp only[Co]at hel
  split at hel
  .rename_i ei hei
   split at hel
   .cases hel
   .split at hel
    .rename_i zz hz
     obtain⟨ez,z1,z2,z3,rfl⟩:=Vw hz
     simp only[eX,ny]at hel
     obtain⟨rfl,rfl',rfl'',rfl'''⟩:=hel
     exact⟨ei,ez,rfl,hei,rfl',rfl'',z1,by rw[z2,rfl'],z3,rfl'''.symm⟩
    .cases hel
  .cases hel
 all_goals
  simp only[Co,eX,ny]at hel
  exact absurd hel.2.1.symm h0
theorem mQ.isSlice {P:Program} {t:TypeId} {ti:TI} {i:TypeInfo} {d:TypeDesc} {z:Value} (h:mQ P t ti i d z) (h0:bk ti.desc 4=true) :
  ∃ei,d = .slice ti.elem/\P.info? ti.elem=some ei/\ei.size=ti.bv/\ti.bv≠0:=by
 have hd:=h.desc
 rw[beq_true.1 h0]at hd
 have hel:=h.el
 cases d<;>simp[wN]at hd
 case slice e=>
  simp only[Co]at hel
  split at hel
  .rename_i ei hei
   split at hel
   .cases hel
   .rename_i hz
    split at hel
    .simp only[eX,ny]at hel
     obtain⟨rfl,e2,e3,e4⟩:=hel
     exact⟨ei,rfl,hei,e2,by rw[<-e2];exact beq_false.1 hz⟩
    .cases hel
  .cases hel
theorem mQ.LY {P:Program} {t:TypeId} {ti:TI} {i:TypeInfo} {d:TypeDesc} {z:Value} (h:mQ P t ti i d z) (h0:bk ti.desc 2=true):d = .string:=by
 have hd:=h.desc
 rw[beq_true.1 h0]at hd
 cases d<;>simp[wN]at hd
 rfl
theorem mQ.isBool {P:Program} {t:TypeId} {ti:TI} {i:TypeInfo} {d:TypeDesc} {z:Value} (h:mQ P t ti i d z) (h0:bk ti.desc 1=true):d = .bool:=by
 have hd:=h.desc
 rw[beq_true.1 h0]at hd
 cases d<;>simp[wN]at hd
 rfl
theorem F7 (w:World) (S:Nat->Prop) (β:Nat->Option BI) {v:Value} (h:v.oneCell'=true):RC w S β (nO v) v:=by
 unfold nO
 split
 .exact⟨_,rfl⟩
 .exact R0.rc (.v trivial)
 .rename_i k;exact R0.rc (.v (by cases k<;>simp[dh,jB,iX,ii,fA]))
 .rename_i s
  split
  .rename_i hs
   have:s=⟨#[]⟩:=by
    obtain⟨⟨l⟩⟩:=s
    simp at hs
    subst hs
    rfl
   subst this
   exact R0.rc (.v (by simp[dh];decide))
  .exact R0.rc (.bL h)
 .exact R0.rc (.v trivial)
 .exact R0.rc (.v trivial)
 .exact R0.rc (.v trivial)
 .exact R0.rc (.bL h)
theorem LZ (w:World) (S:Nat->Prop) (β:Nat->Option BI) : ∀ {l:List Value},(∀v∈l,v.oneCell'=true)->RL (RC w S β) (l.map nO) l
 | [],_=>trivial
 | v::r,h=>⟨F7 w S β (h v (by simp)),LZ w S β fun u hu=>h u (by simp[hu])⟩
theorem ag7 {v:Value} (h:nO v = .e0):v = .slice none 0 0:=by
 unfold nO at h
 split at h<;>first | rfl | (cases h;done) | (split at h<;>cases h)
theorem ag8 (w:World) (S:Nat->Prop) (β:Nat->Option BI) {l:List Value} (h : ∀v∈l,v.oneCell'=true):RL (RC w S β) (qF (l.map nO)) l:=by
 have hz:=LZ w S β h
 unfold qF
 split
 .rename_i he
  have h2:l.length=2:=by have:=congrArg ae he;simpa using this
  obtain⟨a,b,rfl⟩ : ∃a b,l=[a,b]:=by
   cases l with
   | nil=>simp at h2
   | cons a l=>cases l with
    | nil=>simp at h2
    | cons b l=>cases l with
     | nil=>exact⟨a,b,rfl⟩
     | cons c l=>simp at h2
  simp only[gP,List.map_nil,qq,and_true]at he
  have hb:=ag7 he.2
  subst hb
  have ha:RC w S β (nO a) a:=hz.1
  rw[he.1]at ha
  exact⟨ha,R0.rc (.v trivial),trivial⟩
 .exact hz
theorem Cp (k:IntKind) (n:Int):dh (.int k (k.wrap n)):=by
 cases k<;>simp only[dh,bQ,jB,iX,ii,fA]<;>simp<;>first | omega | (split<;>omega)
section
variable {P : Program} (w : World)
theorem Vy {t:TypeId} {i:TypeInfo} (h:P.info? t=some i):(typeInfo t).run P w = .ok i w:=by
 simp[typeInfo,h]
theorem nP {t:TypeId} {i:TypeInfo} (h:P.info? t=some i):(sizeOf t).run P w = .ok i.size w:=by
 simp[sizeOf,Vy w h]
theorem ag9 {t:TypeId} {i:TypeInfo} {z:Value} (h:P.info? t=some i) (hz:i.zero=some z):(zeroValue t).run P w = .ok z w:=by
 simp[zeroValue,Vy w h,hz]
theorem F8 {t:TypeId} {d:TypeDesc} (h:P.underlying t=some d):(isAgg t).run P w = .ok (s9 d) w:=by
 simp only[isAgg,lX,run_underlying h,kZ]
 cases d<;>rfl
end
end
section
def jF:List Nat->List Value->List Value->Option Bool
 | [],[],[]=>some true
 | k::ks,a::x,b::y=>match Cd k a b with
  | some p=>match jF ks x y with
   | some q=>some (p&&q)
   | none=>none
  | none=>none
 | _,_,_=>none
theorem L0 : ∀ {ks:List Nat} {x y:List Value} {r:Bool},jF ks x y=some r->x.length=ks.length/\y.length=ks.length
 | [],[],[],r,_=>⟨rfl,rfl⟩
 | k::ks,a::x,b::y,r,h=>by
  simp only[jF]at h
  split at h
  .split at h
   .rename_i q hq
    have:=L0 hq
    simp[this.1,this.2]
   .cases h
  .cases h
 | [],[],_::_,r,h=>by cases h
 | [],_::_,_,r,h=>by cases h
 | _::_,[],_,r,h=>by cases h
 | _::_,_::_,[],r,h=>by cases h
theorem Vz : ∀ {k1 k2:List Nat} {x y:List Value} {r:Bool},jF (k1++k2) x y=some r ->
  ∃p q,jF k1 (x.take k1.length) (y.take k1.length)=some p/\jF k2 (x.drop k1.length) (y.drop k1.length)=some q/\r=(p&&q)
 | [],k2,x,y,r,h=>⟨true,r,by simp[jF],by simpa using h,by simp⟩
 | k::k1,k2,a::x,b::y,r,h=>by
  simp only[k6,jF]at h
  split at h
  .rename_i p hp
   split at h
   .rename_i q hq
    obtain⟨p',q',h1,h2,rfl⟩:=Vz hq
    cases h
    refine⟨p&&p',q',?_,by simpa using h2,by simp[Bool.and_assoc]⟩
    simp only[gq,List.take_succ_cons,jF,hp,h1]
   .cases h
  .cases h
 | k::k1,k2,[],y,r,h=>by simp only[k6,jF]at h;cases h
 | k::k1,k2,_::_,[],r,h=>by simp only[k6,jF]at h;cases h
def kC (P:Program) (t:TypeId) (us:List Value):Value:=match P.underlying t with
 | some (.struct _)=> .agg us.toArray
 | _=>us.headD undef
theorem L1 (P:Program) (d:Nat) : ∀l:List Field,l.foldl (fun r f=>pp r f (mP P d f.type)) none=none
 | []=>rfl
 | f::l=>by simp only[lY,pp];exact L1 P d l
variable {P : Program} {w : World}
theorem aha {a b:IntKind} (h:oA a=oA b):a=b:=by cases a<;>cases b<;>first | rfl | (simp[oA]at h)
theorem ahb {t:TypeId} {k:Nat} {a b:Value} {r:Bool} (d:Nat) (hk:(k=2/\P.underlying t=some .bool)\/(k=0 /\ ∃kd,P.underlying t=some (.int kd))\/(k=1/\P.underlying t=some .string)) (h:Cd k a b=some r) :
  (pd (d+1) t a b).run P w = .ok r w:=by
 unfold Cd at h
 split at h
 .rename_i ka x kb y
  split at h
  .rename_i hc
   simp only[aG]at hc
   have h0:=beq_true.1 hc.1
   have h1:=aha (beq_true.1 hc.2)
   subst h0 h1
   cases h
   rcases hk with ⟨h,_⟩ | ⟨_,kd,hu⟩ | ⟨h,_⟩
   .cases h
   .simp only[pd,lX,run_underlying hu,kZ,if_true,oj]
   .cases h
  .cases h
 .split at h
  .rename_i hc
   have h0:=beq_true.1 hc
   subst h0
   cases h
   rcases hk with ⟨h,_⟩ | ⟨h,_⟩ | ⟨_,hu⟩
   .cases h
   .cases h
   .exact run_equalIn_string w d t _ _ hu
  .cases h
 .split at h
  .rename_i hc
   have h0:=beq_true.1 hc
   subst h0
   cases h
   rcases hk with ⟨_,hu⟩ | ⟨h,_⟩ | ⟨h,_⟩
   .simp only[pd,lX,run_underlying hu,kZ,oj]
   .cases h
   .cases h
  .cases h
 .cases h
theorem ahc {k:Nat} {us vs:List Value} {r:Bool} (h:jF [k] us vs=some r) : ∃a b,us=[a]/\vs=[b]/\Cd k a b=some r:=by
 obtain⟨h1,h2⟩:=L0 h
 match us,vs,h1,h2 with
 | [a],[b],_,_=>
  simp only[jF]at h
  split at h
  .rename_i p hp
   simp only[Bool.and_true,eX]at h
   subst h
   exact⟨a,b,rfl,rfl,hp⟩
  .cases h
theorem ahd {t:TypeId} {i:TypeInfo} (hi:P.info? t=some i) {ks:List Nat} (hks:ks.length=i.size\/ks.length=1) (hd:(∃fs,P.underlying t=some (.struct fs))->ks.length=i.size)
  (hu:(∃fs,P.underlying t=some (.struct fs))\/(ks.length=1/\(P.underlying t=some .bool\/(∃kd,P.underlying t=some (.int kd))\/P.underlying t=some .string))) (xs:List Value) (o:Nat) (hle:o+ks.length<=xs.length) :
  (part t xs.toArray o).run P w = .ok (kC P t ((xs.drop o).take ks.length)) w:=by
 rcases hu with ⟨fs,hu⟩ | ⟨h1,hu⟩
 .have hsz:=hd ⟨fs,hu⟩
  simp only[part,isAgg,lX,run_underlying hu,kZ,oj,if_true,nP w hi]
  unfold kC
  rw[hu]
  simp only[]
  congr 2
  apply vE
  simp[hsz]
 .have hget:xs[o]? = some xs[o]:=bC (by omega)
  have hmk:kC P t ((xs.drop o).take ks.length)=xs[o]:=by
   have:(xs.drop o).take ks.length=[xs[o]]:=by
    rw[h1,List.drop_eq_getElem_cons (by omega)];rfl
   rw[this]
   unfold kC
   rcases hu with hu | ⟨kd,hu⟩ | hu<;>rw[hu]<;>rfl
  rw[hmk]
  rcases hu with hu | ⟨kd,hu⟩ | hu<;>simp[part,isAgg,run_underlying hu,hget]
theorem ahe {d:Nat} {t:TypeId} {ks:List Nat} (h:mP P d t=some ks) : ∃i,P.info? t=some i/\(((∃fs,P.underlying t=some (.struct fs))/\ks.length=i.size)\/(ks.length=1/\(P.underlying t=some .bool\/(∃kd,P.underlying t=some (.int kd))\/P.underlying t=some .string))):=by
 cases d with
 | zero=>cases h
 | succ d=>
  simp only[mP]at h
  split at h
  .rename_i i hi
   refine⟨i,hi,?_⟩
   split at h
   .rename_i hu;cases h;exact .inr ⟨rfl, .inl hu⟩
   .rename_i kd hu;cases h;exact .inr ⟨rfl, .inr (.inl ⟨kd,hu⟩)⟩
   .rename_i hu;cases h;exact .inr ⟨rfl, .inr (.inr hu)⟩
   .rename_i fs hu
    split at h
    .cases h
    .split at h
     .split at h
      .rename_i hl;cases h;exact .inl ⟨⟨fs,hu⟩,beq_true.1 hl⟩
      .cases h
     .cases h
   .cases h
  .cases h
theorem VA : ∀(d:Nat) {t:TypeId} {ks:List Nat},mP P d t=some ks -> ∀(m:Nat) {us vs:List Value} {r:Bool},jF ks us vs=some r->(pd (d+m) t (kC P t us) (kC P t vs)).run P w = .ok r w
 | 0,t,ks,h,m,us,vs,r,hv=>by cases h
 | d+1,t,ks,h,m,us,vs,r,hv=>by
  have ih:=fun {t ks} (h:mP P d t=some ks)=>VA d h
  rw[show d+1+m=(d+m)+1 by omega]
  have leaf : ∀k,ks=[k]->((k=2/\P.underlying t=some .bool)\/(k=0 /\ ∃kd,P.underlying t=some (.int kd))\/(k=1/\P.underlying t=some .string))->(pd (d+m+1) t (kC P t us) (kC P t vs)).run P w = .ok r w:=by
   rintro k rfl hk
   obtain⟨a,b,rfl,rfl,hab⟩:=ahc hv
   have e : ∀x,kC P t [x]=x:=fun x=>by
    unfold kC
    rcases hk with ⟨_,hu⟩ | ⟨_,kd,hu⟩ | ⟨_,hu⟩<;>rw[hu]<;>rfl
   rw[e,e]
   exact ahb (d+m) hk hab
  simp only[mP]at h
  split at h
  .rename_i i hi
   split at h
   .rename_i hu;cases h;exact leaf 2 rfl (.inl ⟨rfl,hu⟩)
   .rename_i kd hu;cases h;exact leaf 0 rfl (.inr (.inl ⟨rfl,kd,hu⟩))
   .rename_i hu;cases h;exact leaf 1 rfl (.inr (.inr ⟨rfl,hu⟩))
   .rename_i fs hu
    split at h
    .cases h
    .rename_i hst
     split at h
     .rename_i ks' hf
      split at h
      .cases h
       have e : ∀x,kC P t x = .agg x.toArray:=fun x=>by unfold kC;rw[hu]
       rw[e,e]
       simp only[pd,lX,run_underlying hu,kZ]
       obtain⟨hlx,hly⟩:=L0 hv
       have key : ∀(l:List Field) (k0:List Nat),l.foldl (fun r f=>pp r f (mP P d f.type)) (some k0)=some ks -> ∀r1,jF (ks.drop k0.length) (us.drop k0.length) (vs.drop k0.length)=some r1->ks.take k0.length=k0 ->
         (forIn l ((none, ()) : Option Bool × Unit) fun f __s => if f.name = "_" then pure (aFz (none, ())) else do
          let a <-part f.type us.toArray f.offset
          let b <-part f.type vs.toArray f.offset
          let e <-pd (d+m) f.type a b
          if e=false then pure (ForInStep.done (some false,())) else pure (aFz (none,())):Sem (Option Bool×Unit)).run P w = .ok (match r1 with | true=>(none,()) | false=>(some false,())) w:=by
        intro l
        induction l with
        | nil=>
         intro k0 hk r1 hr _
         simp only[KV,eX]at hk
         subst hk
         rw[List.drop_length]at hr
         have hx:us.drop k0.length=[]:=qr (by omega)
         have hy:vs.drop k0.length=[]:=qr (by omega)
         rw[hx,hy]at hr
         cases hr
         simp
        | cons f l ihl=>
         intro k0 hk r1 hr htake
         simp only[lY]at hk
         cases hadd:pp (some k0) f (mP P d f.type)with
         | none=>rw[hadd,L1]at hk;cases hk
         | some k1=>
          rw[hadd]at hk
          simp only[pp]at hadd
          split at hadd
          .rename_i hc
           simp only[aG]at hc
           have hname : f.name ≠ "_" := by simpa using hc.1
           have hoff:=beq_true.1 hc.2
           split at hadd
           .rename_i kf hkf
            cases hadd
            have hpre : ∀(l:List Field) (q:List Nat) {ks:List Nat},l.foldl (fun r f=>pp r f (mP P d f.type)) (some q)=some ks->ks.take q.length=q:=by
             intro l
             induction l with
             | nil=>intro q ks hq;simp only[KV,eX]at hq;subst hq;simp
             | cons g l ihg=>
              intro q ks hq
              simp only[lY]at hq
              cases hg:pp (some q) g (mP P d g.type)with
              | none=>rw[hg,L1]at hq;cases hq
              | some q1=>
               rw[hg]at hq
               have:=ihg q1 hq
               simp only[pp]at hg
               split at hg
               .split at hg
                .cases hg
                 have h2:=congrArg (List.take q.length) this
                 rw[List.take_take,List.take_left' rfl]at h2
                 rw[show min q.length (q++_).length=q.length by simp]at h2
                 exact h2
                .cases hg
               .cases hg
            have htk:=hpre l _ hk
            have hsplit:ks.drop k0.length=kf++ks.drop (k0++kf).length:=by
             have h1:ks=(k0++kf)++ks.drop (k0++kf).length:=by
              have:=List.take_append_drop (k0++kf).length ks
              rw[htk]at this
              exact this.symm
             have h2:=congrArg (List.drop k0.length) h1
             rw[cq,List.drop_left' rfl]at h2
             exact h2
            rw[hsplit]at hr
            obtain⟨p,q,hp,hq,rfl⟩:=Vz hr
            obtain⟨fi,hfi,hshape⟩:=ahe hkf
            have hks:ks.length=k0.length+(kf.length+(ks.drop (k0++kf).length).length):=by
             have:=congrArg ae hsplit
             simp only[fe,ck]at this ⊢
             have h3:k0.length<=ks.length:=by
              have:=congrArg ae htake
              simp only[eY]at this
              omega
             omega
            have hpa : ∀xs:List Value,xs.length=ks.length->(part f.type xs.toArray f.offset).run P w = .ok (kC P f.type ((xs.drop f.offset).take kf.length)) w:=by
             intro xs hxs
             refine ahd hfi ?_ ?_ ?_ xs f.offset (by omega)
             .rcases hshape with ⟨_,h⟩ | ⟨h,_⟩
              .exact .inl h
              .exact .inr h
             .rintro⟨fs',hfs⟩
              rcases hshape with ⟨_,h⟩ | ⟨_,h⟩
              .exact h
              .rcases h with h | ⟨kd,h⟩ | h<;>rw[hfs]at h<;>cases h
             .rcases hshape with ⟨h,_⟩ | h
              .exact .inl h
              .exact .inr h
            have na:=ih hkf m (us:=(us.drop f.offset).take kf.length) (vs:=(vs.drop f.offset).take kf.length) (r:=p) (by rw[hoff];exact hp)
            rw[List.forIn_cons]
            simp only[if_neg hname,lX,hpa us hlx,hpa vs hly,kZ,na]
            cases p with
            | false=>simp
            | true=>
             simp only[Bool.true_eq_false,if_false,oj,kZ,Bool.true_and]
             refine ihl (k0++kf) hk q ?_ htk
             simp only[List.drop_drop,ck]at hq ⊢
             exact hq
           .cases hadd
          .cases hadd
       have hk:=key fs.toList [] hf r (by simpa using hv) (by simp)
       rw[Array.forIn_toList]at hk
       simp[program,hst,KW]
       rw[show ∀(x:Sem (Option Bool×Unit)),KW P x w=x.run P w from fun _=>rfl]
       rw[hk]
       cases r<;>rfl
      .cases h
     .cases h
   .cases h
  .cases h
theorem VB {S:Nat->Prop} {β:Nat->Option BI} : ∀ {ks:List Nat} {x y:List AV} {us vs:List Value} {r:Bool},RL (RC w S β) x us->RL (RC w S β) y vs->Ce ks x y=some r->jF ks us vs=some r
 | [],[],[],[],[],r,_,_,h=>h
 | k::ks,a::x,b::y,u::us,v::vs,r,hx,hy,h=>by
  simp only[Ce]at h
  split at h
  .rename_i p hp
   split at h
   .rename_i q hq
    cases h
    have ih:=VB hx.2 hy.2 hq
    unfold Ve at hp
    split at hp
    .rename_i va vb
     have e1:u=va:=by cases(show R0 w S (.v va) u from hx.1)with | v h=>rfl
     have e2:v=vb:=by cases(show R0 w S (.v vb) v from hy.1)with | v h=>rfl
     subst e1 e2
     simp only[jF,hp,ih]
    .cases hp
   .cases h
  .cases h
 | [],[],[],_::_,_,r,hx,_,h=>hx.elim
 | [],[],[],[],_::_,r,_,hy,h=>hy.elim
 | [],_::_,_,_,_,r,_,_,h=>by cases h
 | [],[],_::_,_,_,r,_,_,h=>by cases h
 | _::_,[],_,_,_,r,_,_,h=>by cases h
 | _::_,_::_,[],_,_,r,_,_,h=>by cases h
 | _::_,_::_,_::_,[],_,r,hx,_,h=>hx.elim
 | _::_,_::_,_::_,_::_,[],r,_,hy,h=>hy.elim
theorem ahf {t:TypeId} {k:Nat} {ks:List Nat} (h:F6 P t=k::ks):ag4 P t (k::ks):=by
 intro w op p q S β x y u v r hx hy hc hop
 obtain⟨us,rfl,hus⟩:=(show ∃vs:List Value,u = .agg vs.toArray/\RL (RC w S β) x vs from hx)
 obtain⟨vs,rfl,hvs⟩:=(show ∃us:List Value,v = .agg us.toArray/\RL (RC w S β) y us from hy)
 unfold F6 at h
 split at h
 .rename_i fs hu
  split at h
  .cases h
  .rename_i hg
   split at h
   .rename_i ks' hk
    subst h
    have hv:=VB hus hvs hc
    have he:=VA (P:=P) (w:=w) 6 hk 9994 hv
    have e : ∀x,kC P t x = .agg x.toArray:=fun x=>by unfold kC;rw[hu]
    rw[e,e]at he
    have na:(Op.equal t (.agg us.toArray) (.agg vs.toArray)).run P w = .ok r w:=he
    rcases hop with rfl | rfl
    .simp[eqGuard,program,hg,binOp,na,KW]
    .simp[eqGuard,program,hg,binOp,na,KW]
   .cases h
 .cases h
end
end Go.Proofs.YtaobkfpnebbohaaGreatDoor.M
namespace Go.Proofs.YtaobkfpnebbohaaGreatDoor.M
open Go Go.RowKit
set_option linter.unusedVariables false
set_option linter.unusedSimpArgs false
section
section
variable {α β : Type}
theorem T.ahg (t:T α) (g:α->T β):(t.bind g).val=t.val.bind fun a=>(g a).val:=by
 induction t with
 | ret a=>rfl
 | fail=>rfl
 | bM b x y hx hy=>cases b<;>simp only[T.bind,T.val,hx,hy]
 | gS o f hf=>cases o<;>simp only[T.bind,T.val,hf,Option.bind_none]
theorem T.bind_some {t:T α} {g:α->T β} {y:β}:(t.bind g).val=some y ↔ ∃a,t.val=some a/\(g a).val=some y:=by
 rw[T.ahg,UL]
theorem T.dv {b:Bool} {x y:T α} {z:α}:(T.bM b x y).val=some z↔(b=true/\x.val=some z)\/(b=false/\y.val=some z):=by cases b<;>simp[T.val]
theorem T.lv {o:Option β} {f:β->T α} {z:α}:(T.gS o f).val=some z ↔ ∃y,o=some y/\(f y).val=some z:=by cases o<;>simp[T.val]
theorem T.bw {a b:α}:(T.ret a).val=some b↔a=b:=by simp[T.val]
theorem T.aO {b:α}:(T.fail:T α).val=some b↔False:=by simp[T.val]
theorem T.L2 {t:T AV} {p:AV×Heap}:t.plain.val=some p ↔ ∃a,t.val=some a/\(a,[])=p:=by
 unfold T.plain;rw[T.bind_some];simp only[M.plain,T.bw]
end
structure Gr (B:Nat->Prop) (w:World) (S:Nat->Prop) (β:Nat->Option BI) (w':World) (S':Nat->Prop) (β':Nat->Option BI):Prop where
 below:dW B w w'
 keep : ∀b,S b->w'.heap[b]? = w.heap[b]?
 sub : ∀b,S b->S' b
 news : ∀b,S' b->S b \/ ¬B b
 keys : ∀k x,β k=some x->β' k=some x
 dS : ∀k x,nN k->β' k=some x->β k=some x
theorem Gr.refl (B:Nat->Prop) (w:World) (S:Nat->Prop) (β:Nat->Option BI):Gr B w S β w S β:=
 ⟨dW.refl _ _,fun _ _=>rfl,fun _ h=>h,fun _ h=> .inl h,fun _ _ h=>h,fun _ _ _ h=>h⟩
section
variable {B : Nat -> Prop} {w w' : World} {S S' : Nat -> Prop} {β β' : Nat -> Option BI} {a : AV} {v : Value}
theorem Gr.rv (g:Gr B w S β w' S' β') (h:RV w S β a v):RV w' S' β' a v:=h.mono g.keep g.sub fun k _ x hx=>g.keys k x hx
theorem Gr.rc (g:Gr B w S β w' S' β') (h:RC w S β a v):RC w' S' β' a v:=h.mono g.keep g.sub fun k _ x hx=>g.keys k x hx
end
variable {P : Program} {E : Env}
def kD (P:Program) (E:Env) (B:Nat->Prop) (o:Oper) (a:Act) (w:World) (S:Nat->Prop) (β:Nat->Option BI) (h:Heap) (av:AV) (ws:Heap):Prop:=
 ∀(K:Act->World->Prop) (Q:Exit->Act->World->Prop),
  (∀v w' S' β',Inv E B w' S' β' (iy h ws)->Gr B w S β w' S' β'->RV w' S' β' av v->K (a.put o.dst v) w')->o.wp P a w K Q
section
variable {B : Nat -> Prop} {o : Oper} {a : Act} {w : World} {S : Nat -> Prop} {β : Nat -> Option BI} {h : Heap} {av : AV} {v : Value}
theorem wO (inv:Inv E B w S β h) (hr:(execOp a.eval o).run P w = .ok (.value v) w) (hv:RV w S β av v):kD P E B o a w S β h av []:=by
 intro K Q hK
 unfold ol
 rw[hr,sG]
 exact hK v w S β inv (Gr.refl _ _ _ _) hv
theorem dD {x:Value} (h:RV w S β (.v x) v):v=x/\dh x:=by
 cases(show R0 w S (.v x) v from h)with | v h=>exact⟨rfl,h⟩
theorem dO {x:Value} (h:dh x):RV w S β (.v x) x:=R0.v h
theorem ta {rows:List Row} (h:RV w S β (.sl rows) v):R0 w S (.sl rows) v:=h
theorem ahh {cs:List AV} (h:RV w S β (.agg cs) v) : ∃vs:List Value,v = .agg vs.toArray/\RL (RC w S β) cs vs:=h
theorem ahi {cs:List AV} (h:RV w S β (.aF cs) v) : ∃vs:List Value,v = .tuple vs.toArray/\RL (RT w S β) cs vs:=h
theorem wP {k:Nat} (h:RV w S β (.own k) v):RP w S β (.own k) v:=h
theorem Cq {k i off:Nat} (h:RV w S β (.ptr k i off) v) : ∃x,β k=some x/\x.real=true/\v = .pointer (some ⟨x.b,i*x.size+off,none⟩):=h
theorem F9 {row:Row} {off:Nat} (h:RV w S β (.bD row off) v) : ∃b o,v = .pointer (some ⟨b,o+off,none⟩)/\wK w S b o row:=h
theorem Ga {k lo n:Nat} (h:RV w S β (.win k lo n) v):RP w S β (.win k lo n) v:=h
theorem wQ (h:RV w S β .e0 v) : ∃A,v = .slice A 0 0:=h
abbrev mc (w:World) (S:Nat->Prop) (β:Nat->Option BI) (ρ:Operand->AV) (a:Act):Prop:=∀x,RV w S β (ρ x) (a.eval x)
variable {ρ : Operand -> AV}
theorem L3 {x:Operand} (inv:Inv E B w S β h) (hρ:mc w S β ρ a) (ho:o.op = .move x\/o.op = .assign x):kD P E B o a w S β h (ρ x) []:=
 wO (v:=a.eval x) inv (by rcases ho with ho | ho<;>simp[execOp,ho]) (hρ x)
theorem ahj (op:BinOp) (t:TypeId) (kd:IntKind) (x y:Int) (hx:dh (.int kd x)) {r:AV} (h:(Ly op kd x y).val=some r) :
  ∃u,(binOp op t (.int kd x) (.int kd y)).run P w = .ok u w/\RV w S β r u:=by
 cases op<;>simp only[Ly,T.bw,T.aO,T.dv,or_false,false_or,and_false]at h<;>first
  | (cases h;refine⟨_,?_,dO (bits_within _ _ _ _)⟩;first | (rw[binOp_and,intBits_and];rfl) | (rw[binOp_or,intBits_or];rfl) | (rw[binOp_xor,intBits_xor];rfl) | (rw[binOp_andNot,intBits_andNot];rfl))
  | (cases h;exact⟨_,by simp[binOp,Op.intArith],dO (Cp _ _)⟩)
  | (cases h;exact⟨_,by simp[binOp,Op.intCmp],dO trivial⟩)
  | (exact h.elim)
  | skip
 .obtain⟨h0,rfl⟩:=h
  have h0:y≠0:=by simpa using h0
  exact⟨_,by simp[binOp,Op.intDiv,h0],dO (Cp _ _)⟩
 .obtain⟨h0,rfl⟩:=h
  have h0:y≠0:=by simpa using h0
  refine⟨_,by simp[binOp,Op.intDiv,h0],dO ?_⟩
  have hb:(x.tmod y).natAbs<=x.natAbs:=by rw[Int.natAbs_tmod];exact Nat.mod_le _ _
  have hs:0<=x->0<=x.tmod y:=fun hx=>Int.tmod_nonneg y hx
  have hs2:x<=0->x.tmod y<=0:=fun hx=>by have:=Int.tmod_nonneg y (a:= -x) (by omega);rw[Int.neg_tmod]at this;omega
  cases kd<;>simp only[dh,jB,iX,ii,fA]at hx ⊢ <;> simp at hx ⊢ <;> omega
 .obtain⟨h0,rfl⟩:=h
  simp only[aG,aM]at h0
  exact⟨_,by rw[binOp_shl];rw[shift_shl_any _ _ _ _ h0.1];rfl,dO (Cp _ _)⟩
 .rcases h with ⟨h0,rfl⟩ | ⟨hn,h0,rfl⟩
  .have h0:y=1:=by simpa using h0
   subst h0
   refine⟨.int kd (x.fdiv 2),?_,dO ?_⟩
   .have hm:min 1 kd.bits=1:=by cases kd<;>rfl
    simp[binOp,Op.shift,hm]
   .have h1:x.fdiv 2=x / 2:=Int.fdiv_eq_ediv_of_nonneg x (by decide)
    rw[h1]
    cases kd<;>simp only[dh,jB,iX,ii,fA]at hx ⊢ <;> simp at hx ⊢ <;> omega
  .simp only[aG,aM]at h0
   refine⟨_,by rw[binOp_shr];rw[shift_shr_any _ _ _ _ h0.1];rfl,dO ?_⟩
   have hp:(1:Int)<=(2:Int) ^ min y.toNat kd.bits:=by
    have:(0:Int)<(2:Int) ^ min y.toNat kd.bits:=Int.pow_pos (by decide)
    omega
   have a1:=Int.ediv_le_self (a:=x) ((2:Int) ^ min y.toNat kd.bits)
   have a2:0<=x->0<=x / (2:Int) ^ min y.toNat kd.bits:=fun h=>Int.ediv_nonneg h (by omega)
   have a3:x<0->x<=x / (2:Int) ^ min y.toNat kd.bits:=fun h=>by
    refine Int.le_ediv_of_mul_le (by omega) ?_
    have:=Int.mul_le_mul_of_nonpos_left (show x<=0 by omega) hp
    omega
   have a4:x<0->x / (2:Int) ^ min y.toNat kd.bits<0:=fun h=>Int.ediv_lt_of_lt_mul (by omega) (by omega)
   generalize x / (2:Int) ^ min y.toNat kd.bits=q at *
   cases kd<;>simp only[dh,jB,iX,ii,fA]at hx ⊢ <;> simp at hx ⊢ <;> omega
theorem ahk (op:BinOp) (t:TypeId) (x y:ByteArray) {r:AV} (h:(LA op x y).val=some r) :
  ∃u,(binOp op t (.string x) (.string y)).run P w = .ok u w/\RV w S β r u:=by
 cases op<;>simp only[LA,T.bw,T.aO,T.dv,or_false,and_false]at h<;>first
  | (cases h;exact⟨_,by simp[binOp,Op.stringOp],dO trivial⟩)
  | (exact h.elim)
  | skip
 obtain⟨h0,rfl⟩:=h
 have h0:x.size+y.size<=9223372036854775807:=by simpa using h0
 have h1 : ¬((x.size+y.size:Nat):Int) > IntKind.i64.max:=by simp[iX,ii,fA];omega
 refine⟨.string (x++y),?_,dO ?_⟩
 .simp only[binOp,Op.stringOp]
  rw[if_neg h1]
  rfl
 .simp only[dh,gE];exact h0
theorem ahl {a b:IntKind} (h:oA a=oA b):a=b:=by cases a<;>cases b<;>first | rfl | (simp[oA]at h)
theorem ahm (hT:fG P E) (op:BinOp) (t:TypeId) (p q:Operand) {x y:List AV} {u v:Value} (hx:RV w S β (.agg x) u) (hy:RV w S β (.agg y) v) {r:AV} (h:(LB E op t x y).val=some r) :
  ∃z,(do eqGuard op t p q u v;binOp op t u v:Sem Value).run P w = .ok z w/\RV w S β r z:=by
 unfold LB at h
 split at h
 .rename_i ti hti
  split at h
  .rename_i k ks na
   obtain⟨i,d,z,sp⟩:=hT.spec hti
   have hE:=ahf (sp.eqs.symm.trans na)
   split at h
   .rename_i r0 hr0
    split at h
    .rw[T.bw]at h;subst h
     exact⟨_,hE w .eql p q S β x y u v r0 hx hy hr0 (.inl rfl),dO trivial⟩
    .rw[T.bw]at h;subst h
     exact⟨_,hE w .neq p q S β x y u v r0 hx hy hr0 (.inr rfl),dO trivial⟩
    .simp[T.val]at h
   .simp[T.val]at h
  .simp[T.val]at h
 .simp[T.val]at h
theorem run_equal_bool {t:TypeId} (h:P.underlying t=some .bool) (a b:Bool):(Op.equal t (.bool a) (.bool b)).run P w = .ok (a==b) w:=by
 have key : ∀d,(pd (d+1) t (.bool a) (.bool b)).run P w = .ok (a==b) w:=by
  intro d
  simp only[pd,lX,run_underlying h,kZ,oj]
 exact key 9999
theorem ahn (hT:fG P E) (op:BinOp) (t:TypeId) (p q:Operand) {x y:Value} {r:AV} (h:(LC E op t x y).val=some r) :
  ∃z,(do eqGuard op t p q x y;binOp op t x y:Sem Value).run P w = .ok z w/\RV w S β r z:=by
 unfold LC at h
 split at h
 .rename_i a b
  split at h
  .rename_i ti hti
   split at h
   .rename_i hd
    obtain⟨i,d,z,sp⟩:=hT.spec hti
    have hu:=sp.fk
    rw[sp.isBool hd]at hu
    split at h
    .rw[T.bw]at h;subst h
     refine⟨.bool (a==b),?_,dO trivial⟩
     simp[eqGuard,binOp,run_equal_bool hu]
    .rw[T.bw]at h;subst h
     refine⟨.bool (!(a==b)),?_,dO trivial⟩
     simp[eqGuard,binOp,run_equal_bool hu]
    .simp[T.val]at h
   .simp[T.val]at h
  .simp[T.val]at h
 .simp[T.val]at h
theorem aho (hT:fG P E) (op:BinOp) (t:TypeId) (p q:Operand) {x y:AV} {u v:Value} (hx:RV w S β x u) (hy:RV w S β y v) {r:AV} (h:(LD E op t x y).val=some r) :
  ∃z,(do eqGuard op t p q u v;binOp op t u v:Sem Value).run P w = .ok z w/\RV w S β r z:=by
 unfold LD at h
 split at h
 .rename_i x y
  split at h
  .obtain⟨rfl,_⟩:=dD hx
   obtain⟨rfl,_⟩:=dD hy
   exact ahn hT op t p q h
  obtain⟨rfl,okx⟩:=dD hx
  obtain⟨rfl,oky⟩:=dD hy
  unfold Vd at h
  split at h
  .rename_i ka m kb n _
   split at h
   .rename_i hk
    obtain rfl:=ahl (beq_true.1 hk)
    obtain⟨z,h1,h2⟩:=ahj (P:=P) (w:=w) (S:=S) (β:=β) op t ka m n okx h
    refine⟨z,?_,h2⟩
    cases op<;>simpa[eqGuard]using h1
   .simp[T.val]at h
  .rename_i m n _
   obtain⟨z,h1,h2⟩:=ahk (P:=P) (w:=w) (S:=S) (β:=β) op t m n h
   refine⟨z,?_,h2⟩
   cases op<;>simpa[eqGuard]using h1
  .simp[T.val]at h
 .rename_i a b
  exact ahm hT op t p q hx hy h
 .simp[T.val]at h
theorem ahp (hT:fG P E) (op:BinOp) (t:TypeId) (p q:Operand) {x:AV} {u:Value} (hx:RV w S β x u) {r:AV} (h:(LO E op t x).val=some r) :
  ∃z,(do eqGuard op t p q u (.slice none 0 0);binOp op t u (.slice none 0 0):Sem Value).run P w = .ok z w/\RV w S β r z:=by
 have key : ∀(A:Option Addr) (len cap:Nat) (b:Bool),(∃e,P.underlying t=some (.slice e))->A.isNone=b->(FW op b).val=some r -> ∃z,(do eqGuard op t p q (.slice A len cap) (.slice none 0 0);binOp op t (.slice A len cap) (.slice none 0 0):Sem Value).run P w = .ok z w/\RV w S β r z:=by
  rintro A len cap b ⟨e,he⟩ hb hr
  have na:(Op.equal t (.slice A len cap) (.slice none 0 0)).run P w = .ok b w:=by
   have key : ∀d,(pd (d+1) t (.slice A len cap) (.slice none 0 0)).run P w = .ok b w:=by
    intro d
    subst hb
    cases A<;>simp only[pd,lX,run_underlying he,kZ,oj,Option.isNone]
   exact key 9999
  unfold FW at hr
  split at hr
  .rw[T.bw]at hr;subst hr
   exact⟨.bool b,by simp[eqGuard,binOp,na],dO trivial⟩
  .rw[T.bw]at hr;subst hr
   exact⟨.bool (!b),by simp[eqGuard,binOp,na],dO trivial⟩
  .rw[T.aO]at hr;exact hr.elim
 unfold LO at h
 split at h
 .rename_i hd
  have hs : ∃e,P.underlying t=some (.slice e):=by
   unfold Cg at hd
   split at hd
   .rename_i ti hti
    obtain⟨i,d,z,sp⟩:=hT.spec hti
    obtain⟨ei,rfl,_⟩:=sp.isSlice hd
    exact⟨_,sp.fk⟩
   .cases hd
  split at h
  .rename_i b rows
   obtain⟨h1,h2⟩:=(show R0 w S (.sl rows) u/\LX u=b from hx)
   cases h1 with
   | sl hc hm hA hl dJ hr=>
    rename_i A cap size bb off vals
    refine key A _ _ b hs ?_ h
    rw[<-h2]
    cases A<;>rfl
  .rename_i rows
   rw[T.dv]at h
   rcases h with ⟨_,h⟩ | ⟨hb,h⟩
   .rw[T.aO]at h;exact h.elim
   .have hx:=ta hx
    cases hx with
    | sl hc hm hA hl dJ hr=>
     rename_i A cap size bb off vals
     have hne:rows≠[]:=by rintro rfl;simp at hb
     refine key A _ _ false hs ?_ h
     rw[(hA hne).1];rfl
  .rw[T.aO]at h;exact h.elim
 .rw[T.aO]at h;exact h.elim
theorem ahq (op:UnOp) {x:AV} {u:Value} (hx:RV w S β x u) {r:AV} (h:(LF op x).val=some r) : ∃z,(Op.unary op u).run P w = .ok z w/\RV w S β r z:=by
 unfold LF at h
 split at h
 .obtain⟨rfl,_⟩:=dD hx
  split at h
  .rw[T.bw]at h;subst h;exact⟨_,rfl,dO trivial⟩
  .simp[T.val]at h
 .obtain⟨rfl,_⟩:=dD hx
  split at h
  .rw[T.bw]at h;subst h;exact⟨_,rfl,dO (Cp _ _)⟩
  .simp[T.val]at h
 .simp[T.val]at h
theorem Gb {b want:Bool}:asked b want=true↔b=want:=by cases b<;>cases want<;>simp[asked]
theorem Gc {x:AV} {p:Bool} (h:nJ x=some p):x = .v (.bool p):=by
 unfold nJ at h;split at h
 .cases h;rfl
 .cases h
theorem VC {x:AV} {n:Int} (h:wm x=some n) : ∃k,x = .v (.int k n):=by
 unfold wm at h;split at h
 .cases h;exact⟨_,rfl⟩
 .cases h
theorem Gd {x:AV} {n:Int} (h:int64 x=some n):x = .v (.int .i64 n):=by
 unfold int64 at h;split at h
 .cases h;rfl
 .cases h
theorem Cr {n:Int} {j:Nat} (h:idx n=some j):n=(j:Int):=by
 unfold idx at h;split at h
 .cases h;rfl
 .cases h
theorem wR {c:Nat} {side b:Bool} {x:AV} {v:Value} (hx:RV w S β x v) (hg : ∀j f want a,x = .gd j f want a->j=c->(f=true↔b=want)) (hs:b=side):RV w S β (mK c side x) v:=by
 unfold mK
 split
 .rename_i j bb want a
  split
  .rename_i hj
   simp only[aG]at hj
   have e:=hg j bb want a rfl (beq_true.1 hj.1)
   have hw:b=want:=by
    rw[hs]
    cases side<;>cases want<;>simp at hj ⊢
   exact RT.rv (hx.1 (e.2 hw))
  .exact hx
 .exact hx
theorem ahr {c:Nat} {b:Bool} {x y:AV} {u v:Value} (hx:RV w S β x u) (hy:RV w S β y v)
  (hgx : ∀j f want a,x = .gd j f want a->j=c->(f=true↔b=want)) (hgy : ∀j f want a,y = .gd j f want a->j=c->(f=true↔b=want)) {r:AV} (h:(LG c b x y).val=some r):RV w S β r (if b then u else v):=by
 have off : ∀ {side:Bool} {z:AV},(∀j f want a,z = .gd j f want a->j=c->(f=true↔b=want))->FN c side z=true->b≠side:=by
  intro side z hz ho
  unfold FN at ho
  split at ho
  .rename_i j f want a
   split at ho
   .rename_i hj
    simp only[aG]at hj
    have e1:=hz j f want a rfl (beq_true.1 hj.1)
    have e2:=Gb.1 hj.2
    intro hb
    have:=e1.2 (hb.trans e2)
    rw[this]at ho;cases ho
   .cases ho
  .cases ho
 unfold LG at h
 split at h
 .rw[T.dv]at h
  rcases h with ⟨h1,h⟩ | ⟨_,h⟩
  .have hb:=off hgx h1
   have hb:b=false:=by cases b<;>simp_all
   rw[T.bw]at h;subst h
   rw[hb]
   exact wR hy hgy hb
  .rw[T.aO]at h;exact h.elim
 split at h
 .rw[T.dv]at h
  rcases h with ⟨h1,h⟩ | ⟨_,h⟩
  .have hb:=off hgy h1
   have hb:b=true:=by cases b<;>simp_all
   rw[T.bw]at h;subst h
   rw[hb]
   exact wR hx hgx hb
  .rw[T.aO]at h;exact h.elim
 have key:(T.bM b (.ret (mK c true x)) (.ret (mK c false y))).val=some r->RV w S β r (if b then u else v):=by
  intro hh
  rw[T.dv]at hh
  rcases hh with ⟨rfl,hh⟩ | ⟨rfl,hh⟩
  .rw[T.bw]at hh;subst hh;exact wR hx hgx rfl
  .rw[T.bw]at hh;subst hh;exact wR hy hgy rfl
 unfold Vf at h
 split at h
 .rename_i p hp
  split at h
  .rename_i q hq
   rw[T.bw]at h
   subst h
   cases b
   .have:=wR hy hgy rfl
    rw[Gc hq]at this
    exact this
   .have:=wR hx hgx rfl
    rw[Gc hp]at this
    exact this
  .exact key h
 .exact key h
theorem tb {x:AV} {v:Value} (hs:mJ x=true) (h:RV w S β x v):RL (RC w S β) (cellsOf x) v.cells.toList:=by
 cases x
 case agg cs=>obtain⟨vs,rfl,h⟩:=h;simpa[cellsOf,Value.cells]using h
 case bL=>cases hs
 case aF=>cases hs
 case gd=>cases hs
 all_goals
  rw[s7 (by simp) (by simp),wL (by simp) (by simp)]at h
  have h1:=h
  have h2:v.cells = #[v]:=by have:=h1.one;cases v<;>first | rfl | (simp[Value.oneCell']at this)
  rw[h2]
  exact⟨h1,trivial⟩
theorem Cs {x:AV} {v:Value} (h:RC w S β x v):R0 w S (mI x) v:=by
 have h1:=h.one
 cases x
 case e0=>
  obtain⟨A,rfl⟩:=h
  exact R0.sl (rows:=[]) (size:=0) (b:=0) (off:=0) (vals:=fun _ _=> .nilFunc) (by simp) (by simp) (by simp) (by simp) (by simp) (by simp)
 case v y=>exact h
 case sl rows=>exact h
 case nz b rows=>exact h.1
 case fn f cs=>
  obtain⟨vs,rfl,h2⟩:=h
  cases cs
  .cases vs
   .exact .fn f
   .exact h2.elim
  .exact .bL rfl
 all_goals exact .bL h1
theorem RL.one : ∀ {x:List AV} {y:List Value},RL (RC w S β) x y -> ∀v∈y,v.oneCell'=true
 | a::x,v::y,h,u,hu=>by
  rcases cK.1 hu with rfl | hu
  .exact h.1.one
  .exact RL.one h.2 u hu
 | _,[],_,u,hu=>by simp at hu
end
def qT (hg:Nat->Option ah) (d:Nat):Prop:=hg d=none/\d<900
def gc (β:Nat->Option BI) (d:Nat) (x:BI):Nat->Option BI:=fun k=>if k=d then some x else β k
theorem fN (β:Nat->Option BI) (d:Nat) (x:BI):gc β d x d=some x:=by simp[gc]
theorem e9 (β:Nat->Option BI) {d k:Nat} (x:BI) (h:k≠d):gc β d x k=β k:=by simp[gc,h]
section
variable {B : Nat -> Prop} {w w' : World} {S S' : Nat -> Prop} {β β' : Nat -> Option BI} {h : Heap}
theorem fy.go {bl:ah} {x:BI} (hk:fy w S β bl x) (g:Gr B w S β w' S' β') (hb:w'.heap[x.b]? = w.heap[x.b]?):fy w' S' β' bl x:=by
 obtain⟨cs,ty,h1,h2,h3,h4,h5,h6,h7,h8⟩:=hk
 refine⟨cs,ty,by rw[hb];exact h1,h2,h3,h4,h5,h6,h7,fun i row hi=>?_⟩
 obtain⟨h9,h10⟩:=h8 i row hi
 refine⟨h9,fun j a ha=>?_⟩
 obtain⟨v,hv,hr⟩:=h10 j a ha
 refine⟨v,hv,?_⟩
 cases hx:bl.box
 .simp only[hx,ij,if_false]at hr ⊢;exact hr.mono g.keep g.sub
 .simp only[hx,if_true]at hr ⊢;exact g.rc hr
theorem Inv.fresh (inv:Inv E B w S β h) {d:Nat} (hd:an h d=none):β d=none:=by
 cases hb:β d with
 | none=>rfl
 | some x=>obtain⟨bl,h1,_⟩:=inv.di d x hb;rw[hd]at h1;cases h1
theorem Ge (inv:Inv E B w S β h) (o:Obj):Gr B w S β (w.alloc o) S β:=
 ⟨(dW.refl _ _).alloc inv.base _,fun b hb=>heap_alloc_old w o (inv.lt b hb),fun _ h=>h,fun _ h=> .inl h,fun _ _ h=>h,fun _ _ _ h=>h⟩
theorem Ct (inv:Inv E B w S β h) {d:Nat} (hd:qT (an h) d) (g:Gr B w S β w' S' β) (x:BI):Gr B w S β w' S' (gc β d x):=
 ⟨g.below,g.keep,g.sub,g.news,fun k y hk=>by rw[e9 β x (fun e=>by subst e;rw[inv.fresh hd.1]at hk;cases hk)];exact hk,fun k y hi hk=>by
  rw[e9 β x (fun e=>by have:=hd.2;have:=hi.1;omega)]at hk;exact g.dS k y hi hk⟩
theorem VD (inv:Inv E B w S β h) {d:Nat} (hd:qT (an h) d) (cs:Array Value) (ty:TypeId) (bl:ah) (len cap size:Nat)
  (hb:fy (w.alloc (.cells cs ty)) S (gc β d ⟨true,w.heap.size,len,cap,size⟩) bl ⟨true,w.heap.size,len,cap,size⟩) :
  Inv E B (w.alloc (.cells cs ty)) S (gc β d ⟨true,w.heap.size,len,cap,size⟩) (mG h d bl)/\Gr B w S β (w.alloc (.cells cs ty)) S (gc β d ⟨true,w.heap.size,len,cap,size⟩):=by
 have g:=Ct inv hd (Ge inv (.cells cs ty)) ⟨true,w.heap.size,len,cap,size⟩
 have hf:=inv.fresh hd.1
 refine⟨⟨?_,?_,?_,?_,?_,?_,?_⟩,g⟩
 .intro b hb;have:=inv.base b hb;simp;omega
 .intro b hb;have:=inv.lt b hb;simp;omega
 .intro k k' x x' h1 h2 r1 r2 e
  by_cases e1:k=d<;>by_cases e2:k'=d
  .rw[e1,e2]
  .subst e1
   rw[fN]at h1
   rw[e9 β _ e2]at h2
   cases h1
   have:=(inv.new k' x' h2 r2).2.1
   simp at e;omega
  .subst e2
   rw[fN]at h2
   rw[e9 β _ e1]at h1
   cases h2
   have:=(inv.new k x h1 r1).2.1
   simp at e;omega
  .rw[e9 β _ e1]at h1
   rw[e9 β _ e2]at h2
   exact inv.inj k k' x x' h1 h2 r1 r2 e
 .intro k x h1 r1
  by_cases e1:k=d
  .subst e1
   rw[fN]at h1
   cases h1
   exact⟨fun hs=>absurd (inv.base _ hs) (by simp),by simp,fun hs=>absurd (inv.lt _ hs) (by simp)⟩
  .rw[e9 β _ e1]at h1
   obtain⟨a1,a2,a3⟩:=inv.new k x h1 r1
   exact⟨a1,by simp;omega,a3⟩
 .intro k x h1
  by_cases e1:k=d
  .subst e1
   rw[fN]at h1
   cases h1
   exact⟨bl,by rw[gu,if_pos rfl],fun _=>hb,fun hr=>by cases hr⟩
  .rw[e9 β _ e1]at h1
   obtain⟨b1,a1,a2,a3⟩:=inv.di k x h1
   refine⟨b1,by rw[gu,if_neg e1];exact a1,fun hr=>(a2 hr).go g (heap_alloc_old w _ (inv.new k x h1 hr).2.1),a3⟩
 .intro k b1 h1
  rw[gu]at h1
  by_cases e1:k=d
  .subst e1;exact⟨_,fN _ _ _⟩
  .rw[if_neg e1]at h1
   obtain⟨x,hx⟩:=inv.il k b1 h1
   exact⟨x,by rw[e9 β _ e1];exact hx⟩
 .intro gl row hg
  exact(inv.dH gl row hg).mono g.keep g.sub
theorem Cu (inv:Inv E B w S β h) {o:Oper} {a:Act} {d:Nat} (hd:qT (an h) d) (cs:Array Value) (ty:TypeId) (bl:ah) (len cap size:Nat) {v:Value} {av:AV}
  (hr:(execOp a.eval o).run P w = .ok (.value v) (w.alloc (.cells cs ty)))
  (hb:fy (w.alloc (.cells cs ty)) S (gc β d ⟨true,w.heap.size,len,cap,size⟩) bl ⟨true,w.heap.size,len,cap,size⟩)
  (hv:RV (w.alloc (.cells cs ty)) S (gc β d ⟨true,w.heap.size,len,cap,size⟩) av v):kD P E B o a w S β h av [(d,bl)]:=by
 intro K Q hK
 unfold ol
 rw[hr,sG]
 obtain⟨i1,i2⟩:=VD inv hd cs ty bl len cap size hb
 exact hK v _ _ _ i1 i2 hv
theorem VE {hg:Nat->Option ah} {dst:Option Tmp} {d:Nat} (hf:M.fresh hg dst=some d):dst=some d/\qT hg d:=by
 unfold M.fresh at hf
 split at hf
 .split at hf
  .rename_i hb
   split at hf
   .cases hf;exact⟨rfl, ‹_›,by simpa using hb⟩
   .cases hf
  .cases hf
 .cases hf
theorem tc {hg:Nat->Option ah} {dst:Option Tmp} {f:Nat->AV} {b:ah} {p:AV×Heap} (h:(made hg dst f b).val=some p) : ∃d,dst=some d/\qT hg d/\p=(f d,[(d,b)]):=by
 unfold made at h
 split at h
 .rename_i d hd
  rw[T.bw]at h
  exact⟨d,(VE hd).1,(VE hd).2,h.symm⟩
 .rw[T.aO]at h;exact h.elim
theorem VF (inv:Inv E B w S β h) {d:Nat} (hd:qT (an h) d) (cs:Array Value) (ty:TypeId) (row:Row) (hr:RL (RC w S β) row cs.toList) (bt:Nat) (hbt:bt=0\/ty=bt) :
  fy (w.alloc (.cells cs ty)) S (gc β d ⟨true,w.heap.size,1,1,row.length⟩) ⟨true,bt,0,[row]⟩ ⟨true,w.heap.size,1,1,row.length⟩:=by
 have g:=Ct inv hd (Ge inv (.cells cs ty)) ⟨true,w.heap.size,1,1,row.length⟩
 refine⟨cs,ty,heap_alloc_new w _,by have:=hr.length;simp at this ⊢;omega,rfl,by simp,by simp,by simp,fun _=>⟨fun _=>rfl,fun h=>absurd rfl h,hbt⟩,fun i r hi=>?_⟩
 cases i with
 | succ i=>simp at hi
 | zero=>
  simp at hi
  subst hi
  refine⟨rfl,fun j x hx=>?_⟩
  obtain⟨v,hv,hr⟩:=hr.get hx
  exact⟨v,by simpa using hv,by simpa using g.rc hr⟩
theorem ahs (hT:fG P E) (inv:Inv E B w S β h) {o:Oper} {a:Act} {t:TypeId} {ti:TI} (ho:o.op = .alloc t) (ht:E.ty t=some ti) {p:AV×Heap}
  (hp:(made (an h) o.dst (.ptr · 0 0) ⟨true,FQ ti.zero t,0,[qF ti.zero]⟩).val=some p):kD P E B o a w S β h p.1 p.2:=by
 obtain⟨d,hd,hf,rfl⟩:=tc hp
 obtain⟨i,dd,z,sp⟩:=hT.spec ht
 have hz:RL (RC w S β) (qF ti.zero) z.cells.toList:=by rw[sp.zs];exact ag8 w S β sp.Wq
 refine Cu inv hf z.cells t ⟨true,FQ ti.zero t,0,[qF ti.zero]⟩ 1 1 (qF ti.zero).length (v:= .pointer (some ⟨w.heap.size,0,none⟩)) ?_ (VF inv hf z.cells t (qF ti.zero) hz _ (by unfold FQ;split<;>simp)) ?_
 .simp[execOp,ho,Instr.alloc,ag9 w sp.Gs sp.zero,newVar,newRow,newObj];rfl
 .exact⟨_,fN _ _ _,rfl,by simp⟩
theorem aht (hT:fG P E) (inv:Inv E B w S β h) {o:Oper} {a:Act} {t:TypeId} {x:Operand} {u:AV} (ho:o.op = .box t x) (hu:RV w S β u (a.eval x)) (hs:mJ u=true) {p:AV×Heap}
  (hp:(made (an h) o.dst (.ptr · 0 0) ⟨true,0,0,[cellsOf u]⟩).val=some p):kD P E B o a w S β h p.1 p.2:=by
 obtain⟨d,hd,hf,rfl⟩:=tc hp
 have hz:=tb hs hu
 refine Cu inv hf (a.eval x).cells t ⟨true,0,0,[cellsOf u]⟩ 1 1 (cellsOf u).length (v:= .pointer (some ⟨w.heap.size,0,none⟩)) ?_ (VF inv hf _ t _ hz 0 (.inl rfl)) ?_
 .simp[execOp,ho,Instr.box,newVar,newRow,newObj];rfl
 .exact⟨_,fN _ _ _,rfl,by simp⟩
theorem add_lit (b o j:Nat):(⟨b,o,none⟩:Addr).add j=⟨b,o+j,none⟩:=by unfold Addr.add;split<;>simp_all
theorem VG (hT:fG P E) {t:TypeId} {ti:TI} (ht:E.ty t=some ti) {b A:Nat} {row:Row} {off:Nat}
  (hc : ∀(j:Nat) (x:AV),(row.drop off)[j]? = some x -> ∃v,w.cell? ⟨b,A+j,none⟩=some v/\RC w S β x v) {r:AV} (h:(FO ti row off).val=some r) :
  ∃u,(FA t (.pointer (some ⟨b,A,none⟩))).run P w = .ok u w/\RV w S β r u:=by
 obtain⟨i,d,z,sp⟩:=hT.spec ht
 unfold FO at h
 split at h
 .rename_i hag
  rw[T.dv]at h
  rcases h with ⟨hle,h⟩ | ⟨_,h⟩
  .have hle:off+ti.size<=row.length:=by simpa using hle
   rw[T.bw]at h
   subst h
   have hl:((row.drop off).take ti.size).length=ti.size:=by simp;omega
   have hex : ∃vs:List Value,vs.length=ti.size /\ ∀j v,vs[j]? = some v->w.cell? ⟨b,A+j,none⟩=some v /\ ∃x,((row.drop off).take ti.size)[j]? = some x/\RC w S β x v:=by
    have key : ∀n,n<=ti.size -> ∃vs:List Value,vs.length=n /\ ∀j v,vs[j]? = some v->w.cell? ⟨b,A+j,none⟩=some v /\ ∃x,((row.drop off).take ti.size)[j]? = some x/\RC w S β x v:=by
     intro n
     induction n with
     | zero=>exact fun _=>⟨[],rfl,fun j v hj=>by simp at hj⟩
     | succ n ih=>
      intro hn
      obtain⟨vs,h1,h2⟩:=ih (by omega)
      have hlt:n<(row.drop off).length:=by simp;omega
      have hx:(row.drop off)[n]? = some ((row.drop off)[n]'hlt):=bC hlt
      obtain⟨v,hv,hr⟩:=hc n _ hx
      refine⟨vs++[v],by simp[h1],fun j u hj=>?_⟩
      rw[KY]at hj
      split at hj
      .exact h2 j u hj
      .have hjn:j=n:=by have:=(cO.1 hj).1;simp at this;omega
       subst hjn
       simp[h1]at hj
       subst hj
       exact⟨hv,_,by rw[mB,if_pos (by omega)];exact hx,hr⟩
    exact key ti.size (bR _)
   obtain⟨vs,h1,h2⟩:=hex
   refine⟨.agg vs.toArray,?_,vs,rfl,RL.of (by rw[hl,h1]) fun j x v hx hv=>?_⟩
   .have hrun:=run_loadCells_list (P:=P) w ⟨b,A,none⟩ vs (fun j v hj=>by rw[add_lit];exact(h2 j v hj).1)
    simp only[FA,KZ,loadVar,lX,oj,kZ,F8 w sp.fk,<-sp.agg,hag,if_true,nP w sp.Gs,<-sp.size,<-h1,hrun]
   .obtain⟨_,x',hx',hr⟩:=h2 j v hv
    rw[hx]at hx'
    cases hx'
    exact hr
  .rw[T.aO]at h;exact h.elim
 .rename_i hag
  rw[T.lv]at h
  obtain⟨x,hx,h⟩:=h
  rw[T.bw]at h
  subst h
  obtain⟨v,hv,hr⟩:=hc 0 x (by simpa using hx)
  refine⟨v,?_,RT.rv hr.rt⟩
  have hag':s9 d=false:=by rw[<-sp.agg];exact hag
  simp only[jP]at hv
  simp[FA,KZ,loadVar,F8 w sp.fk,hag',run_load,hv]
theorem VH (hT:fG P E) {bl:ah} {i:Nat} {row:Row} (h:(rowAt E bl i).val=some row):bl.rows[i]? = some row:=by
 unfold rowAt at h
 split at h
 .rw[T.lv]at h
  obtain⟨r,h1,h2⟩:=h
  rw[T.bw]at h2
  rw[h1,h2]
 .exact hT.look _ _ _ _ h
theorem VI (hT:fG P E) (inv:Inv E B w S β h) {t:TypeId} {ti:TI} (ht:E.ty t=some ti) {x:AV} {u:Value} (hx:RV w S β x u) {r:AV} (hl:(qJ E (an h) ti x).val=some r) :
  ∃v,(FA t u).run P w = .ok v w/\RV w S β r v:=by
 unfold qJ at hl
 split at hl
 .rename_i row off
  obtain⟨b,o,rfl,hb,hrow⟩:=F9 hx
  refine VG hT ht (row:=row) (off:=off) (fun j y hy=>?_) hl
  obtain⟨v,hv,hr⟩:=hrow (off+j) y (by rw[sH]at hy;exact hy)
  exact⟨v,by rw[<-hv];congr 2;omega,hr.rc⟩
 .rename_i k i off
  obtain⟨X,hX,hreal,rfl⟩:=Cq hx
  obtain⟨bl,h1,h2,_⟩:=inv.di k X hX
  rw[h1]at hl
  simp only[T.bind_some]at hl
  obtain⟨row,hrow,hl⟩:=hl
  have hrow:=VH hT hrow
  obtain⟨cs,ty,c1,c2,c3,c4,c5,c6,c7,c8⟩:=h2 hreal
  obtain⟨c9,c10⟩:=c8 i row hrow
  refine VG hT ht (row:=row) (off:=off) (fun j y hy=>?_) hl
  obtain⟨v,hv,hr⟩:=c10 (off+j) y (by rw[sH]at hy;exact hy)
  refine⟨v,?_,?_⟩
  .simp only[lW,c1]
   rw[<-hv]
   simp
   congr 1
   omega
  .cases hb:bl.box
   .rw[hb]at hr;exact R0.rc (by simpa using hr)
   .rw[hb]at hr;simpa using hr
 .rw[T.aO]at hl;exact hl.elim
theorem Gf (inv:Inv E B w S β h) {k:Nat} {x:BI} (hk:β k=some x) (hr:x.real=true) (cs:Array Value):Gr B w S β (w.setRow x.b cs) S β:=by
 obtain⟨n1,n2,n3⟩:=inv.new k x hk hr
 refine⟨⟨rfl,rfl,rfl,by simp,fun j hj=>setRow_other w x.b j cs (fun e=>n1 (e▸hj))⟩,fun b hb=>setRow_other w x.b b cs (fun e=>n3 (e▸hb)),fun _ h=>h,fun _ h=> .inl h,fun _ _ h=>h,fun _ _ _ h=>h⟩
theorem VJ (inv:Inv E B w S β h) {k:Nat} {x:BI} (hk:β k=some x) (hr:x.real=true) (cs:Array Value) (bl:ah) (hb:fy (w.setRow x.b cs) S β bl x) :
  Inv E B (w.setRow x.b cs) S β (mG h k bl):=by
 have g:=Gf inv hk hr cs
 refine⟨fun b hb=>by simpa using inv.base b hb,fun b hb=>by simpa using inv.lt b hb,inv.inj,fun k' x' h1 r1=>by simpa using inv.new k' x' h1 r1,?_,?_,fun gl row hg=>(inv.dH gl row hg).mono g.keep g.sub⟩
 .intro k' x' h1
  by_cases e:k'=k
  .subst e
   rw[hk]at h1
   cases h1
   exact⟨bl,by rw[gu,if_pos rfl],fun _=>hb,fun hf=>by rw[hr]at hf;cases hf⟩
  .obtain⟨b1,a1,a2,a3⟩:=inv.di k' x' h1
   refine⟨b1,by rw[gu,if_neg e];exact a1,fun hr'=>(a2 hr').go g (setRow_other w x.b x'.b cs (fun eb=>e (inv.inj k' k x' x h1 hk hr' hr eb))),a3⟩
 .intro k' b1 h1
  rw[gu]at h1
  by_cases e:k'=k
  .subst e;exact⟨x,hk⟩
  .rw[if_neg e]at h1;exact inv.il k' b1 h1
theorem VK {cs xs:List AV} {o j:Nat} (hle:o+xs.length<=cs.length):(putAt cs o xs)[j]? = if j<o then cs[j]? else if j<o+xs.length then xs[j - o]? else cs[j]?:=by
 unfold putAt
 by_cases h1:j<o
 .rw[if_pos h1,cq,mC (by simp;omega),mB,if_pos h1]
 .rw[if_neg h1]
  by_cases h2:j<o+xs.length
  .rw[if_pos h2,mC (by simp;omega),kw (by simp;omega)]
   congr 1;simp;omega
  .rw[if_neg h2,kw (by simp;omega),sH]
   congr 1;simp;omega
theorem L4 {α:Type} {cs xs:List α} {o j:Nat} (hle:o+xs.length<=cs.length):(cs.take o++xs++cs.drop (o+xs.length))[j]? = if j<o then cs[j]? else if j<o+xs.length then xs[j - o]? else cs[j]?:=by
 by_cases h1:j<o
 .rw[if_pos h1,cq,mC (by simp;omega),mB,if_pos h1]
 .rw[if_neg h1]
  by_cases h2:j<o+xs.length
  .rw[if_pos h2,mC (by simp;omega),kw (by simp;omega)]
   congr 1;simp;omega
  .rw[if_neg h2,kw (by simp;omega),sH]
   congr 1;simp;omega
theorem ahu (hT:fG P E) (inv:Inv E B w S β h) {o:Oper} {a:Act} {t:TypeId} {ti:TI} {x y:Operand} {ux uy:AV} (ho:o.op = .store t x y) (ht:E.ty t=some ti)
  (hx:RV w S β ux (a.eval x)) (hy:RV w S β uy (a.eval y)) {p:AV×Heap} (hp:(sW E (an h) ti uy ux).val=some p):kD P E B o a w S β h p.1 p.2:=by
 obtain⟨i,d,z,sp⟩:=hT.spec ht
 unfold sW at hp
 split at hp
 .rename_i k i0 off
  obtain⟨X,hX,hreal,hev⟩:=Cq hx
  obtain⟨bl,h1,h2,_⟩:=inv.di k X hX
  rw[h1]at hp
  simp only[T.bind_some,T.dv,T.bw,T.aO,and_false,or_false]at hp
  obtain⟨row,hrow,hc,rfl⟩:=hp
  have hrow:=VH hT hrow
  simp only[aG]at hc
  obtain⟨⟨hs,hlen⟩,hle⟩:=hc
  have hlen:(cellsOf uy).length=ti.size:=beq_true.1 hlen
  have hle:off+ti.size<=row.length:=by simpa using hle
  have hcells:=tb hs hy
  obtain⟨cs,ty,c1,c2,c3,c4,c5,c6,c7,c8⟩:=h2 hreal
  obtain⟨c9,c10⟩:=c8 i0 row hrow
  have hlt:i0<bl.rows.length:=(cO.1 hrow).1
  have hvl:(a.eval y).cells.toList.length=ti.size:=by rw[<-hcells.length,hlen]
  have hfit:i0*X.size+off+(a.eval y).cells.toList.length<=cs.size:=by
   rw[c2,hvl]
   have h3:(i0+1)*X.size<=X.cap*X.size:=iY _ (by omega)
   rw[fB]at h3
   omega
  have hst:=run_storeCells_at P X.b (i0*X.size+off) ty (a.eval y).cells.toList 0 cs w c1 (by simpa using hfit) (RL.one hcells)
  simp only[jP]at hst
  have dJ : ∀j,(cs.toList.take (i0*X.size+off)++(a.eval y).cells.toList++cs.toList.drop (i0*X.size+off+(a.eval y).cells.toList.length))[j]? = if j<i0*X.size+off then cs[j]? else if j<i0*X.size+off+ti.size then (a.eval y).cells.toList[j - (i0*X.size+off)]? else cs[j]?:=by
   intro j
   rw[L4 (by simpa using hfit),hvl]
   simp
  have hNl:(cs.toList.take (i0*X.size+off)++(a.eval y).cells.toList++cs.toList.drop (i0*X.size+off+(a.eval y).cells.toList.length)).length=cs.size:=by
   simp only[ck,eY,fe,nB]at hfit ⊢;omega
  generalize (cs.toList.take (i0*X.size+off)++(a.eval y).cells.toList++cs.toList.drop (i0*X.size+off+(a.eval y).cells.toList.length))=N at hst dJ hNl
  intro K Q hK
  unfold ol
  have hrun:(execOp a.eval o).run P w = .ok .skip (w.setRow X.b N.toArray):=by
   have hsz:(a.eval y).cells.size=i.size:=by rw[<-sp.size];simpa using hvl
   simp[execOp,ho,Instr.storeAt,KZ,hev,storeVar,nP w sp.Gs,hsz,hst]
  rw[hrun,Oper.upon_skip]
  have g:=Gf inv hX hreal N.toArray
  refine hK undef _ S β (VJ inv hX hreal _ _ ?_) g trivial
  refine⟨_,ty,setRow_heap w X.b cs _ ty _ c1,by simp[hNl,c2],by simpa using c3,c4,c5,c6,c7,fun i1 row1 hrow1=>?_⟩
  .simp only[FB]
   rw[List.getElem?_set]at hrow1
   by_cases e:i0=i1
   .subst e
    rw[if_pos rfl,if_pos hlt]at hrow1
    cases hrow1
    have hpl2:(wy bl.box (cellsOf uy)).length=ti.size:=by cases bl.box<;>simp[wy,hlen]
    have hpl:off+(wy bl.box (cellsOf uy)).length<=row.length:=by rw[hpl2];exact hle
    refine⟨by unfold putAt;simp only[ck,eY,fe];omega,fun j a1 ha1=>?_⟩
    rw[VK hpl,hpl2]at ha1
    rw[dJ]
    by_cases j1:j<off
    .rw[if_pos j1]at ha1
     obtain⟨v,hv,hr⟩:=c10 j a1 ha1
     refine⟨v,by rw[if_pos (by omega)];exact hv,?_⟩
     cases hb:bl.box
     .rw[hb]at hr;simp only[ij,if_false]at hr ⊢;exact hr.mono g.keep g.sub
     .rw[hb]at hr;simp only[if_true]at hr ⊢;exact g.rc hr
    .rw[if_neg j1]at ha1
     by_cases j2:j<off+ti.size
     .rw[if_pos j2]at ha1
      rw[if_neg (by omega),if_pos (by omega)]
      cases hb:bl.box
      .rw[hb]at ha1
       simp only[wy,dM,eZ]at ha1
       obtain⟨a2,ha2,rfl⟩:=ha1
       obtain⟨v,hv,hr⟩:=hcells.get ha2
       exact⟨v,by rw[<-hv];congr 1;omega,by simp only[ij,if_false];exact(Cs hr).mono g.keep g.sub⟩
      .rw[hb]at ha1
       obtain⟨v,hv,hr⟩:=hcells.get ha1
       exact⟨v,by rw[<-hv];congr 1;omega,by simp only[if_true];exact g.rc hr⟩
     .rw[if_neg j2]at ha1
      obtain⟨v,hv,hr⟩:=c10 j a1 ha1
      refine⟨v,by rw[if_neg (by omega),if_neg (by omega)];exact hv,?_⟩
      cases hb:bl.box
      .rw[hb]at hr;simp only[ij,if_false]at hr ⊢;exact hr.mono g.keep g.sub
      .rw[hb]at hr;simp only[if_true]at hr ⊢;exact g.rc hr
   .rw[if_neg e]at hrow1
    obtain⟨c11,c12⟩:=c8 i1 row1 hrow1
    refine⟨c11,fun j a1 ha1=>?_⟩
    obtain⟨v,hv,hr⟩:=c12 j a1 ha1
    have hj:j<X.size:=by rw[<-c11];exact(cO.1 ha1).1
    refine⟨v,?_,?_⟩
    .rw[dJ]
     rcases Nat.lt_or_gt_of_ne e with hl | hl
     .have h3:(i0+1)*X.size<=i1*X.size:=iY _ (by omega)
      rw[fB]at h3
      rw[if_neg (by omega),if_neg (by omega)];exact hv
     .have h3:(i1+1)*X.size<=i0*X.size:=iY _ (by omega)
      rw[fB]at h3
      rw[if_pos (by omega)];exact hv
    .cases hb:bl.box
     .rw[hb]at hr;simp only[ij,if_false]at hr ⊢;exact hr.mono g.keep g.sub
     .rw[hb]at hr;simp only[if_true]at hr ⊢;exact g.rc hr
 .rw[T.aO]at hp;exact hp.elim
end
end
section
variable {P : Program} {E : Env}
section
variable {B : Nat -> Prop} {o : Oper} {a : Act} {w : World} {S : Nat -> Prop} {β : Nat -> Option BI} {h : Heap} {av : AV} {v : Value}
theorem VL (hT:fG P E) {s:TypeId} {f off n:Nat} {ag:Bool} (hf:wx E s f=some (off,ag,n)) :
  ∃fs fd fi fu,P.underlying s=some (.struct fs)/\fs[f]? = some fd/\fd.offset=off/\P.info? fd.type=some fi/\P.underlying fd.type=some fu/\fi.size=n/\n≠0/\ag=s9 fu:=by
 unfold wx at hf
 split at hf
 .rename_i ti hti
  obtain⟨i,d,z,sp⟩:=hT.spec hti
  obtain⟨fs,fd,fi,fu,rfl,h1,h2,h3,h4,h5,h6,h7⟩:=sp.fld hf
  exact⟨fs,fd,fi,fu,sp.fk,h1,h2,h3,h4,h5,h6,h7⟩
 .cases hf
theorem ahv (hT:fG P E) {s:TypeId} {f off n:Nat} {ag:Bool} (hf:wx E s f=some (off,ag,n)) {x:AV} {u:Value} (hx:RV w S β x u) {r:AV} (hr:(addrAt off x).val=some r) :
  ∃v,(UN s u f).run P w = .ok v w/\RV w S β r v:=by
 obtain⟨fs,fd,fi,fu,h1,h2,rfl,h4,h5,h6,h7,h8⟩:=VL hT hf
 have key : ∀b A:Nat,(UN s (.pointer (some ⟨b,A,none⟩)) f).run P w = .ok (.pointer (some ⟨b,A+fd.offset,none⟩)) w:=by
  intro b A
  have h7' : ¬fi.size=0:=by rw[h6];exact h7
  simp[UN,run_underlying h1,h2,KZ,fieldPlace,nP w h4,h7',add_lit]
 unfold addrAt at hr
 split at hr
 .rename_i k i off0
  obtain⟨X,hX,hreal,rfl⟩:=Cq hx
  rw[T.bw]at hr
  subst hr
  exact⟨_,key _ _,X,hX,hreal,by rw[K0]⟩
 .rename_i row off0
  obtain⟨b,o,rfl,hrow⟩:=F9 hx
  rw[T.bw]at hr
  subst hr
  exact⟨_,key _ _,b,o,by rw[K0],hrow⟩
 .rw[T.aO]at hr;exact hr.elim
theorem ahw {o:Oper} {a:Act} {y:Operand} (ho:o.op = .nilCheck y) {x:AV} (hx:RV w S β x (a.eval y)) {r:AV} (hr:(addrAt 0 x).val=some r) :
  ∃v,execOp a.eval o=pure (.value v)/\RV w S β r v:=by
 unfold addrAt at hr
 split at hr
 .rename_i k i off0
  obtain⟨X,hX,hreal,hv⟩:=Cq hx
  rw[T.bw]at hr
  subst hr
  refine⟨a.eval y,?_,X,hX,hreal,by rw[hv];rfl⟩
  simp only[execOp,ho,hv]
 .rename_i row off0
  obtain⟨b,q,hv,hrow⟩:=F9 hx
  rw[T.bw]at hr
  subst hr
  refine⟨a.eval y,?_,b,q,by rw[hv];rfl,hrow⟩
  simp only[execOp,ho,hv]
 .rw[T.aO]at hr;exact hr.elim
theorem ahx (hT:fG P E) {s:TypeId} {f off n:Nat} {ag:Bool} (hf:wx E s f=some (off,ag,n)) {x:AV} {u:Value} (hx:RV w S β x u) {r:AV} (hr:(LM off n ag x).val=some r) :
  ∃v,(UO s u f).run P w = .ok v w/\RV w S β r v:=by
 obtain⟨fs,fd,fi,fu,h1,h2,rfl,h4,h5,h6,h7,h8⟩:=VL hT hf
 unfold LM at hr
 split at hr
 .rename_i cs
  obtain⟨vs,rfl,hvs⟩:=ahh hx
  split at hr
  .rename_i hag
   simp only[T.dv,T.bw,T.aO,and_false,or_false]at hr
   obtain⟨hle,rfl⟩:=hr
   refine⟨.agg ((vs.drop fd.offset).take n).toArray,?_,_,rfl,(hvs.drop fd.offset).take n⟩
   simp only[UO,lX,run_underlying h1,kZ,h2,asAgg,oj,part,F8 w h5,<-h8,if_true,nP w h4,h6]
   congr 2
   apply vE
   simp[List.extract_eq_take_drop]
  .rename_i hag
   simp only[T.lv,T.bw]at hr
   obtain⟨y,hy,rfl⟩:=hr
   obtain⟨v,hv,hr⟩:=hvs.get hy
   refine⟨v,?_,RT.rv hr.rt⟩
   simp[UO,run_underlying h1,h2,asAgg,part,F8 w h5,<-h8,hv]
 .rw[T.aO]at hr;exact hr.elim
theorem Cv {n:Nat} (hn:n<=9223372036854775807):dh (.int .i64 n):=by
 simp[dh,jB,iX,ii,fA];omega
theorem R0.len {rows:List Row} (hx:R0 w S (.sl rows) v) : ∃A cap,v = .slice A rows.length cap/\rows.length<=cap/\cap<=9223372036854775807:=by
 cases hx with | sl hc hm=>exact⟨_,_,rfl,hc,hm⟩
theorem ahy (inv:Inv E B w S β h) {k:Nat} {bl:ah} (hk:an h k=some bl) (hv:RV w S β (.own k) v) : ∃A cap,v = .slice A bl.rows.length cap/\bl.rows.length<=cap/\cap<=9223372036854775807:=by
 obtain⟨X,hX,h1,h2⟩:=wP hv
 obtain⟨bl',hb,h3,h4⟩:=inv.di k X hX
 rw[hk]at hb
 cases hb
 cases hr:X.real
 .obtain⟨A,rfl⟩:=h2 hr
  rw[(h4 hr).1]
  exact⟨A,0,rfl,by simp,by simp⟩
 .obtain⟨cs,ty,c1,c2,c3,c4,c5,_⟩:=h3 hr
  exact⟨_,_,by rw[h1 hr,c3],by omega,c5⟩
theorem ahz (hT:fG P E) (inv:Inv E B w S β h) {t:TypeId} {ti:TI} (ht:E.ty t=some ti) {x:AV} {u:Value} (ty:TypeId) (hx:RV w S β x u) {r:AV} (hr:(wl (an h) ti x).val=some r) :
  ∃v,(BS #[t] ty #[u]).run P w = .ok v w/\RV w S β r v:=by
 obtain⟨i,d,z,sp⟩:=hT.spec ht
 unfold wl at hr
 split at hr
 .rename_i s
  obtain⟨rfl,ok⟩:=dD hx
  split at hr
  .rename_i hd
   rw[T.bw]at hr;subst hr
   have:=sp.LY hd;subst this
   exact⟨_,by simp[BS,run_underlying sp.fk,goInt],dO (Cv ok)⟩
  .rw[T.aO]at hr;exact hr.elim
 .rename_i rows
  obtain⟨A,cap,rfl,h1,h2⟩:=R0.len (ta hx)
  split at hr
  .rename_i hd
   rw[T.bw]at hr;subst hr
   obtain⟨ei,rfl,_⟩:=sp.isSlice hd
   exact⟨_,by simp[BS,run_underlying sp.fk,goInt],dO (Cv (by omega))⟩
  .rw[T.aO]at hr;exact hr.elim
 .rename_i j
  split at hr
  .rename_i bl hbl
   split at hr
   .rename_i hd
    rw[T.bw]at hr;subst hr
    obtain⟨ei,rfl,_⟩:=sp.isSlice hd
    obtain⟨A,cap,rfl,h1,h2⟩:=ahy inv hbl hx
    exact⟨_,by simp[BS,run_underlying sp.fk,goInt],dO (Cv (by omega))⟩
   .rw[T.aO]at hr;exact hr.elim
  .rw[T.aO]at hr;exact hr.elim
 .obtain⟨A,rfl⟩:=wQ hx
  split at hr
  .rename_i hd
   rw[T.bw]at hr;subst hr
   obtain⟨ei,rfl,_⟩:=sp.isSlice hd
   exact⟨_,by simp[BS,run_underlying sp.fk,goInt],dO (Cv (n:=0) (by omega))⟩
  .rw[T.aO]at hr;exact hr.elim
 .obtain⟨X,hX,A,c,rfl,hc,hm,_⟩:=Ga hx
  split at hr
  .rename_i hd
   rw[T.bw]at hr;subst hr
   obtain⟨ei,rfl,_⟩:=sp.isSlice hd
   exact⟨_,by simp[BS,run_underlying sp.fk,goInt],dO (Cv (by omega))⟩
  .rw[T.aO]at hr;exact hr.elim
 .rw[T.aO]at hr;exact hr.elim
theorem Gg (inv:Inv E B w S β h) {k:Nat} {bl:ah} {n:Nat} (hbl:an h k=some bl) (hbox:bl.box=false) (hsz:bl.sz=n) {X:BI} (hX:β k=some X) (hre:X.real=true):X.size=n:=by
 obtain⟨bl',hb,h3,_⟩:=inv.di k X hX
 rw[hbl]at hb
 cases hb
 obtain⟨cs,ty,c1,c2,c3,c4,c5,c6,c7,c8⟩:=h3 hre
 rw[(c6 hbox).2,hsz]
theorem ahA (inv:Inv E B w S β h) {k:Nat} {bl:ah} (hbl:an h k=some bl) (hv:RP w S β (.own k) v):RP w S β (.win k 0 bl.rows.length) v:=by
 obtain⟨X,hX,h1,h2⟩:=hv
 obtain⟨bl',hb,h3,h4⟩:=inv.di k X hX
 rw[hbl]at hb
 cases hb
 cases hr:X.real
 .obtain⟨A,rfl⟩:=h2 hr
  rw[(h4 hr).1]
  exact⟨X,hX,A,0,rfl,by simp,by simp,fun h=>absurd rfl h⟩
 .obtain⟨cs,ty,c1,c2,c3,c4,c5,c6,c7,c8⟩:=h3 hr
  exact⟨X,hX,_,X.cap,by rw[h1 hr,c3],by omega,c5,fun _=>⟨hr,by simp,by omega⟩⟩
theorem ahB (hT:fG P E) (inv:Inv E B w S β h) {t:TypeId} {ti:TI} (ht:E.ty t=some ti) (hd:bk ti.desc 4=true) {x y:AV} {u v:Value} (hx:RV w S β x u) (hy:RV w S β y v) {r:AV} (hr:(wo E (an h) ti x y).val=some r) :
  ∃z,(UP t u v).run P w = .ok z w/\RV w S β r z:=by
 obtain⟨i,d,z,sp⟩:=hT.spec ht
 obtain⟨ei,rfl,he,hes,_⟩:=sp.isSlice hd
 unfold wo at hr
 split at hr
 .rename_i n hn
  obtain⟨k,rfl⟩:=VC hn
  obtain⟨rfl,_⟩:=dD hy
  rw[T.lv]at hr
  obtain⟨j,hj,hr⟩:=hr
  have:=Cr hj
  subst this
  have key : ∀(a:Addr) (len cap:Nat),j<len->(UP t (.slice (some a) len cap) (.int k (j:Int))).run P w = .ok (.pointer (some (a.add (j*ti.bv)))) w:=by
   intro a len cap hlt
   have h1:(0:Int)<=(j:Int)/\(j:Int)<(len:Int):=by omega
   simp[UP,asIntOf,run_underlying sp.fk,nP w he,hes,hlt]
  split at hr
  .rename_i rows
   simp only[T.bind_some,T.dv,T.bw,T.aO,and_false,or_false]at hr
   obtain⟨row,hrow,hlen,rfl⟩:=hr
   have hrow:=hT.look _ _ _ _ hrow
   have hlt:j<rows.length:=(cO.1 hrow).1
   have hx:=ta hx
   cases hx with
   | sl hc hm hA hl dJ hr0=>
    rename_i A cap size b off vals
    have hne:rows≠[]:=by rintro rfl;simp at hlt
    obtain⟨rfl,hS⟩:=hA hne
    refine⟨_,key _ _ _ hlt,b,off+j*ti.bv,by rw[add_lit];rfl,hS,fun jj aa haa=>?_⟩
    have hsz:size=ti.bv:=by rw[<-hl j row hrow];exact beq_true.1 hlen
    refine⟨vals j jj,?_,hr0 j jj row aa hrow haa⟩
    rw[<-dJ j jj row aa hrow haa,hsz]
  .rename_i b
   split at hr
   .rename_i bl hbl
    split at hr
    .rename_i hbs
     simp only[T.dv,T.bw,T.aO,and_false,or_false,aM]at hr
     obtain⟨hlt,rfl⟩:=hr
     simp only[aG,mD]at hbs
     obtain⟨X,hX,h1,h2⟩:=wP hx
     obtain⟨bl',hb,h3,h4⟩:=inv.di b X hX
     rw[hbl]at hb
     cases hb
     cases hre:X.real
     .rw[(h4 hre).1]at hlt;simp at hlt
     .obtain⟨cs,ty,c1,c2,c3,c4,c5,c6,c7,c8⟩:=h3 hre
      have hsz:X.size=ti.bv:=by rw[(c6 hbs.1).2];exact beq_true.1 hbs.2
      rw[h1 hre]
      exact⟨_,key _ _ _ (by omega),X,hX,hre,by rw[add_lit,hsz];simp⟩
    .rw[T.aO]at hr;exact hr.elim
   .rw[T.aO]at hr;exact hr.elim
  .rename_i b lo n
   split at hr
   .rename_i bl hbl
    split at hr
    .rename_i hbs
     simp only[T.dv,T.bw,T.aO,and_false,or_false,aM]at hr
     obtain⟨hlt,rfl⟩:=hr
     unfold LL at hbs
     simp only[aG,Bool.or_eq_true,mD]at hbs
     obtain⟨X,hX,A,c,rfl,hc,hm,hn⟩:=Ga hx
     obtain⟨hre,rfl,hle⟩:=hn (by omega)
     have hsz:X.size=ti.bv:=by
      rcases hbs.2 with hb | hb
      .exact Gg inv hbl hb (beq_true.1 hbs.1) hX hre
      .obtain⟨bl',hb',h3,_⟩:=inv.di b X hX
       rw[hbl]at hb'
       cases hb'
       obtain⟨cs,ty,c1,c2,c3,c4,c5,c6,c7,c8⟩:=h3 hre
       cases hbx:bl.box
       .exact Gg inv hbl hbx (beq_true.1 hbs.1) hX hre
       .rw[(c7 hbx).2.1 (beq_false.1 hb)]
        exact beq_true.1 hbs.1
     exact⟨_,key _ _ _ hlt,X,hX,hre,by rw[add_lit,hsz,fB,jP]⟩
    .rw[T.aO]at hr;exact hr.elim
   .rw[T.aO]at hr;exact hr.elim
  .rw[T.aO]at hr;exact hr.elim
 .rw[T.aO]at hr;exact hr.elim
theorem ahC (hT:fG P E) {t:TypeId} (hd:Cg E t 2=true) {x y:AV} {u v:Value} (hx:RV w S β x u) (hy:RV w S β y v) {r:AV} (hr:(LN x y).val=some r) :
  ∃z,(agt t u v).run P w = .ok z w/\RV w S β r z:=by
 unfold Cg at hd
 split at hd
 .rename_i ti hti
  obtain⟨i,d,z,sp⟩:=hT.spec hti
  have:=sp.LY hd;subst this
  unfold LN at hr
  split at hr
  .rename_i s k n
   obtain⟨rfl,_⟩:=dD hx
   obtain⟨rfl,_⟩:=dD hy
   simp only[T.lv,T.bw]at hr
   obtain⟨j,hj,b,hb,rfl⟩:=hr
   have:=Cr hj
   subst this
   refine⟨_,?_,dO ?_⟩
   .simp only[agt,asIntOf,lX,oj,kZ,run_underlying sp.fk,Int.natCast_nonneg,if_true,om,hb]
   .have:=b.toNat_lt
    simp[dh,jB,iX,ii,fA];omega
  .rw[T.aO]at hr;exact hr.elim
 .cases hd
theorem VM {x y : AV} {u v : Value} (ts : Array TypeId) (ty : TypeId) (hx : RV w S β x u) (hy : RV w S β y v) {r : AV} :
    ((Cf max x y).val = some r -> ∃ z, (Builtin.max_ ts ty #[u, v]).run P w = .ok z w /\ RV w S β r z) /\
    ((Cf min x y).val = some r -> ∃ z, (Builtin.min_ ts ty #[u, v]).run P w = .ok z w /\ RV w S β r z) := by
  refine ⟨fun hr => ?_, fun hr => ?_⟩
  all_goals
    unfold Cf at hr
    split at hr
    . rename_i m hm
      split at hr
      . rename_i n hn
        have := Gd hm; subst this
        have := Gd hn; subst this
        obtain ⟨rfl, ok1⟩ := dD hx
        obtain ⟨rfl, ok2⟩ := dD hy
        rw [T.bw] at hr; subst hr
        refine ⟨_, rfl, ?_⟩
        simp only [dh] at ok1 ok2
        first
        | (have e : (if n > m then n else m) = max m n := by split <;> omega
           rw [e]
           exact dO (by simp only [dh]; omega))
        | (have e : (if n < m then n else m) = min m n := by split <;> omega
           rw [e]
           exact dO (by simp only [dh]; omega))
      . rw [T.aO] at hr; exact hr.elim
    . rw [T.aO] at hr; exact hr.elim
theorem wS {x:Option AV} {u:Option Value} {k n:Nat} {c:Nat} {code:Go.BoundsCode} (hx : ∀a,x=some a -> ∃v,u=some v/\RV w S β a v) (hn:x=none->u=none) (h:(qI x k).val=some n) (hc:n<=c) :
  (x=none/\u=none/\n=k) \/ ∃v kd,u=some v/\v = .int kd (n:Int)/\(agu v c code).run P w = .ok n w:=by
 unfold qI at h
 split at h
 .rw[T.bw]at h;exact .inl ⟨rfl,hn rfl,h.symm⟩
 .rename_i kd l
  obtain⟨v,hv,hr⟩:=hx _ rfl
  obtain⟨rfl,_⟩:=dD hr
  simp only[T.lv,T.bw]at h
  obtain⟨j,hj,rfl⟩:=h
  have:=Cr hj
  subst this
  refine .inr ⟨_,kd,hv,rfl,?_⟩
  have h1:(0:Int)<=(j:Int)/\(j:Int)<=(c:Int):=by omega
  simp[agu,asIntOf,hc]
 .rw[T.aO]at h;exact h.elim
theorem lw {ρ:Operand->AV} (hρ:mc w S β ρ a) (x:Option Operand):(∀y,fF ρ x=some y -> ∃v,x.map a.eval=some v/\RV w S β y v)/\(fF ρ x=none->x.map a.eval=none):=by
 cases x with
 | none=>simp[fF]
 | some x=>simp[fF];exact hρ x
theorem ahD (hT:fG P E) {t:TypeId} {ti:TI} (ht:E.ty t=some ti) (hd:bk ti.desc 2=true) {s:ByteArray} (hs:s.size<=9223372036854775807) {ρ:Operand->AV} (hρ:mc w S β ρ a) (lo hi:Option Operand) {r:AV}
  (hr:(LK s (fF ρ lo) (fF ρ hi)).val=some r) : ∃z,(pf t (.string s) (lo.map a.eval) (hi.map a.eval) none).run P w = .ok z w/\RV w S β r z:=by
 obtain⟨i,d,z,sp⟩:=hT.spec ht
 have:=sp.LY hd;subst this
 unfold LK at hr
 simp only[T.bind_some,T.dv,T.bw,T.aO,and_false,or_false,aG]at hr
 obtain⟨l,hl,m,hm,⟨h1,h2⟩,rfl⟩:=hr
 have h1:l<=m:=by simpa using h1
 have h2:m<=s.size:=by simpa using h2
 refine⟨.string (s.extract l m),?_,dO ?_⟩
 .have e1:=wS (P:=P) (w:=w) (S:=S) (β:=β) (code:= .sliceAlen) (c:=s.size) (lw hρ hi).1 (lw hρ hi).2 hm h2
  have e2:=wS (P:=P) (w:=w) (S:=S) (β:=β) (code:= .sliceB) (c:=m) (lw hρ lo).1 (lw hρ lo).2 hl h1
  rcases e1 with ⟨_,e1,rfl⟩ | ⟨v1,k1,e1,rfl,b1⟩<;>rcases e2 with ⟨_,e2,rfl⟩ | ⟨v2,k2,e2,rfl,b2⟩ <;>
   simp[pf,run_underlying sp.fk,UQ,UR, *]
 .simp only[dh,K1];omega
theorem R0.cut {rows:List Row} {A:Option Addr} {cap l m:Nat} {es:Nat} (hx:R0 w S (.sl rows) (.slice A rows.length cap)) (hl:l<=m) (hm:m<=rows.length) (hall : ∀r∈rows,r.length=es) :
  R0 w S (.sl ((rows.take m).drop l)) (.slice (if cap=l then A else A.map (·.add (l*es))) (m - l) (cap - l)):=by
 generalize hv:Value.slice A rows.length cap=vv at hx
 cases hx with
 | sl hc hcm hA hsz dJ hr0=>
  rename_i A' cap' size b off vals
  cases hv
  have hlen:((rows.take m).drop l).length=m - l:=by simp;omega
  have hget : ∀i,((rows.take m).drop l)[i]? = if l+i<m then rows[l+i]? else none:=by
   intro i;rw[sH,mB]
  have:=R0.sl (w:=w) (S:=S) (rows:=(rows.take m).drop l) (A:=if cap=l then A else A.map (·.add (l*es))) (cap:=cap - l) (size:=size) (b:=b) (off:=off+l*size) (vals:=fun i j=>vals (l+i) j)
   (by rw[hlen];omega) (by omega) ?_ ?_ ?_ ?_
  .rw[hlen]at this;exact this
  .intro hne
   have hlt:l<m:=by
    rcases Nat.lt_or_ge l m with h | h
    .exact h
    .exact absurd (sI (by rw[hlen];omega)) hne
   have hne':rows≠[]:=by rintro rfl;simp at hm;omega
   obtain⟨rfl,hS⟩:=hA hne'
   have hes:size=es:=by
    obtain⟨r,hr⟩ : ∃r,rows[0]? = some r:=⟨_,bC (by omega)⟩
    rw[<-hsz 0 r hr];exact hall r (cL hr)
   refine⟨?_,hS⟩
   rw[if_neg (by omega),hes]
   simp[add_lit]
  .intro i row hi
   rw[hget]at hi
   split at hi
   .exact hsz _ _ hi
   .cases hi
  .intro i j row x hi hj
   rw[hget]at hi
   split at hi
   .have:=dJ (l+i) j row x hi hj
    rw[<-this]
    congr 2
    rw[fB];omega
   .cases hi
  .intro i j row x hi hj
   rw[hget]at hi
   split at hi
   .exact hr0 _ _ row x hi hj
   .cases hi
theorem ahE (hT:fG P E) {t:TypeId} {ti:TI} (ht:E.ty t=some ti) (hd:bk ti.desc 4=true) {rows:List Row} {u:Value} (hu:R0 w S (.sl rows) u) {ρ:Operand->AV} (hρ:mc w S β ρ a) (lo hi:Option Operand) {r:AV}
  (hr:(LJ ti.bv rows (fF ρ lo) (fF ρ hi)).val=some r) : ∃z,(pf t u (lo.map a.eval) (hi.map a.eval) none).run P w = .ok z w/\RV w S β r z:=by
 obtain⟨i,d,z,sp⟩:=hT.spec ht
 obtain⟨ei,rfl,he,hes,_⟩:=sp.isSlice hd
 unfold LJ at hr
 simp only[T.bind_some,T.dv,T.bw,T.aO,and_false,or_false,aG]at hr
 obtain⟨l,hl,m,hm,⟨⟨h1,h2⟩,hall⟩,hr⟩:=hr
 have h1:l<=m:=by simpa using h1
 have h2:m<=rows.length:=by simpa using h2
 have hall : ∀r∈rows,r.length=ti.bv:=fun r hr=>beq_true.1 (bP.1 hall r hr)
 obtain⟨A,cap,rfl,hc1,hc2⟩:=R0.len hu
 have hcut:=R0.cut hu h1 h2 hall
 have e1:=wS (P:=P) (w:=w) (S:=S) (β:=β) (code:= .sliceAcap) (c:=cap) (lw hρ hi).1 (lw hρ hi).2 hm (by omega)
 have e2:=wS (P:=P) (w:=w) (S:=S) (β:=β) (code:= .sliceB) (c:=m) (lw hρ lo).1 (lw hρ lo).2 hl h1
 refine⟨.slice (if cap=l then A else A.map (·.add (l*ti.bv))) (m - l) (cap - l),?_,?_⟩
 .rcases e1 with ⟨_,e1,rfl⟩ | ⟨v1,k1,e1,rfl,b1⟩<;>rcases e2 with ⟨_,e2,rfl⟩ | ⟨v2,k2,e2,rfl,b2⟩ <;>
   simp[pf,run_underlying sp.fk,UQ,UR,nP w he, *]
 .subst hr
  have e3:LI rows l m (fF ρ lo) (fF ρ hi)=(rows.take m).drop l:=by
   unfold LI
   rcases e1 with ⟨o1,_,rfl⟩ | ⟨v1,k1,e1,rfl,b1⟩
   .rw[o1];simp
   .cases hhi:fF ρ hi with
    | none=>rw[(lw hρ hi).2 hhi]at e1;cases e1
    | some _=>
     rcases e2 with ⟨o2,_,rfl⟩ | ⟨v2,k2,e2,rfl,b2⟩
     .rw[o2];simp
     .cases hlo:fF ρ lo with
      | none=>rw[(lw hρ lo).2 hlo]at e2;cases e2
      | some _=>rfl
  rw[e3]
  exact hcut
theorem VN (hT:fG P E) {t:TypeId} {ti:TI} (ht:E.ty t=some ti) (hd:bk ti.desc 4=true) {k l0 n:Nat} {u:Value} (hu:RP w S β (.win k l0 n) u) (hsz : ∀X,β k=some X->X.real=true->X.size=ti.bv) {ρ:Operand->AV} (hρ:mc w S β ρ a) (lo hi:Option Operand) {r:AV}
  (hr:(FR k l0 n (fF ρ lo) (fF ρ hi)).val=some r) : ∃z,(pf t u (lo.map a.eval) (hi.map a.eval) none).run P w = .ok z w/\RV w S β r z:=by
 obtain⟨i,d,z,sp⟩:=hT.spec ht
 obtain⟨ei,rfl,he,hes,_⟩:=sp.isSlice hd
 unfold FR at hr
 simp only[T.bind_some,T.dv,T.bw,T.aO,and_false,or_false,aG]at hr
 obtain⟨l,hl,m,hm,⟨h1,h2⟩,hr⟩:=hr
 have h1:l<=m:=by simpa using h1
 have h2:m<=n:=by simpa using h2
 obtain⟨X,hX,A,cap,rfl,hc1,hc2,hn⟩:=hu
 have e1:=wS (P:=P) (w:=w) (S:=S) (β:=β) (code:= .sliceAcap) (c:=cap) (lw hρ hi).1 (lw hρ hi).2 hm (by omega)
 have e2:=wS (P:=P) (w:=w) (S:=S) (β:=β) (code:= .sliceB) (c:=m) (lw hρ lo).1 (lw hρ lo).2 hl h1
 refine⟨.slice (if cap=l then A else A.map (·.add (l*ti.bv))) (m - l) (cap - l),?_,?_⟩
 .rcases e1 with ⟨_,e1,rfl⟩ | ⟨v1,k1,e1,rfl,b1⟩<;>rcases e2 with ⟨_,e2,rfl⟩ | ⟨v2,k2,e2,rfl,b2⟩ <;>
   simp[pf,run_underlying sp.fk,UQ,UR,nP w he, *]
 .subst hr
  show RP w S β (.win k (l0+l) (m - l)) _
  refine⟨X,hX,_,_,rfl,by omega,by omega,fun hne=>?_⟩
  obtain⟨hre,rfl,hle⟩:=hn (by omega)
  refine⟨hre,?_,by omega⟩
  rw[if_neg (by omega)]
  simp only[lZ,add_lit,hsz X hX hre,fB]
theorem ahF (hT:fG P E) (inv:Inv E B w S β h) {t:TypeId} {ti:TI} (ht:E.ty t=some ti) {x:AV} {u:Value} (hu:RV w S β x u) {ρ:Operand->AV} (hρ:mc w S β ρ a) (lo hi:Option Operand) {r:AV}
  (hr:(wj (an h) ti x (fF ρ lo) (fF ρ hi)).val=some r) : ∃z,(pf t u (lo.map a.eval) (hi.map a.eval) none).run P w = .ok z w/\RV w S β r z:=by
 have wb : ∀ {k n:Nat},sV (an h) ti k=some n -> ∃bl,an h k=some bl/\bl.box=false/\bl.sz=ti.bv/\bl.rows.length=n:=by
  intro k n hw
  unfold sV at hw
  split at hw
  .rename_i bl hbl
   split at hw
   .rename_i hbs
    simp only[aG,mD]at hbs
    exact⟨bl,hbl,hbs.1,beq_true.1 hbs.2,jC hw⟩
   .cases hw
  .cases hw
 unfold wj at hr
 split at hr
 .rename_i hd
  split at hr
  .split at hr
   .rename_i n hw
    obtain⟨bl,b1,b2,b3,rfl⟩:=wb hw
    exact VN hT ht hd (ahA inv b1 (wP hu)) (fun X hX hre=>Gg inv b1 b2 b3 hX hre) hρ lo hi hr
   .rw[T.aO]at hr;exact hr.elim
  .split at hr
   .rename_i n hw
    obtain⟨bl,b1,b2,b3,_⟩:=wb hw
    exact VN hT ht hd (Ga hu) (fun X hX hre=>Gg inv b1 b2 b3 hX hre) hρ lo hi hr
   .rw[T.aO]at hr;exact hr.elim
  .rw[T.aO]at hr;exact hr.elim
 .rw[T.aO]at hr;exact hr.elim
end
end
section
variable {P : Program} {E : Env}
section
variable {B : Nat -> Prop} {o : Oper} {a : Act} {w : World} {S : Nat -> Prop} {β : Nat -> Option BI} {h : Heap} {av : AV} {v : Value}
theorem VO (off:Nat) : ∀(l:List Value) (s:Nat) (cs:Array Value) (k:Nat),((l.zipIdx s).foldl (fun cs p=>cs.setIfInBounds (off+p.2) p.1) cs)[k]? =
  if off+s<=k/\k<off+s+l.length/\k<cs.size then l[k - (off+s)]? else cs[k]?
 | [],s,cs,k=>by rw[if_neg (by simp;omega)];rfl
 | v::l,s,cs,k=>by
  simp only[List.zipIdx_cons,lY]
  rw[VO off l (s+1) _ k]
  simp only[Array.size_setIfInBounds,gq]
  by_cases h1:k=off+s
  .subst h1
   rw[if_neg (by omega),FC,if_pos rfl]
   by_cases h2:off+s<cs.size
   .rw[if_pos h2,if_pos (by omega)];simp
   .rw[if_neg h2,if_neg (by omega)];exact(Array.getElem?_eq_none (by omega)).symm
  .rw[FC,if_neg (Ne.symm h1)]
   by_cases h2:off+(s+1)<=k/\k<off+(s+1)+l.length/\k<cs.size
   .rw[if_pos h2,if_pos (by omega)]
    obtain⟨q,hq⟩ : ∃q,k - (off+s)=q+1:=⟨k - (off+s) - 1,by omega⟩
    rw[hq,List.getElem?_cons_succ]
    congr 1
    omega
   .rw[if_neg h2,if_neg (by omega)]
theorem VP (place:Nat->Option (Nat×Nat)) (cells:Array Value) (f off n:Nat) (v:Value) (rest:List (Nat×Value)) (hp:place f=some (off,n)) (hn:v.cells.size=n) (hle:off+n<=cells.size) :
  ∃cells',BT place cells ((f,v)::rest)=BT place cells' rest/\cells'.size=cells.size /\
   ∀k,cells'[k]? = if off<=k/\k<off+n then v.cells[k - off]? else cells[k]?:=by
 refine⟨v.cells.zipIdx.foldl (fun cs p=>cs.setIfInBounds (off+p.2) p.1) cells,?_,?_,fun k=>?_⟩
 .simp only[BT,hp]
  rw[if_neg (by simp;omega)]
 .rw[<-aFA]
  have : ∀(l:List (Value×Nat)) (cs:Array Value),(l.foldl (fun cs p=>cs.setIfInBounds (off+p.2) p.1) cs).size=cs.size:=by
   intro l
   induction l with
   | nil=>exact fun cs=>rfl
   | cons p r ih=>intro cs;rw[lY,ih];simp
  exact this _ _
 .rw[<-aFA,Array.toList_zipIdx,VO]
  simp only[jP,nB,hn]
  by_cases h1:off<=k/\k<off+n
  .rw[if_pos (by omega),if_pos h1];simp
  .rw[if_neg (by omega),if_neg h1]
theorem VQ {ti:TI} {ρ:Operand->AV} {place:Nat->Option (Nat×Nat)} (hpl : ∀f o ag n,ti.wU[f]? = some (o,ag,n)->place f=some (o,n)) (hρ:mc w S β ρ a) :
  ∀(parts:List (Nat×Operand)) (cs cs':List AV) (cells:Array Value),RL (RC w S β) cs cells.toList->pm ti ρ parts cs=some cs' ->
   ∃cells',BT place cells (parts.map fun p=>(p.1,a.eval p.2))=some cells'/\RL (RC w S β) cs' cells'.toList
 | [],cs,cs',cells,hr,hf=>by
  simp only[pm,eX]at hf
  subst hf
  exact⟨cells,rfl,hr⟩
 | (f,x)::r,cs,cs',cells,hr,hf=>by
  simp only[pm]at hf
  split at hf
  .rename_i off ag n hfl
   split at hf
   .rename_i hc
    simp only[aG]at hc
    obtain⟨⟨h1,h2⟩,h3⟩:=hc
    have h2:(cellsOf (ρ x)).length=n:=beq_true.1 h2
    have h3:off+n<=cs.length:=by simpa using h3
    have hcx:=tb h1 (hρ x)
    have hl:=hr.length
    simp only[nB]at hl
    have hlx:=hcx.length
    simp only[nB]at hlx
    obtain⟨cells1,e1,e2,e3⟩:=VP place cells f off n (a.eval x) (r.map fun p=>(p.1,a.eval p.2)) (hpl f off ag n hfl) (by omega) (by omega)
    rw[gP,e1]
    refine VQ hpl hρ r _ cs' cells1 (RL.of ?_ fun j y u hy hu=>?_) hf
    .unfold putAt;simp only[ck,eY,fe,nB];omega
    .rw[VK (by omega)]at hy
     rw[BU,e3]at hu
     by_cases j1:j<off
     .rw[if_pos j1]at hy
      rw[if_neg (by omega)]at hu
      obtain⟨v,hv,hrv⟩:=hr.get hy
      simp only[BU]at hv
      rw[hv]at hu;cases hu;exact hrv
     .rw[if_neg j1]at hy
      by_cases j2:j<off+n
      .rw[h2,if_pos j2]at hy
       rw[if_pos (by omega)]at hu
       obtain⟨v,hv,hrv⟩:=hcx.get hy
       simp only[BU]at hv
       rw[hv]at hu;cases hu;exact hrv
      .rw[h2,if_neg j2]at hy
       rw[if_neg (by omega)]at hu
       obtain⟨v,hv,hrv⟩:=hr.get hy
       simp only[BU]at hv
       rw[hv]at hu;cases hu;exact hrv
   .cases hf
  .cases hf
theorem VR : ∀ {fs:List Field} {fl:List (Nat×Bool×Nat)},qR (F4 P) fs=some fl->fs.mapM (fun f=>(P.info? f.type).map fun i=>(f.offset,i.size))=some (fl.map fun x=>(x.1,x.2.2))
 | [],fl,h=>by simp only[qR,eX]at h;subst h;rfl
 | f::fs,fl,h=>by
  simp only[qR]at h
  split at h
  .rename_i b hb
   split at h
   .rename_i bs hbs
    cases h
    have ih:=VR hbs
    unfold F4 at hb
    split at hb
    .rename_i fi hfi
     split at hb
     .split at hb
      .cases hb
      .cases hb
       simp[List.mapM_cons,hfi,ih]
     .cases hb
    .cases hb
   .cases h
  .cases h
theorem ahG (hT:fG P E) {t:TypeId} {ti:TI} (ht:E.ty t=some ti) {ρ:Operand->AV} (hρ:mc w S β ρ a) (parts:Array (Nat×Operand)) (hd5:bk ti.desc 5=true) {cs:List AV} (hf:pm ti ρ parts.toList ti.zero=some cs) :
  ∃u,(Instr.build t (parts.map fun(i,x)=>(i,a.eval x))).run P w = .ok u w/\RV w S β (.agg cs) u:=by
 obtain⟨i,d,z,sp⟩:=hT.spec ht
 have hd:=sp.desc
 rw[beq_true.1 hd5]at hd
 cases d<;>simp[wN]at hd
 rename_i fs
 have hz:RL (RC w S β) ti.zero z.cells.toList:=by rw[sp.zs];exact LZ w S β sp.Wq
 have hfl:=sp.fl
 simp only[Cn]at hfl
 have hpl:=VR hfl
 obtain⟨cells',h1,h2⟩:=VQ (place:=fun j=>(ti.wU.map fun x=>(x.1,x.2.2)).toArray[j]?) (fun f o ag n hh=>by simp[hh]) hρ parts.toList _ _ z.cells hz hf
 refine⟨.agg cells',run_build w t _ cells' ?_,cells'.toList,by simp,h2⟩
 unfold Program.built
 rw[sp.Gs,sp.fk]
 simp only[sp.zero,hpl]
 rw[<-h1]
 congr 1
 simp
theorem L5 (inv:Inv E B w S β h) {d:Nat} (hd:qT (an h) d) (cs:Array Value) (e:TypeId) (rows:List Row) (cap size:Nat) (hcs:cs.size=cap*size) (hl:rows.length<=cap) (hm:cap<=9223372036854775807)
  (hr : ∀(i:Nat) (row:Row),rows[i]? = some row->row.length=size /\ ∀(j:Nat) (x:AV),row[j]? = some x -> ∃u,cs[i*size+j]? = some u/\R0 w S x u) :
  fy (w.alloc (.cells cs e)) S (gc β d ⟨true,w.heap.size,rows.length,cap,size⟩) ⟨false,e,size,rows⟩ ⟨true,w.heap.size,rows.length,cap,size⟩:=by
 have g:=Ct inv hd (Ge inv (.cells cs e)) ⟨true,w.heap.size,rows.length,cap,size⟩
 refine⟨cs,e,heap_alloc_new w _,hcs,rfl,hl,hm,fun _=>⟨rfl,rfl⟩,by simp,fun i row hi=>?_⟩
 obtain⟨h1,h2⟩:=hr i row hi
 refine⟨h1,fun j x hx=>?_⟩
 obtain⟨u,hu,hr0⟩:=h2 j x hx
 exact⟨u,hu,by simpa using hr0.mono g.keep g.sub⟩
theorem L6 {n:Nat} : ∀ {rs:List Row},wu n rs=true -> ∀r∈rs,r.length=n
 | r::rs,h,x,hx=>by
  simp only[wu]at h
  split at h
  .rename_i hb
   rcases cK.1 hx with rfl | hx
   .exact beq_true.1 hb
   .exact L6 h x hx
  .cases h
 | [],_,x,hx=>by simp at hx
theorem L7 : ∀ {n i:Nat} {ps:List (Nat×Operand)},wq n i ps=true->n=i+ps.length /\ ∀j p,ps[j]? = some p->p.1=i+j
 | n,i,[],h=>⟨by simpa using beq_true.1 h,fun j p hp=>by simp at hp⟩
 | n,i,p::r,h=>by
  simp only[wq]at h
  split at h
  .rename_i hb
   obtain⟨h1,h2⟩:=L7 h
   refine⟨by simp;omega,fun j q hq=>?_⟩
   cases j with
   | zero=>simp at hq;subst hq;simpa using beq_true.1 hb
   | succ j=>simp at hq;rw[h2 j q hq];omega
  .cases h
theorem fill_dense {size n:Nat} : ∀(ps:List (Nat×Value)) (i:Nat) (cells:Array Value),n=i+ps.length->cells.size=n*size->(∀j p,ps[j]? = some p->p.1=i+j)->(∀p∈ps,p.2.cells.size=size) ->
  ∃cells',BT (fun i=>some (i*size,size)) cells ps=some cells'/\cells'.size=n*size/\(∀k,k<i*size->cells'[k]? = cells[k]?) /\
   ∀j p,ps[j]? = some p -> ∀q,q<size->cells'[(i+j)*size+q]? = p.2.cells[q]?
 | [],i,cells,hn,hs,hi,hc=>⟨cells,rfl,hs,fun _ _=>rfl,fun j p hp=>by simp at hp⟩
 | (f,v)::r,i,cells,hn,hs,hi,hc=>by
  have hf:f=i:=by simpa using hi 0 (f,v) rfl
  subst hf
  have hle:(f+1)*size<=n*size:=iY _ (by simp at hn;omega)
  rw[fB]at hle
  obtain⟨c1,e1,e2,e3⟩:=VP (fun i=>some (i*size,size)) cells f (f*size) size v r rfl (hc (f,v) (by simp)) (by omega)
  obtain⟨c2,g1,g2,g3,g4⟩:=fill_dense (size:=size) (n:=n) r (f+1) c1 (by simp at hn;omega) (by omega) (fun j p hp=>by rw[hi (j+1) p (by simpa using hp)];omega) (fun p hp=>hc p (by simp[hp]))
  rw[e1]
  refine⟨c2,g1,g2,fun k hk=>?_,fun j p hp q hq=>?_⟩
  .rw[g3 k (by rw[fB];omega),e3,if_neg (by omega)]
  .cases j with
   | zero=>
    simp at hp
    subst hp
    simp only[jP]
    rw[g3 _ (by rw[fB];omega),e3,if_pos (by omega)]
    congr 1
    omega
   | succ j=>
    simp at hp
    have:=g4 j p hp q hq
    rw[<-this]
    congr 3
    omega
theorem ahH (hT:fG P E) (inv:Inv E B w S β h) {t:TypeId} {ti:TI} (ht:E.ty t=some ti) {ρ:Operand->AV} (hρ:mc w S β ρ a) (n:Nat) (parts:Array (Nat×Operand)) (ho:o.op = .buildSlice t n parts)
  (hc:(wq n 0 parts.toList&&parts.toList.all (fun p=>mJ (ρ p.2))&&wu ti.bv (parts.toList.map fun p=>cellsOf (ρ p.2)) && !(bk ti.bv 0)&&aP (n*ti.bv) 16777216)=true) {p:AV×Heap}
  (hp:(made (an h) o.dst .own ⟨false,ti.elem,ti.bv,parts.toList.map fun p=>(cellsOf (ρ p.2)).map mI⟩).val=some p):kD P E B o a w S β h p.1 p.2:=by
 obtain⟨i,dd,z,sp⟩:=hT.spec ht
 simp only[aG,mD]at hc
 obtain⟨⟨⟨⟨h1,h2⟩,h3⟩,h4⟩,h5⟩:=hc
 have h4:=beq_false.1 h4
 have h5:n*ti.bv<=16777216:=by simpa using h5
 obtain⟨ei,ez,rfl,e1,e2,e3,e4,e5,e6,e7⟩:=sp.elem h4
 obtain⟨d,hd,hf,rfl⟩:=tc hp
 obtain⟨hn,hix⟩:=L7 h1
 simp only[gD]at hn hix
 have hrl : ∀p∈parts.toList,(cellsOf (ρ p.2)).length=ti.bv:=fun p hp=>L6 h3 _ (by simp only[eQ];exact⟨p,hp,rfl⟩)
 have hsol : ∀p∈parts.toList,mJ (ρ p.2)=true:=fun p hp=>bP.1 h2 p hp
 have hsz : ∀p∈parts.toList,(a.eval p.2).cells.size=ti.bv:=fun p hp=>by
  have:=(tb (hsol p hp) (hρ p.2)).length
  simp only[nB]at this
  rw[<-this,hrl p hp]
 obtain⟨cells,c1,c2,c3,c4⟩:=fill_dense (size:=ti.bv) (n:=n) (parts.toList.map fun p=>(p.1,a.eval p.2)) 0 ((Array.range (n*ei.size)).map (ez.cells[· % ez.cells.size]!)) (by simpa using hn) (by simp[e2])
  (fun j p hp=>by simp only[dM,eZ]at hp;obtain⟨q,hq,rfl⟩:=hp;simpa using hix j q hq)
  (fun p hp=>by simp only[eQ]at hp;obtain⟨q,hq,rfl⟩:=hp;exact hsz q hq)
 have hrun:(execOp a.eval o).run P w = .ok (.value (.slice (some ⟨w.heap.size,0,none⟩) n n)) (w.alloc (.cells cells ti.elem)):=by
  by_cases h0:n=0
  .subst h0
   have hps:parts.toList=[]:=sI hn.symm
   have hps':parts = #[]:=by cases parts;simp_all
   subst hps'
   have hcells:cells = #[]:=aFB (by simpa using c2)
   subst hcells
   simp[execOp,ho,Instr.buildSlice,run_underlying sp.fk,nP w e1,BT,newRow,aFC,newObj]
   rfl
  .have hb:=run_buildSlice (P:=P) w t ti.elem n (parts.map fun(i,x)=>(i,a.eval x)) cells ei ez sp.fk e1 e4 (by rw[e2];omega) (by rw[e2];intro h;rcases Nat.mul_eq_zero.1 h with h | h<;>omega) (by rw[e2]at *;rw[<-c1];congr 1;simp)
   simp[execOp,ho,hb]
 refine Cu inv hf cells ti.elem _ n n ti.bv (v:= .slice (some ⟨w.heap.size,0,none⟩) n n) hrun ?_ ?_
 .have hlen:(parts.toList.map fun p=>(cellsOf (ρ p.2)).map mI).length=n:=by simp;exact hn.symm
  have:=L5 inv hf cells ti.elem (parts.toList.map fun p=>(cellsOf (ρ p.2)).map mI) n ti.bv c2 (by omega) (by
   rcases US n with h | h
   .omega
   .have:=UT n (UU h4);omega) ?_
  .rw[hlen]at this;exact this
  .intro i1 row hi1
   simp only[dM,eZ]at hi1
   obtain⟨p,hp,rfl⟩:=hi1
   have hmem:=cL hp
   refine⟨by simp[hrl p hmem],fun j x hx=>?_⟩
   simp only[dM,eZ]at hx
   obtain⟨y,hy,rfl⟩:=hx
   obtain⟨u,hu,hr⟩:=(tb (hsol p hmem) (hρ p.2)).get hy
   have hj:j<ti.bv:=by rw[<-hrl p hmem];exact(cO.1 hy).1
   refine⟨u,?_,Cs hr⟩
   have:=c4 i1 (p.1,a.eval p.2) (by simp[hp]) j hj
   simp only[gD]at this
   rw[this]
   simpa using hu
 .exact⟨_,fN _ _ _,fun _=>rfl,fun h=>by cases h⟩
theorem ahI (hT:fG P E) (inv:Inv E B w S β h) {t:TypeId} {ti:TI} (ht:E.ty t=some ti) {ρ:Operand->AV} (hρ:mc w S β ρ a) (n:Nat) (parts:Array (Nat×Operand)) (ho:o.op = .buildSlice t n parts)
  (hc:(wq n 0 parts.toList&&parts.toList.all (fun p=>mJ (ρ p.2))&&wu ti.bv (parts.toList.map fun p=>cellsOf (ρ p.2)) && !(bk ti.bv 0)&&aP (n*ti.bv) 16777216)=true) {p:AV×Heap}
  (hp:(made (an h) o.dst (.win · 0 n) ⟨true,ti.elem,ti.bv,parts.toList.map fun p=>cellsOf (ρ p.2)⟩).val=some p):kD P E B o a w S β h p.1 p.2:=by
 obtain⟨i,dd,z,sp⟩:=hT.spec ht
 simp only[aG,mD]at hc
 obtain⟨⟨⟨⟨h1,h2⟩,h3⟩,h4⟩,h5⟩:=hc
 have h4:=beq_false.1 h4
 have h5:n*ti.bv<=16777216:=by simpa using h5
 obtain⟨ei,ez,rfl,e1,e2,e3,e4,e5,e6,e7⟩:=sp.elem h4
 obtain⟨d,hd,hf,rfl⟩:=tc hp
 obtain⟨hn,hix⟩:=L7 h1
 simp only[gD]at hn hix
 have hrl : ∀p∈parts.toList,(cellsOf (ρ p.2)).length=ti.bv:=fun p hp=>L6 h3 _ (by simp only[eQ];exact⟨p,hp,rfl⟩)
 have hsol : ∀p∈parts.toList,mJ (ρ p.2)=true:=fun p hp=>bP.1 h2 p hp
 have hsz : ∀p∈parts.toList,(a.eval p.2).cells.size=ti.bv:=fun p hp=>by
  have:=(tb (hsol p hp) (hρ p.2)).length
  simp only[nB]at this
  rw[<-this,hrl p hp]
 obtain⟨cells,c1,c2,c3,c4⟩:=fill_dense (size:=ti.bv) (n:=n) (parts.toList.map fun p=>(p.1,a.eval p.2)) 0 ((Array.range (n*ei.size)).map (ez.cells[· % ez.cells.size]!)) (by simpa using hn) (by simp[e2])
  (fun j p hp=>by simp only[dM,eZ]at hp;obtain⟨q,hq,rfl⟩:=hp;simpa using hix j q hq)
  (fun p hp=>by simp only[eQ]at hp;obtain⟨q,hq,rfl⟩:=hp;exact hsz q hq)
 have hrun:(execOp a.eval o).run P w = .ok (.value (.slice (some ⟨w.heap.size,0,none⟩) n n)) (w.alloc (.cells cells ti.elem)):=by
  by_cases h0:n=0
  .subst h0
   have hps:parts.toList=[]:=sI hn.symm
   have hps':parts = #[]:=by cases parts;simp_all
   subst hps'
   have hcells:cells = #[]:=aFB (by simpa using c2)
   subst hcells
   simp[execOp,ho,Instr.buildSlice,run_underlying sp.fk,nP w e1,BT,newRow,aFC,newObj]
   rfl
  .have hb:=run_buildSlice (P:=P) w t ti.elem n (parts.map fun(i,x)=>(i,a.eval x)) cells ei ez sp.fk e1 e4 (by rw[e2];omega) (by rw[e2];intro h;rcases Nat.mul_eq_zero.1 h with h | h<;>omega) (by rw[e2]at *;rw[<-c1];congr 1;simp)
   simp[execOp,ho,hb]
 refine Cu inv hf cells ti.elem _ n n ti.bv (v:= .slice (some ⟨w.heap.size,0,none⟩) n n) hrun ?_ ?_
 .have hlen:(parts.toList.map fun p=>cellsOf (ρ p.2)).length=n:=by simp;exact hn.symm
  have g:=Ct inv hf (Ge inv (.cells cells ti.elem)) ⟨true,w.heap.size,n,n,ti.bv⟩
  refine⟨cells,ti.elem,heap_alloc_new w _,c2,hlen,bR _,by
   rcases US n with h | h
   .show n<=_;omega
   .have:=UT n (UU h4);show n<=_;omega,by simp,fun _=>⟨fun h=>absurd h h4,fun _=>rfl, .inr rfl⟩,fun i1 row hi1=>?_⟩
  simp only[dM,eZ]at hi1
  obtain⟨p,hp,rfl⟩:=hi1
  have hmem:=cL hp
  refine⟨hrl p hmem,fun j x hx=>?_⟩
  obtain⟨u,hu,hr⟩:=(tb (hsol p hmem) (hρ p.2)).get hx
  have hj:j<ti.bv:=by rw[<-hrl p hmem];exact(cO.1 hx).1
  refine⟨u,?_,by simpa using g.rc hr⟩
  have:=c4 i1 (p.1,a.eval p.2) (by simp[hp]) j hj
  simp only[gD]at this
  rw[this]
  simpa using hu
 .exact⟨_,fN _ _ _,some ⟨w.heap.size,0,none⟩,n,rfl,bR _,by
   rcases US n with h | h
   .omega
   .have:=UT n (UU h4);omega,fun _=>⟨rfl,by simp,by simp⟩⟩
theorem ahJ (hT:fG P E) (inv:Inv E B w S β h) {t:TypeId} {ti:TI} (ht:E.ty t=some ti) {x y:Operand} {ux uy:AV} (hx:RV w S β ux (a.eval x)) (hy:RV w S β uy (a.eval y)) (ho:o.op = .makeSlice t x y) {p:AV×Heap}
  (hp:(FFq (an h) o.dst ti ux uy).val=some p):kD P E B o a w S β h p.1 p.2:=by
 obtain⟨i,dd,z,sp⟩:=hT.spec ht
 unfold FFq at hp
 split at hp
 .rename_i n0 hn0
  split at hp
  .rename_i c0 hc0
   simp only[T.lv]at hp
   obtain⟨n,hn,c,hc,hp⟩:=hp
   have:=Gd hn0;subst this
   have:=Gd hc0;subst this
   have:=Cr hn;subst this
   have:=Cr hc;subst this
   obtain⟨ex,ok1⟩:=dD hx
   obtain⟨ey,ok2⟩:=dD hy
   unfold Vk at hp
   split at hp
   .rw[T.aO]at hp;exact hp.elim
   .rename_i h4
    have h4:=beq_false.1 h4
    simp only[T.dv,T.aO,and_false,or_false,aG]at hp
    obtain⟨⟨h1,h2⟩,hp⟩:=hp
    have h1:n<=c:=by simpa using h1
    have h2:c*ti.oI<=140737488355328:=by simpa[wv]using h2
    obtain⟨ei,ez,rfl,e1,e2,e3,e4,e5,e6,e7⟩:=sp.elem h4
    obtain⟨d,hd,hf,rfl⟩:=tc hp
    have hcm:(c:Int)<=9223372036854775807:=by simp[dh,jB,iX,ii,fA]at ok2;omega
    have hr:=run_make (P:=P) w t ti.elem ei ez sp.fk e1 e4 .i64 .i64 n c (by omega) (by omega) (by
     have:((ei.bytes*c:Nat):Int)<=281474976710656:=by rw[e3,oq];omega
     rwa[Int.natCast_mul]at this) hcm
    simp only[om]at hr
    refine Cu inv hf (madeCells ez.cells (c*ei.size)) ti.elem _ n c ti.bv (v:= .slice (some ⟨w.heap.size,0,none⟩) n c) ?_ ?_ ?_
    .simp[execOp,ho,ex,ey,hr]
    .have hlen:(ig n (ti.wW.map mI)).length=n:=by simp
     have:=L5 inv hf (madeCells ez.cells (c*ei.size)) ti.elem (ig n (ti.wW.map mI)) c ti.bv (by rw[size_madeCells,e2]) (by simpa using h1) (by omega) ?_
     .rw[hlen]at this;exact this
     .intro i1 row hi1
      have hi1':=hi1
      rw[aFD]at hi1
      split at hi1
      .rename_i hlt
       cases hi1
       refine⟨by rw[e7];simp[e5],fun j x hx=>?_⟩
       rw[e7]at hx
       simp only[dM,eZ,K2]at hx
       obtain⟨y,hy,rfl⟩:=hx
       have hmem:=cL hy
       have hj:j<ez.cells.size:=by simpa using(cO.1 hy).1
       refine⟨y,?_,Cs (F7 w S β (e6 y hmem))⟩
       have hlt2:i1*ti.bv+j<c*ei.size:=by
        have h3:(i1+1)*ti.bv<=c*ti.bv:=iY _ (by omega)
        rw[fB]at h3
        rw[e2];omega
       have hmod:(i1*ti.bv+j) % ez.cells.size=j:=by rw[e5,oq,UV,BV (by omega)]
       simp only[madeCells,aFE,aFF,hlt2,if_true,lZ,hmod]
       simp only[BU]at hy
       rw[getElem!_pos ez.cells j hj]
       rw[qv hj]at hy
       exact hy
      .cases hi1
    .exact⟨_,fN _ _ _,fun _=>rfl,fun h=>by cases h⟩
  .rw[T.aO]at hp;exact hp.elim
 .rw[T.aO]at hp;exact hp.elim
theorem ahK (w:World) (t ty e:TypeId) (g o n c:Nat) (cur:Array Value) (rt:TypeId) (i:TypeInfo) (z:Value) (hn:0<n)
  (hu:P.underlying t=some (.slice e)) (hi:P.info? e=some i) (hz:i.zero=some z)
  (hg:w.heap[g]? = some (.cells cur rt (0,0))) (hfit:o+(gF z.cells n).toList.length<=cur.size) (h1 : ∀v∈(gF z.cells n).toList,v.oneCell'=true) :
  (Builtin.clear_ #[t] ty #[.slice (some ⟨g,o,none⟩) n c]).run P w =
   .ok (.tuple #[]) (w.setRow g (cur.toList.take o++(gF z.cells n).toList++cur.toList.drop (o+(gF z.cells n).toList.length)).toArray):=by
 have hst:=run_storeCells_at P g o rt (gF z.cells n).toList 0 cur w hg (by simpa using hfit) h1
 simp only[jP]at hst
 obtain⟨m,rfl⟩ : ∃m,n=m+1:=⟨n - 1,by omega⟩
 simp[Builtin.clear_,run_underlying hu,zeroValue,typeInfo,hi,hz,hst]
theorem ahL (hT:fG P E) (inv:Inv E B w S β h) {t:TypeId} {ti:TI} (ht:E.ty t=some ti) {x:Operand} {ux:AV} (hx:RV w S β ux (a.eval x)) (ho:o.op = .call ⟨.builtin .clear, #[x], #[t]⟩) {p:AV×Heap}
  (hp:(wz (an h) ti ux).val=some p):kD P E B o a w S β h p.1 p.2:=by
 obtain⟨i,dd,z,sp⟩:=hT.spec ht
 unfold wz at hp
 split at hp
 .rename_i k lo n
  obtain⟨X,hX,A,c,hev,hnc,hc63,hre⟩:=Ga hx
  obtain⟨bl,h1,h2,h3⟩:=inv.di k X hX
  rw[h1]at hp
  simp only at hp
  split at hp
  .rename_i hck
   simp only[aG,mD]at hck
   obtain⟨⟨hbox,hsz⟩,h4⟩:=hck
   have hsz:bl.sz=ti.bv:=beq_true.1 hsz
   have h4:=beq_false.1 h4
   simp only[T.dv,T.bw,T.aO,and_false,or_false,aG]at hp
   obtain⟨⟨hle,hn1⟩,rfl⟩:=hp
   have hle:lo+n<=bl.rows.length:=by simpa using hle
   have hn1:1<=n:=by simpa using hn1
   obtain⟨hreal,rfl,hlen⟩:=hre (by omega)
   obtain⟨cs,ty,c1,c2,c3,c4,c5,c6,c7,c8⟩:=h2 hreal
   obtain⟨q1,q2⟩:=c6 hbox
   have hXs:X.size=ti.bv:=q2.trans hsz
   obtain⟨ei,ez,rfl,e1,e2,e3,e4,e5,e6,e7⟩:=sp.elem h4
   have hzl:(gF ez.cells n).toList.length=n*ti.bv:=by rw[nB,size_zeroCells,e5]
   have hzat : ∀q,q<n*ti.bv->(gF ez.cells n).toList[q]? = ez.cells[q % ti.bv]?:=fun q hq=>by
    rw[BU]
    simp only[gF,aFE,aFF,e5,hq,if_true,lZ]
    have hm:q % ti.bv<ez.cells.size:=by rw[e5];exact sK _ (by omega)
    rw[getElem!_pos ez.cells _ hm,qv hm]
   have hfit:lo*X.size+(gF ez.cells n).toList.length<=cs.size:=by
    rw[hzl,c2,hXs,<-fB]
    exact iY _ (by omega)
   have hone : ∀v∈(gF ez.cells n).toList,v.oneCell'=true:=fun v hv=>by
    obtain⟨q,hq⟩:=List.getElem?_of_mem hv
    have hlt:=(cO.1 hq).1
    rw[hzl]at hlt
    rw[hzat q hlt]at hq
    exact(Cs (F7 w S β (e6 v (by simpa using Array.mem_of_getElem? hq)))).one
   have hrun:=ahK (P:=P) w t o.type ti.elem X.b (lo*X.size) n c cs ty ei ez (by omega) sp.fk e1 e4 c1 hfit hone
   have dJ : ∀j,(cs.toList.take (lo*X.size)++(gF ez.cells n).toList++cs.toList.drop (lo*X.size+(gF ez.cells n).toList.length))[j]? = if j<lo*X.size then cs[j]? else if j<lo*X.size+n*ti.bv then (gF ez.cells n).toList[j - lo*X.size]? else cs[j]?:=by
    intro j
    rw[L4 (by simpa using hfit),hzl]
    simp
   have hNl:(cs.toList.take (lo*X.size)++(gF ez.cells n).toList++cs.toList.drop (lo*X.size+(gF ez.cells n).toList.length)).length=cs.size:=by
    simp only[ck,eY,fe,nB]at hfit ⊢;omega
   generalize (cs.toList.take (lo*X.size)++(gF ez.cells n).toList++cs.toList.drop (lo*X.size+(gF ez.cells n).toList.length))=N at hrun dJ hNl
   intro K Q hK
   unfold ol
   have hr:(execOp a.eval o).run P w = .ok (.value (.tuple #[])) (w.setRow X.b N.toArray):=by
    simp[execOp,ho,resolve,invoke,builtin,hev,hrun]
   rw[hr,sG]
   have g:=Gf inv hX hreal N.toArray
   refine hK _ _ S β (VJ inv hX hreal _ _ ?_) g trivial
   refine⟨_,ty,setRow_heap w X.b cs _ ty _ c1,by simp[hNl,c2],?_,c4,c5,fun _=>⟨q1,q2⟩,(fun hb=>by cases hb),fun i1 row1 hrow1=>?_⟩
   .simp only[ck,eY,vF,fe]
    omega
   .have hls:lo*X.size=lo*ti.bv:=by rw[hXs]
    have hold:bl.rows[i1]? = some row1->(i1<lo\/lo+n<=i1)->row1.length=X.size /\ ∀(j:Nat) (y:AV),row1[j]? = some y -> ∃v,N.toArray[i1*X.size+j]? = some v/\(if false=true then RC (w.setRow X.b N.toArray) S β y v else R0 (w.setRow X.b N.toArray) S y v):=by
     intro hr1 hcase
     obtain⟨k1,k2⟩:=c8 i1 row1 hr1
     refine⟨k1,fun j y hj=>?_⟩
     obtain⟨v,hv,hrv⟩:=k2 j y hj
     have hjl:j<X.size:=by rw[<-k1];exact(cO.1 hj).1
     refine⟨v,?_,?_⟩
     .rw[FB,dJ]
      rcases hcase with hc1 | hc1
      .have:=iY X.size (show i1+1<=lo by omega)
       rw[fB]at this
       rw[if_pos (by omega)];exact hv
      .have:=iY ti.bv hc1
       rw[fB]at this
       rw[if_neg (by rw[hXs];omega),if_neg (by rw[hXs];omega)];exact hv
     .rw[hbox]at hrv
      simp only[ij,if_false]at hrv ⊢
      exact hrv.mono g.keep g.sub
    rw[cq]at hrow1
    by_cases g1:i1<lo
    .rw[mC (by rw[eY];omega),mB,if_pos g1]at hrow1
     exact hold hrow1 (.inl g1)
    .rw[kw (by rw[eY];omega),eY,show i1 - min lo bl.rows.length=i1 - lo by omega]at hrow1
     by_cases g2:i1<lo+n
     .rw[mC (by rw[vF];omega),aFD,if_pos (by omega)]at hrow1
      cases hrow1
      refine⟨by rw[e7,hXs];simp[e5],fun j y hj=>?_⟩
      rw[e7]at hj
      simp only[dM,eZ,K2]at hj
      obtain⟨y0,hy0,rfl⟩:=hj
      have hj5:j<ti.bv:=by rw[<-e5];simpa using(cO.1 hy0).1
      have hmem:=cL hy0
      refine⟨y0,?_,?_⟩
      .have h5:i1*ti.bv=lo*ti.bv+(i1 - lo)*ti.bv:=by rw[<-fB];congr 1;omega
       have h6:=iY ti.bv (show(i1 - lo)+1<=n by omega)
       rw[fB]at h6
       rw[FB,dJ,hXs,if_neg (by omega),if_pos (by omega),hzat _ (by omega)]
       rw[show i1*ti.bv+j - lo*ti.bv=ti.bv*(i1 - lo)+j by rw[oq ti.bv];omega,UV,BV hj5]
       simpa using hy0
      .simp only[ij,if_false]
       exact Cs (F7 _ S β (e6 y0 hmem))
     .rw[kw (by rw[vF];omega),vF,sH,show lo+n+(i1 - lo - n)=i1 by omega]at hrow1
      exact hold hrow1 (.inr (by omega))
  .rw[T.aO]at hp;exact hp.elim
 .rw[T.aO]at hp;exact hp.elim
end
end
section
variable {P : Program} {E : Env}
section
variable {B : Nat -> Prop} {o : Oper} {a : Act} {w w' : World} {S : Nat -> Prop} {β : Nat -> Option BI} {h : Heap} {av : AV} {v : Value}
structure L8 (w:World) (S:Nat->Prop) (es:Nat) (rs:List Row) (u:Value) (A:Option Addr) (cap:Nat) (news:List Value):Prop where
 val:u = .slice A rs.length cap
 len:news.length=rs.length*es
 lt:rs.length<=9223372036854775807
 cells:rs≠[] -> ∃ad,A=some ad /\ ∀j x,news[j]? = some x->w.cell? (ad.add j)=some x
 rep : ∀(i:Nat) (row:Row) (j:Nat) (x:AV),rs[i]? = some row->row[j]? = some x -> ∃y,news[i*es+j]? = some y/\R0 w S x y
 one : ∀x∈news,x.oneCell'=true
theorem VS {rs:List Row} {u:Value} {es:Nat} (h0:es≠0) (hu:R0 w S (.sl rs) u) (hall : ∀r∈rs,r.length=es) : ∃A cap news,L8 w S es rs u A cap news:=by
 cases hu with
 | sl hc hm hA hl dJ hr=>
  rename_i A cap size b off vals
  have hdm : ∀i j,j<es->(i*es+j) / es=i/\(i*es+j) % es=j:=fun i j hj=>by
   rw[oq,Nat.mul_add_div (by omega),Nat.div_eq_of_lt hj,UV,BV hj];simp
  have hrow : ∀q,q<rs.length*es -> ∃row x,rs[q / es]? = some row/\row.length=es/\row[q % es]? = some x:=by
   intro q hq
   have h1:q / es<rs.length:=by rw[FE (by omega)];exact hq
   have h2:q % es<es:=sK _ (by omega)
   have h3:rs[q / es]? = some rs[q / es]:=bC h1
   have h4:rs[q / es].length=es:=hall _ (iZ h1)
   exact⟨_,_,h3,h4,bC (by omega)⟩
  refine⟨A,cap,(List.range (rs.length*es)).map fun q=>vals (q / es) (q % es),rfl,by simp,by omega,fun hne=>?_,fun i row j x hi hj=>?_,fun x hx=>?_⟩
  .obtain⟨rfl,hS⟩:=hA hne
   refine⟨_,rfl,fun q x hq=>?_⟩
   simp only[dM,eZ]at hq
   obtain⟨q',hq',rfl⟩:=hq
   have hlt:q<rs.length*es:=by have:=(cO.1 hq').1;simpa using this
   rw[K3 hlt]at hq'
   cases hq'
   obtain⟨row,x,r1,r2,r3⟩:=hrow q hlt
   have:=dJ (q / es) (q % es) row x r1 r3
   rw[add_lit,<-this]
   have hsz:size=es:=by rw[<-hl _ _ r1,r2]
   have:=vG q es
   rw[oq]at this
   congr 2
   rw[hsz];omega
  .have hjl:j<es:=by rw[<-hall row (cL hi)];exact(cO.1 hj).1
   have hil:i<rs.length:=(cO.1 hi).1
   have hlt:i*es+j<rs.length*es:=by
    have:(i+1)*es<=rs.length*es:=iY _ (by omega)
    rw[fB]at this;omega
   obtain⟨e1,e2⟩:=hdm i j hjl
   exact⟨vals i j,by simp[K3 hlt,e1,e2],hr i j row x hi hj⟩
  .simp only[eQ,List.mem_range]at hx
   obtain⟨q,hq,rfl⟩:=hx
   obtain⟨row,x,r1,r2,r3⟩:=hrow q hq
   exact(hr _ _ row x r1 r3).one
theorem VT (inv:Inv E B w S β h) {y:AV} {u:Value} {rs:List Row} {es:Nat} (h0:es≠0) (hy:RV w S β y u) (hrs:rowsOf (an h) y=some rs) (hall : ∀r∈rs,r.length=es) : ∃A cap news,L8 w S es rs u A cap news:=by
 have hz : ∀A cap,cap<=9223372036854775807->rs=[]->u = .slice A 0 cap -> ∃A cap news,L8 w S es rs u A cap news:=by
  rintro A cap hcap rfl rfl
  exact⟨A,cap,[],rfl,by simp,by simp,fun h=>absurd rfl h,fun i row j x hi=>by simp at hi,fun x hx=>by simp at hx⟩
 unfold rowsOf at hrs
 split at hrs
 .cases hrs
  exact VS h0 (ta hy) hall
 .cases hrs
  exact VS h0 hy.1 hall
 .rename_i k
  split at hrs
  .rename_i bl hbl
   split at hrs
   .cases hrs
   .rename_i hbox
    cases hrs
    obtain⟨X,hX,h1,h2⟩:=wP hy
    obtain⟨bl',hb,h3,h4⟩:=inv.di k X hX
    rw[hbl]at hb
    cases hb
    cases hr:X.real
    .obtain⟨A,rfl⟩:=h2 hr
     exact hz A 0 (by omega) (h4 hr).1 rfl
    .obtain⟨cs,ty,c1,c2,c3,c4,c5,c6,c7,c8⟩:=h3 hr
     rw[h1 hr]
     have hsz:bl.rows≠[]->X.size=es:=fun hne=>by
      obtain⟨r,hr'⟩ : ∃r,bl.rows[0]? = some r:=⟨_,bC (UX.2 hne)⟩
      rw[<-(c8 0 r hr').1];exact hall r (cL hr')
     have hle:bl.rows.length*X.size<=cs.size:=by rw[c2,c3];exact iY _ c4
     by_cases hne:bl.rows=[]
     .exact⟨some ⟨X.b,0,none⟩,X.cap,[],by rw[hne,<-c3,hne],by rw[hne];simp,by rw[hne];simp,fun h=>absurd hne h,fun i row j x hi=>by rw[hne]at hi;simp at hi,fun x hx=>by simp at hx⟩
     .have hs:=hsz hne
      subst hs
      refine⟨some ⟨X.b,0,none⟩,X.cap,cs.toList.take (bl.rows.length*X.size),by rw[c3],by simp;omega,by omega,fun _=>⟨_,rfl,fun j x hj=>?_⟩,fun i row j x hi hj=>?_,fun x hx=>?_⟩
      .rw[mB]at hj
       split at hj
       .rw[add_lit];simp only[lW,c1];simpa using hj
       .cases hj
      .obtain⟨v,hv,hrv⟩:=(c8 i row hi).2 j x hj
       have hil:i<bl.rows.length:=(cO.1 hi).1
       have hjl:j<X.size:=by rw[<-(c8 i row hi).1];exact(cO.1 hj).1
       have:(i+1)*X.size<=bl.rows.length*X.size:=iY _ (by omega)
       rw[fB]at this
       refine⟨v,by rw[mB,if_pos (by omega)];simpa using hv,?_⟩
       rw[hbox]at hrv;simpa using hrv
      .obtain⟨q,hq,hqx⟩:=List.getElem_of_mem hx
       have hq2:q<bl.rows.length*X.size:=by simp at hq;omega
       have hx':cs[q]? = some x:=by
        rw[List.getElem_take]at hqx
        rw[<-hqx]
        simp
       have h1:q / X.size<bl.rows.length:=by rw[FE (by omega)];exact hq2
       have h2:q % X.size<X.size:=sK _ (by omega)
       have hrow:=bC h1
       have hrl:=(c8 _ _ hrow).1
       obtain⟨v,hv,hrv⟩:=(c8 _ _ hrow).2 (q % X.size) _ (bC (by omega))
       have hdm:=vG q X.size
       rw[oq]at hdm
       rw[hdm,hx']at hv
       cases hv
       rw[hbox]at hrv
       exact R0.one (by simpa using hrv)
  .cases hrs
 .cases hrs
  obtain⟨A,rfl⟩:=wQ hy
  exact hz A 0 (by omega) rfl rfl
 .cases hrs
theorem VU (t ty e:TypeId) (i:TypeInfo) (ht:P.underlying t=some (.slice e)) (hi:P.info? e=some i) (base:Option Addr) (n cap:Nat) (hle:n<=cap) (A:Option Addr) (c:Nat) :
  (vH #[t,t] ty #[.slice base n cap, .slice A 0 c]).run P w = .ok (.slice base n cap) w:=by
 cases base<;>cases A<;>simp[vH,run_underlying ht,sizeOf,typeInfo,hi,Builtin.lenOf,Builtin.firstCells,loadCells,loadCellsFrom,hle,storeCells]
theorem VV (t ty e:TypeId) (i:TypeInfo) (z:Value) (ht:P.underlying t=some (.slice e)) (hi:P.info? e=some i) (hz:i.zero=some z) (hzs:z.cells.size=i.size) (A0:Option Addr)
  (ad:Addr) (m c:Nat) (news:List Value) (hl:news.length=m*i.size) (hnews : ∀j x,news[j]? = some x->w.cell? (ad.add j)=some x) (hm:0<m) (h63:m<=9223372036854775807) (hby:m*i.bytes<=140737488355328) :
  ∃cap cs,(vH #[t,t] ty #[.slice A0 0 0, .slice (some ad) m c]).run P w = .ok (.slice (some ⟨w.heap.size,0,none⟩) m cap) (w.drew.alloc (.cells cs e)) /\
   cs.size=cap*i.size/\m<=cap/\cap<=9223372036854775807 /\ ∀j,j<m*i.size->cs[j]? = news[j]?:=by
 have hge:=grownCap_ge w m 0 e
 have hle:grownCap w m 0 e<=9223372036854775807:=grownCap_le_maxLen w m 0 e h63
 refine⟨grownCap w m 0 e,news.toArray++gF z.cells (grownCap w m 0 e - m),?_,?_,hge,hle,fun j hj=>?_⟩
 .cases A0 with
  | none=>exact run_append_nil w t ty e i z ht hi hz ad m c news hl hnews hm (by omega) (by omega)
  | some b=>
   have:=run_append_grow (P:=P) w t ty e i z ht hi hz b 0 0 [] (by simp) (fun j x hj=>by simp at hj) ad m c news hl hnews (by omega) (by omega) (growslice_fits (by omega) (by simpa using hby))
   simp only[gD]at this
   rw[this]
   simp
 .simp only[vJ,l3,size_zeroCells,hzs,hl,<-fB]
  congr 1;omega
 .rw[K4 (by simp;omega)]
  simp
theorem Inv.drew (inv:Inv E B w S β h):Inv E B w.drew S β h:=by
 have g:Gr B w S β w.drew S β:=⟨(dW.refl _ _).drew,fun _ _=>rfl,fun _ h=>h,fun _ h=> .inl h,fun _ _ h=>h,fun _ _ _ h=>h⟩
 exact⟨inv.base,inv.lt,inv.inj,inv.new,fun k x hx=>by
  obtain⟨bl,h1,h2,h3⟩:=inv.di k x hx
  exact⟨bl,h1,fun hr=>(h2 hr).go g rfl,h3⟩,inv.il,fun gl row hg=>(inv.dH gl row hg).mono g.keep g.sub⟩
theorem Gh (B:Nat->Prop) (w:World) (S:Nat->Prop) (β:Nat->Option BI):Gr B w S β w.drew S β:=⟨(dW.refl _ _).drew,fun _ _=>rfl,fun _ h=>h,fun _ h=> .inl h,fun _ _ h=>h,fun _ _ _ h=>h⟩
theorem Gr.trans {w1 w2:World} {S1 S2:Nat->Prop} {β1 β2:Nat->Option BI} (g:Gr B w S β w1 S1 β1) (k:Gr B w1 S1 β1 w2 S2 β2):Gr B w S β w2 S2 β2:=
 ⟨g.below.trans k.below,fun b hb=>(k.keep b (g.sub b hb)).trans (g.keep b hb),fun b hb=>k.sub b (g.sub b hb),fun b hb=>(k.news b hb).elim (g.news b) .inr,fun i x hx=>k.keys i x (g.keys i x hx),fun i x hi hx=>g.dS i x hi (k.dS i x hi hx)⟩
theorem VW (inv:Inv E B w S β h) {d:Nat} (hd:qT (an h) d) (e z:Nat):Inv E B w S (gc β d ⟨false,0,0,0,0⟩) (mG h d ⟨false,e,z,[]⟩)/\Gr B w S β w S (gc β d ⟨false,0,0,0,0⟩):=by
 have g:=Ct inv hd (Gr.refl B w S β) ⟨false,0,0,0,0⟩
 have hne : ∀k x,gc β d ⟨false,0,0,0,0⟩ k=some x->x.real=true->β k=some x:=by
  intro k x hk hr
  by_cases e1:k=d
  .subst e1;rw[fN]at hk;cases hk;cases hr
  .rw[e9 β _ e1]at hk;exact hk
 refine⟨⟨inv.base,inv.lt,fun k k' x x' h1 h2 r1 r2 e=>inv.inj k k' x x' (hne k x h1 r1) (hne k' x' h2 r2) r1 r2 e,fun k x h1 r1=>inv.new k x (hne k x h1 r1) r1,?_,?_,inv.dH⟩,g⟩
 .intro k x h1
  by_cases e1:k=d
  .subst e1
   rw[fN]at h1
   cases h1
   exact⟨_,by rw[gu,if_pos rfl],(fun hr=>by cases hr),fun _=>⟨rfl,rfl⟩⟩
  .rw[e9 β _ e1]at h1
   obtain⟨b1,a1,a2,a3⟩:=inv.di k x h1
   exact⟨b1,by rw[gu,if_neg e1];exact a1,fun hr=>(a2 hr).go g rfl,a3⟩
 .intro k b1 h1
  rw[gu]at h1
  by_cases e1:k=d
  .subst e1;exact⟨_,fN _ _ _⟩
  .rw[if_neg e1]at h1
   obtain⟨x,hx⟩:=inv.il k b1 h1
   exact⟨x,by rw[e9 β _ e1];exact hx⟩
theorem ahM (inv:Inv E B w S β h) {x:Operand} {ux:AV} (hx:RV w S β ux (a.eval x)) (h0:sX ux=true) (ho:o.op = .assign x) (e z:Nat) {p:AV×Heap} (hp:(made (an h) o.dst .own ⟨false,e,z,[]⟩).val=some p):kD P E B o a w S β h p.1 p.2:=by
 obtain⟨d,hd,hf,rfl⟩:=tc hp
 obtain⟨i1,g1⟩:=VW inv hf e z
 have:ux = .e0:=by cases ux<;>first | rfl | (simp[sX]at h0)
 subst this
 obtain⟨A,hA⟩:=wQ hx
 intro K Q hK
 unfold ol
 have hr:(execOp a.eval o).run P w = .ok (.value (a.eval x)) w:=by simp[execOp,ho]
 rw[hr,sG]
 exact hK _ w S _ i1 g1 ⟨_,fN _ _ _,(fun h=>by cases h),fun _=>⟨A,hA⟩⟩
theorem ahN (hT:fG P E) (inv:Inv E B w S β h) {t:TypeId} {x y:Operand} {ux uy:AV} (hx:RV w S β ux (a.eval x)) (hy:RV w S β uy (a.eval y))
  (ho:o.op = .call ⟨.builtin .append, #[x,y], #[t,t]⟩) {p:AV×Heap} (hp:(FT E (an h) o.dst t ux uy).val=some p):kD P E B o a w S β h p.1 p.2:=by
 unfold FT at hp
 split at hp
 .rename_i h0
  have:ux = .e0:=by cases ux<;>first | rfl | (simp[sX]at h0)
  subst this
  obtain⟨A0,hA0⟩:=wQ hx
  split at hp
  .rename_i rs hrs
   split at hp
   .rename_i ti hti
    split at hp
    .rw[T.aO]at hp;exact hp.elim
    .rename_i h4
     have h4:=beq_false.1 h4
     simp only[T.dv,T.aO,and_false,or_false,aG]at hp
     obtain⟨⟨hb,hall⟩,hp⟩:=hp
     have hb:rs.length*ti.oI<=140737488355328:=by simpa[wv]using hb
     have hall : ∀r∈rs,r.length=ti.bv:=fun r hr=>beq_true.1 (bP.1 hall r hr)
     obtain⟨i,dd,z,sp⟩:=hT.spec hti
     obtain⟨ei,ez,rfl,e1,e2,e3,e4,e5,e6,e7⟩:=sp.elem h4
     obtain⟨d,hd,hf,rfl⟩:=tc hp
     obtain⟨A,cap,news,src⟩:=VT inv h4 hy hrs hall
     have hexec : ∀vv ww,(vH #[t,t] o.type #[.slice A0 0 0, .slice A rs.length cap]).run P w = .ok vv ww->(execOp a.eval o).run P w = .ok (.value vv) ww:=by
      intro vv ww hrun
      simp[execOp,ho,resolve,invoke,builtin,hA0,src.val,hrun]
     by_cases hne:rs=[]
     .subst hne
      obtain⟨i1,g1⟩:=VW inv hf ti.elem ti.bv
      intro K Q hK
      unfold ol
      rw[hexec _ _ (VU t o.type ti.elem ei sp.fk e1 A0 0 0 (bR _) A cap),sG]
      exact hK _ w S _ i1 g1 ⟨_,fN _ _ _,(fun h=>by cases h),fun _=>⟨A0,rfl⟩⟩
     .obtain⟨ad,rfl,hcells⟩:=src.cells hne
      obtain⟨c',cs,r1,r2,r3,r4,r5⟩:=VV (P:=P) (w:=w) t o.type ti.elem ei ez sp.fk e1 e4 (by rw[e5,e2]) A0 ad rs.length cap news (by rw[src.len,e2]) hcells (UX.2 hne) src.lt (by rw[e3];exact hb)
      have inv':=inv.drew
      obtain⟨i1,g1⟩:=VD inv' hf cs ti.elem ⟨false,ti.elem,ti.bv,rs⟩ rs.length c' ti.bv (L5 inv' hf cs ti.elem rs c' ti.bv (by rw[r2,e2]) r3 r4 fun i1 row hi1=>⟨hall row (cL hi1),fun j x hj=>by
       obtain⟨y,hy,hr⟩:=src.rep i1 row j x hi1 hj
       have hlt:i1*ti.bv+j<rs.length*ei.size:=by
        have:=(cO.1 hy).1;rw[src.len]at this;rw[e2];exact this
       exact⟨y,by rw[r5 _ hlt];exact hy,R0.mono (w:=w) (w':=w.drew) (fun _ _=>rfl) (fun _ h=>h) hr⟩⟩)
      intro K Q hK
      unfold ol
      rw[hexec _ _ r1,sG]
      exact hK _ _ S _ i1 ((Gh B w S β).trans g1) ⟨_,fN _ _ _,fun _=>rfl,fun h=>by cases h⟩
   .rw[T.aO]at hp;exact hp.elim
  .rw[T.aO]at hp;exact hp.elim
 .rw[T.aO]at hp;exact hp.elim
theorem gf {α γ:Type} (f:α->γ) (m:List (Nat×α)) (k:Nat):an (m.map fun p=>(p.1,f p.2)) k=(an m k).map f:=by
 induction m with
 | nil=>rfl
 | cons p r ih=>obtain⟨j,x⟩:=p;simp only[gP,an];split<;>simp_all
theorem L9 {l:List Nat} {k:Nat} (hh:l.elem k=false):k∉l:=by simpa using hh
theorem td {l:List Nat} {k:Nat} (hh:l.elem k=true):k∈l:=by simpa using hh
theorem any_false {l ks:List Nat} (hh:(l.any fun k=>ks.elem k)=false) : ∀k∈l,k∉ks:=fun k hk=>by
 have:=List.any_eq_false.1 hh k hk
 simpa using this
theorem ahO {ks:List Nat} {S':Nat->Prop} {β':Nat->Option BI} {x:AV} (hm : ∀y u,(∀k∈du y,k∉ks)->RC w S β y u->RC w' S' β' y u) (hr:RC w S β x v):RC w' S' β' (dw ks x) v:=by
 unfold dw
 split
 .exact R0.rc (.bL hr.one)
 .rename_i hk
  refine hm x v (fun k hh=>any_false hk k ?_) hr
  cases x<;>first | exact hh | (simp[du,dk]at hh)
theorem ahP {ks:List Nat} {S':Nat->Prop} {β':Nat->Option BI} {x:AV} (hm : ∀y u,(∀k∈bK y,k∉ks)->RV w S β y u->RV w' S' β' y u) (hr:RV w S β x v):RV w' S' β' (dw ks x) v:=by
 unfold dw
 split
 .trivial
 .rename_i hk
  exact hm x v (any_false hk) hr
structure kE (B:Nat->Prop) (ks:List Nat) (w:World) (S:Nat->Prop) (β:Nat->Option BI) (w':World) (S':Nat->Prop) (β':Nat->Option BI):Prop where
 below:dW B w w'
 keep : ∀b,S b->w'.heap[b]? = w.heap[b]?
 sub : ∀b,S b->S' b
 news : ∀b,S' b->S b \/ ¬B b
 keys : ∀k x,k∉ks->β k=some x->β' k=some x
 dS : ∀k x,nN k->k∉ks->β' k=some x->β k=some x
theorem kE.rv {ks:List Nat} {S':Nat->Prop} {β':Nat->Option BI} (g:kE B ks w S β w' S' β') {y:AV} {u:Value} (hy : ∀k∈bK y,k∉ks) (hr:RV w S β y u):RV w' S' β' y u:=
 hr.mono g.keep g.sub fun k hk x hx=>g.keys k x (hy k hk) hx
theorem kE.rc {ks:List Nat} {S':Nat->Prop} {β':Nat->Option BI} (g:kE B ks w S β w' S' β') {y:AV} {u:Value} (hy : ∀k∈du y,k∉ks) (hr:RC w S β y u):RC w' S' β' y u:=
 hr.mono g.keep g.sub fun k hk x hx=>g.keys k x (hy k hk) hx
def Cw (P:Program) (E:Env) (B:Nat->Prop) (o:Oper) (a:Act) (w:World) (S:Nat->Prop) (β:Nat->Option BI) (h:Heap) (av:AV) (ws:Heap) (ks:List Nat):Prop:=
 ∀(K:Act->World->Prop) (Q:Exit->Act->World->Prop),
  (∀v w' S' β',Inv E B w' S' β' (iy (h.map fun p=>(p.1,p.2.kill ks)) ws)->kE B ks w S β w' S' β'->RV w' S' β' av v->K (a.put o.dst v) w')->o.wp P a w K Q
theorem fy.kill {ks:List Nat} {S':Nat->Prop} {β':Nat->Option BI} (g:kE B ks w S β w' S' β') {bl:ah} {x:BI} (hb:w'.heap[x.b]? = w.heap[x.b]?) (hk:fy w S β bl x):fy w' S' β' (bl.kill ks) x:=by
 obtain⟨cs,ty,c1,c2,c3,c4,c5,c6,c7,c8⟩:=hk
 unfold ah.kill
 split
 .rename_i hbx
  refine⟨cs,ty,by rw[hb];exact c1,c2,by simpa using c3,c4,c5,c6,c7,fun i row hi=>?_⟩
  simp only[dM,eZ]at hi
  obtain⟨row0,hi0,rfl⟩:=hi
  obtain⟨c9,c10⟩:=c8 i row0 hi0
  refine⟨by simpa using c9,fun q y0 hq=>?_⟩
  simp only[dM,eZ]at hq
  obtain⟨y1,hq1,rfl⟩:=hq
  obtain⟨v1,hv1,hr1⟩:=c10 q y1 hq1
  rw[hbx]at hr1
  exact⟨v1,hv1,by rw[hbx];simp only[if_true]at hr1 ⊢;exact ahO (fun y u hy hu=>g.rc hy hu) hr1⟩
 .rename_i hbx
  refine⟨cs,ty,by rw[hb];exact c1,c2,c3,c4,c5,c6,c7,fun i row hi=>?_⟩
  obtain⟨c9,c10⟩:=c8 i row hi
  refine⟨c9,fun q y0 hq=>?_⟩
  obtain⟨v1,hv1,hr1⟩:=c10 q y0 hq
  rw[hbx]at hr1
  exact⟨v1,hv1,by rw[hbx];simp only[ij,if_false]at hr1 ⊢;exact hr1.mono g.keep g.sub⟩
theorem Gi {ks:List Nat} {bl:ah} (hv:bl.rows=[]/\bl.box=false):(bl.kill ks).rows=[]/\(bl.kill ks).box=false:=by
 unfold ah.kill
 rw[hv.2]
 exact hv
theorem ahQ (inv:Inv E B w S β h) {j:Nat} (x:BI) (bl:ah) (hreal:x.real=true) (g:kE B [j] w S β w' S (gc β j x))
  (hold : ∀k y,k≠j->β k=some y->y.real=true->w'.heap[y.b]? = w.heap[y.b]?)
  (hnew:(∃y,β j=some y/\y.real=true/\x.b=y.b)\/w.heap.size<=x.b) (hlt:x.b<w'.heap.size) (hblk:fy w' S (gc β j x) bl x) :
  Inv E B w' S (gc β j x) (mG (h.map fun p=>(p.1,p.2.kill [j])) j bl):=by
 have hfar : ∀k y,k≠j->β k=some y->y.real=true->x.b≠y.b:=by
  intro k y hk hy hr e
  rcases hnew with ⟨y',h1,h2,h3⟩ | hge
  .exact hk (inv.inj k j y y' hy h1 hr h2 (by omega))
  .have:=(inv.new k y hy hr).2.1;omega
 have hsz:=g.below.size
 refine⟨fun b hb=>by have:=inv.base b hb;omega,fun b hb=>by have:=inv.lt b hb;omega,?_,?_,?_,?_,fun gl row hg=>(inv.dH gl row hg).mono g.keep fun _ h=>h⟩
 .intro k k' y y' h1 h2 r1 r2 e
  by_cases e1:k=j<;>by_cases e2:k'=j
  .rw[e1,e2]
  .subst e1;rw[fN]at h1;rw[e9 β _ e2]at h2;cases h1;exact absurd e (hfar k' y' e2 h2 r2)
  .subst e2;rw[fN]at h2;rw[e9 β _ e1]at h1;cases h2;exact absurd e.symm (hfar k y e1 h1 r1)
  .rw[e9 β _ e1]at h1;rw[e9 β _ e2]at h2;exact inv.inj k k' y y' h1 h2 r1 r2 e
 .intro k y h1 r1
  by_cases e1:k=j
  .subst e1
   rw[fN]at h1
   cases h1
   rcases hnew with ⟨y',h2,h3,h4⟩ | hge
   .obtain⟨n1,n2,n3⟩:=inv.new k y' h2 h3
    rw[h4];exact⟨n1,by omega,n3⟩
   .exact⟨fun hs=>by have:=inv.base _ hs;omega,hlt,fun hs=>by have:=inv.lt _ hs;omega⟩
  .rw[e9 β _ e1]at h1
   obtain⟨n1,n2,n3⟩:=inv.new k y h1 r1
   exact⟨n1,by omega,n3⟩
 .intro k y h1
  by_cases e1:k=j
  .subst e1
   rw[fN]at h1
   cases h1
   exact⟨bl,by rw[gu,if_pos rfl],fun _=>hblk,fun hf=>by rw[hreal]at hf;cases hf⟩
  .rw[e9 β _ e1]at h1
   obtain⟨b1,a1,a2,a3⟩:=inv.di k y h1
   exact⟨b1.kill [j],by rw[gu,if_neg e1,gf,a1];rfl,fun hr=>(a2 hr).kill g (hold k y e1 h1 hr),fun hr=>Gi (a3 hr)⟩
 .intro k b1 h1
  rw[gu]at h1
  by_cases e1:k=j
  .subst e1;exact⟨_,fN _ _ _⟩
  .rw[if_neg e1,gf]at h1
   cases hk:an h k with
   | none=>rw[hk]at h1;cases h1
   | some b2=>
    obtain⟨y,hy⟩:=inv.il k b2 hk
    exact⟨y,by rw[e9 β _ e1];exact hy⟩
end
end
end Go.Proofs.YtaobkfpnebbohaaGreatDoor.M
namespace Go.Proofs.YtaobkfpnebbohaaGreatDoor.M
open Go Go.RowKit
set_option linter.unusedVariables false
set_option linter.unusedSimpArgs false
section
variable {P : Program} {E : Env}
def dP:Nat->Option BI:=fun _=>none
theorem ahR {n:Nat} {B:Nat->Prop} {w w':World} (h:Below n w w') (hB : ∀b,B b->b<n):dW B w w':=⟨h.os,h.tape,h.output,h.size,fun k hk=>h.block k (hB k hk)⟩
theorem dW.below {n:Nat} {w w':World} (h:dW (fun b=>b<n) w w'):Below n w w':=⟨h.os,h.tape,h.output,h.size,h.block⟩
def dy (P:Program) (G:Nat->Option GR) (f:FuncId) (args:List AV) (r:AV) (H:Heap):Prop:=
 ∀(w:World) (S:Nat->Prop) (cargs:List Value),(∀b,S b->b<w.heap.size)->(∀g r,G g=some r->iJ w S g r)->RL (RV w S dP) args cargs ->
  Calls P f cargs.toArray w fun e w'=>∃v S' β',e = .returned v/\Below w.heap.size w w'/\(∀b,S b->S' b)/\(∀b,S' b->S b\/w.heap.size<=b) /\
   (∀b,S' b->b<w'.heap.size) /\
   (∀k k' x x',β' k=some x->β' k'=some x'->x.real=true->x'.real=true->x.b=x'.b->k=k') /\
   (∀k x,β' k=some x->x.real=true->w.heap.size<=x.b/\x.b<w'.heap.size /\ ¬S' x.b) /\
   (∀k x,β' k=some x -> ∃bl,an H k=some bl/\bl.box=false/\(x.real=true->fy w' S' dP bl x)/\(x.real=false->bl.rows=[])) /\
   (∀k bl,an H k=some bl -> ∃x,β' k=some x)/\RV w' S' β' r v
def je (w:World) (β:Nat->Option BI) (b:Nat):Prop:=b<w.heap.size /\ ¬ ∃k x,β k=some x/\x.real=true/\x.b=b
def lx (P:Program) (G:Nat->Option GR) (f:FuncId) (args:List AV) (hin:Heap) (r:AV) (hout:Heap) (mv:List Nat):Prop:=
 ∀(w:World) (S:Nat->Prop) (β:Nat->Option BI) (cargs:List Value),mO G (je w β) w S β hin->RL (RV w S β) args cargs ->
  Calls P f cargs.toArray w fun e w'=>∃v S' β',e = .returned v/\dW (je w β) w w'/\(∀b,S b->S' b)/\(∀b,S' b->S b \/ ¬je w β b) /\
   mO G (je w β) w' S' β' hout/\(∀k x,nN k->k∉mv->β' k=some x->β k=some x)/\RV w' S' β' r v
def qU:AV->Bool
 | .v _=>true
 | .bL=>true
 | _=>false
def wT:AV->Bool
 | .own _=>true
 | a=>qU a
def Cx:AV->Bool
 | .agg cs=>cs.all wT
 | a=>wT a
def qV:AV->Bool
 | .aF cs=>cs.all Cx
 | a=>Cx a
def qW (H:Heap):Bool:=H.all fun p=>p.2.rows.all fun r=>r.all qU
structure VX (P:Program) (E:Env):Prop where
 spec : ∀f args r H,(E.fn f args).val=some (r,H)->dy P E.dH f args r H
 flat : ∀f args r H,(E.fn f args).val=some (r,H)->E.flat f=true->qW H=true/\qV r=true
section
variable {B : Nat -> Prop} {o : Oper} {a : Act} {w w' : World} {S S' : Nat -> Prop} {β β' : Nat -> Option BI} {h : Heap} {av : AV} {v : Value}
theorem Ma {x:AV} (hf:wT x=true) (hr:RC w S β x v):RC w S' β x v:=by
 cases x<;>first | (simp[wT,qU]at hf;done) | skip
 .exact R0.rc (.bL hr.one)
 .cases(show R0 w S (.v _) v from hr)with | v h=>exact R0.rc (.v h)
 .exact hr
theorem Gj {x:AV} (hf:Cx x=true) (hr:RT w S β x v):RT w S' β x v:=by
 cases x
 case agg cs=>
  obtain⟨vs,h1,h2⟩:=hr
  exact⟨vs,h1,h2.imp fun b hb u hu=>Ma (bP.1 hf b hb) hu⟩
 case bL=>trivial
 case v y=>exact Ma (w:=w) (S:=S) (S':=S') (β:=β) (x:= .v y) hf hr
 case own k=>exact Ma (w:=w) (S:=S) (S':=S') (β:=β) (x:= .own k) hf hr
 all_goals (simp[Cx,wT,qU]at hf)
theorem ahS {x:AV} (hf:qV x=true) (hr:RV w S β x v):RV w S' β x v:=by
 cases x
 case aF cs=>
  obtain⟨vs,h1,h2⟩:=hr
  exact⟨vs,h1,h2.imp fun b hb u hu=>Gj (bP.1 hf b hb) hu⟩
 case agg cs=>exact Gj (w:=w) (S:=S) (S':=S') (β:=β) (x:= .agg cs) hf hr
 case bL=>trivial
 case v y=>exact Gj (w:=w) (S:=S) (S':=S') (β:=β) (x:= .v y) hf hr
 case own k=>exact Gj (w:=w) (S:=S) (S':=S') (β:=β) (x:= .own k) hf hr
 all_goals (simp[qV,Cx,wT,qU]at hf)
theorem VY {g:AV->AV} : ∀ {l:List AV},(∀y∈l,g y=y)->l.map g=l
 | [],_=>rfl
 | a::l,h=>by rw[gP,h a (by simp),VY fun y hy=>h y (by simp[hy])]
def qX (S:Nat->Prop) (β:Nat->Option BI):Nat->Prop:=fun b=>S b \/ ∃k x,β k=some x/\x.real=true/\x.b=b
theorem ahT (inv:Inv E B w S β h) {k:Nat} {bl:ah} (hbox:bl.box=false) (hk:an h k=some bl) (hv:RP w S β (.own k) v):R0 w (qX S β) (.sl bl.rows) v:=by
 obtain⟨X,hX,h1,h2⟩:=hv
 obtain⟨bl',hb,h3,h4⟩:=inv.di k X hX
 rw[hk]at hb
 cases hb
 cases hr:X.real
 .obtain⟨A,rfl⟩:=h2 hr
  rw[(h4 hr).1]
  exact R0.sl (rows:=[]) (size:=0) (b:=0) (off:=0) (vals:=fun _ _=> .nilFunc) (by simp) (by simp) (by simp) (by simp) (by simp) (by simp)
 .obtain⟨cs,ty,c1,c2,c3,c4,c5,c6,c7,c8⟩:=h3 hr
  rw[h1 hr,<-c3]
  refine R0.sl (size:=X.size) (b:=X.b) (off:=0) (vals:=fun i j=>(cs[i*X.size+j]?).getD .nilFunc) (by omega) c5 (fun _=>⟨rfl, .inr ⟨k,X,hX,hr,rfl⟩⟩) (fun i row hi=>(c8 i row hi).1) (fun i j row x hi hj=>?_) (fun i j row x hi hj=>?_)
  .obtain⟨u,hu,_⟩:=(c8 i row hi).2 j x hj
   simp[lW,c1,hu]
  .obtain⟨u,hu,hru⟩:=(c8 i row hi).2 j x hj
   rw[hbox]at hru
   simp only[hu,k7]
   exact R0.mono (fun _ _=>rfl) (fun b hb=> .inl hb) (by simpa using hru)
theorem VZ {S1:Nat->Prop} (hS : ∀b,S b->S1 b) {bl:ah} (hbox:bl.box=false) {X:BI} (hS1:X.real=true->S1 X.b) (hb:X.real=true->fy w S β bl X) {k lo n:Nat} {A:Option Addr} {c:Nat} (hc:n<=c) (hm:c<=9223372036854775807)
  (hn:n≠0->X.real=true/\A=some ⟨X.b,lo*X.size,none⟩/\lo+n<=X.len):R0 w S1 (.sl ((bl.rows.drop lo).take n)) (.slice A n c):=by
 by_cases h0:n=0
 .subst h0
  rw[List.take_zero]
  exact R0.sl (rows:=[]) (size:=0) (b:=0) (off:=0) (vals:=fun _ _=> .nilFunc) (by simp) hm (by simp) (by simp) (by simp) (by simp)
 .obtain⟨hr,rfl,hle⟩:=hn h0
  obtain⟨cs,ty,c1,c2,c3,c4,c5,c6,c7,c8⟩:=hb hr
  have hlen:((bl.rows.drop lo).take n).length=n:=by rw[eY,fe];omega
  have hat : ∀(i:Nat) (row:Row),((bl.rows.drop lo).take n)[i]? = some row->bl.rows[lo+i]? = some row:=by
   intro i row hi
   have hlt:i<n:=by have:=(cO.1 hi).1;omega
   rw[List.getElem?_take_of_lt hlt,sH]at hi
   exact hi
  conv=>arg 4;arg 2;rw[<-hlen]
  refine R0.sl (size:=X.size) (b:=X.b) (off:=lo*X.size) (vals:=fun i j=>(cs[(lo+i)*X.size+j]?).getD .nilFunc) (by omega) hm (fun _=>⟨rfl,hS1 hr⟩) (fun i row hi=>(c8 _ row (hat i row hi)).1) (fun i j row x hi hj=>?_) (fun i j row x hi hj=>?_)
  .obtain⟨u,hu,_⟩:=(c8 _ row (hat i row hi)).2 j x hj
   have e:lo*X.size+i*X.size+j=(lo+i)*X.size+j:=by rw[fB]
   simp[lW,c1,hu,e]
  .obtain⟨u,hu,hru⟩:=(c8 _ row (hat i row hi)).2 j x hj
   rw[hbox]at hru
   simp only[hu,k7]
   exact R0.mono (fun _ _=>rfl) hS (by simpa using hru)
theorem ahU (inv:Inv E B w S β h) {k lo n:Nat} {bl:ah} (hbox:bl.box=false) (hk:an h k=some bl) (hv:RP w S β (.win k lo n) v):R0 w (qX S β) (.sl ((bl.rows.drop lo).take n)) v:=by
 obtain⟨X,hX,A,c,rfl,hc,hm,hn⟩:=hv
 obtain⟨bl',hb,h3,h4⟩:=inv.di k X hX
 rw[hk]at hb
 cases hb
 exact VZ (k:=k) (fun b hb=> .inl hb) hbox (fun hr=> .inr ⟨k,X,hX,hr,rfl⟩) h3 hc hm hn
theorem ahV (inv:Inv E B w S β h) {k lo n:Nat} (hr:RP w S β (.win k lo n) v):R0 w (qX S β) (iz (an h) (.win k lo n)) v:=by
 have h1:=hr.one
 simp only[iz]
 split
 .rename_i bl hbl
  split
  .exact .bL h1
  .exact ahU inv ‹_› hbl hr
 .exact .bL h1
theorem ahW (inv:Inv E B w S β h) {k:Nat} (hr:RP w S β (.own k) v):R0 w (qX S β) (iz (an h) (.own k)) v:=by
 have h1:=hr.one
 simp only[iz]
 split
 .rename_i bl hbl
  split
  .exact .bL h1
  .exact ahT inv ‹_› hbl hr
 .exact .bL h1
def ow:AV->Bool
 | .own _=>true
 | .win _ _ _=>true
 | _=>false
theorem V0 (inv:Inv E B w S β h) {y:AV} (hy:ow y=true) (hr:RP w S β y v):R0 w (qX S β) (iz (an h) y) v:=by
 cases y<;>first | (simp[ow]at hy;done) | exact ahW inv hr | exact ahV inv hr
structure oG (w:World) (S:Nat->Prop) (β:Nat->Option BI) (hg:Nat->Option ah) (S1:Nat->Prop) (ks:List Nat):Prop where
 own : ∀y u,ow y=true->(∀k∈dk y,k∈ks)->RP w S β y u->R0 w S1 (iz hg y) u
 ptr : ∀k i off u,k∈ks->RP w S β (.ptr k i off) u->RP w S1 dP (mH hg (.ptr k i off)) u
theorem oG.sub {w:World} {S:Nat->Prop} {β:Nat->Option BI} {hg:Nat->Option ah} {S1:Nat->Prop} {ks ks':List Nat} (hs:oG w S β hg S1 ks) (hk : ∀k∈ks',k∈ks):oG w S β hg S1 ks':=
 ⟨fun y u hy h=>hs.own y u hy (fun k hkk=>hk k (h k hkk)),fun k i off u h=>hs.ptr k i off u (hk k h)⟩
variable {hg : Nat -> Option ah} {S1 : Nat -> Prop}
theorem V1 (hS : ∀b,S b->S1 b) {x:AV} (hown : ∀y u,ow y=true->(∀k∈dk y,k∈du x)->RP w S β y u->R0 w S1 (iz hg y) u) (hr:RC w S β x v):R0 w S1 (iz hg x) v:=by
 have h1:=hr.one
 cases x
 case own k=>exact hown (.own k) v rfl (by simp[du,dk]) hr
 case win k lo n=>exact hown (.win k lo n) v rfl (by simp[du,dk]) hr
 case e0=>
  obtain⟨A,rfl⟩:=hr
  exact R0.sl (rows:=[]) (size:=0) (b:=0) (off:=0) (vals:=fun _ _=> .nilFunc) (by simp) (by simp) (by simp) (by simp) (by simp) (by simp)
 case v y=>exact R0.mono (fun _ _=>rfl) hS (show R0 w S (.v y) v from hr)
 case sl rows=>exact R0.mono (fun _ _=>rfl) hS (show R0 w S (.sl rows) v from hr)
 case nz b rows=>exact R0.mono (fun _ _=>rfl) hS hr.1
 case fn f cs=>
  obtain⟨vs,rfl,h2⟩:=hr
  cases cs
  .cases vs
   .exact .fn f
   .exact h2.elim
  .exact .bL rfl
 all_goals exact .bL h1
theorem V2 (hS : ∀b,S b->S1 b) {x:AV} (hown:oG w S β hg S1 (dk x)) (hr:RP w S β x v):RP w S1 dP (mH hg x) v:=by
 cases x
 case ptr k i off=>exact hown.ptr k i off v (by simp[dk]) hr
 case bD row off=>
  obtain⟨b,o,h1,h2⟩:=hr
  exact⟨b,o,h1,h2.mono (fun _ _=>rfl) hS⟩
 case fn f cs=>
  cases(show R0 w S (.fn f cs) v from hr)with
  | fn=>exact R0.rp (.fn f)
 case own k=>exact R0.rp (hown.own (.own k) v rfl (by simp[dk]) hr)
 case win k lo n=>exact R0.rp (hown.own (.win k lo n) v rfl (by simp[dk]) hr)
 all_goals
  have hr':=hr
  rw[<-nM (by simp)]at hr'
  refine R0.rp (V1 (hg:=hg) hS (fun y u hy hk=>?_) hr')
  exfalso
  cases y<;>simp[ow,du,dk]at hy hk
theorem V3 (hS : ∀b,S b->S1 b) {x:AV} (hown:oG w S β hg S1 (du x)) (hr:RC w S β x v):RC w S1 dP (ov hg x) v:=by
 by_cases hn : ∃f cs,x = .fn f cs
 .obtain⟨f,cs,rfl⟩:=hn
  obtain⟨vs,h1,h2⟩:=hr
  exact⟨vs,h1,h2.map fun b hb u hu=>V2 hS (hown.sub fun k hk=>by simp only[du,eF];exact⟨b,hb,hk⟩) hu⟩
 .have hn' : ∀f cs,x ≠ .fn f cs:=fun f cs e=>hn ⟨f,cs,e⟩
  rw[nM hn']at hr
  rw[F3 hn']at hown
  have hv:ov hg x=mH hg x:=by cases x<;>first | rfl | exact absurd rfl (hn' _ _)
  have hv2 : ∀f cs,mH hg x ≠ .fn f cs:=by
   intro f cs e
   cases x<;>simp only[mH]at e
   case fn=>exact hn' _ _ rfl
   case ptr k i off=>
    split at e
    .split at e
     .split at e<;>cases e
     .cases e
    .cases e
   case bD=>cases e
   case own k=>
    simp only[iz]at e
    split at e
    .split at e<;>cases e
    .cases e
   case win k lo n=>
    simp only[iz]at e
    split at e
    .split at e<;>cases e
    .cases e
   all_goals (simp[iz]at e)
  rw[hv,nM hv2]
  exact V2 hS hown hr
theorem V4 (hS : ∀b,S b->S1 b) {x:AV} (hown:oG w S β hg S1 (e8 x)) (hr:RT w S β x v):RT w S1 dP (oy hg x) v:=by
 by_cases hn : ∃cs,x = .agg cs
 .obtain⟨cs,rfl⟩:=hn
  obtain⟨vs,h1,h2⟩:=hr
  exact⟨vs,h1,h2.map fun b hb u hu=>V3 hS (hown.sub fun k hk=>by simp only[e8,eF];exact⟨b,hb,hk⟩) hu⟩
 .by_cases hu:x = .bL
  .subst hu;trivial
  .have hn' : ∀cs,x ≠ .agg cs:=fun cs e=>hn ⟨cs,e⟩
   rw[wL hn' hu]at hr
   rw[Cm hn']at hown
   have hv:oy hg x=ov hg x:=by cases x<;>first | rfl | exact absurd rfl (hn' _)
   rw[hv]
   exact(V3 hS hown hr).rt
theorem V5 (hS : ∀b,S b->S1 b) {x:AV} (hown:oG w S β hg S1 (bK x)) (hr:RV w S β x v):RV w S1 dP (oz hg x) v:=by
 by_cases hn : ∃cs,x = .aF cs
 .obtain⟨cs,rfl⟩:=hn
  obtain⟨vs,h1,h2⟩:=hr
  exact⟨vs,h1,h2.map fun b hb u hu=>V4 hS (hown.sub fun k hk=>by simp only[bK,eF];exact⟨b,hb,hk⟩) hu⟩
 .by_cases hu : ∃j b want y,x = .gd j b want y
  .obtain⟨j,b,want,y,rfl⟩:=hu
   trivial
  .have hn' : ∀cs,x ≠ .aF cs:=fun cs e=>hn ⟨cs,e⟩
   have hu' : ∀j b w y,x ≠ .gd j b w y:=fun j b w y e=>hu ⟨j,b,w,y,e⟩
   rw[s7 hn' hu']at hr
   rw[wM hn' hu']at hown
   have hv:oz hg x=oy hg x:=by cases x<;>first | rfl | exact absurd rfl (hn' _)
   rw[hv]
   exact RT.rv (V4 hS hown hr)
theorem V6 (inv:Inv E B w S β h) (ks:List Nat):oG w S β (an h) (qX S β) ks:=by
 refine⟨fun y u hy _ hr=>V0 inv hy hr,fun k i off u _ hr=>?_⟩
 have h1:=hr.one
 obtain⟨x,hx,hre,rfl⟩:=hr
 obtain⟨bl,b1,b2,_⟩:=inv.di k x hx
 obtain⟨cs,ty,c1,c2,c3,c4,c5,c6,c7,c8⟩:=b2 hre
 simp only[mH,b1]
 split
 .rename_i hbx
  split
  .rename_i row hrow
   refine⟨x.b,i*x.size,rfl, .inr ⟨k,x,hx,hre,rfl⟩,fun j a ha=>?_⟩
   simp only[dM,eZ]at ha
   obtain⟨a0,ha0,rfl⟩:=ha
   obtain⟨u,hu,hru⟩:=(c8 i row hrow).2 j a0 ha0
   rw[hbx]at hru
   refine⟨u,by simp[lW,c1,hu],?_⟩
   exact V1 (fun b hb=> .inl hb) (fun y' u' hy' _ hr'=>V0 inv hy' hr') (by simpa using hru)
  .exact R0.rp (.bL h1)
 .exact R0.rp (.bL h1)
theorem ahX {w:World} {S:Nat->Prop} {β:Nat->Option BI} {hg:Nat->Option ah} {S1:Nat->Prop}:oG w S β hg S1 []:=⟨fun y u hy hk=>by exfalso;cases y<;>simp[ow,dk]at hy hk,fun k i off u hk=>by simp at hk⟩
theorem V7 {x:AV} {f:Nat->Nat} (hβ : ∀k∈dk x,∀y,β' k=some y->β (f k)=some y) (hr:RP w S β' x v):RP w S β (v8 f x) v:=by
 cases x
 case own k=>obtain⟨y,h1,h2⟩:=hr;exact⟨y,hβ k (by simp[dk]) y h1,h2⟩
 case win k lo n=>obtain⟨y,h1,h2⟩:=hr;exact⟨y,hβ k (by simp[dk]) y h1,h2⟩
 case ptr k i o=>obtain⟨y,h1,h2⟩:=hr;exact⟨y,hβ k (by simp[dk]) y h1,h2⟩
 all_goals exact hr
theorem Mb {x:AV} {f:Nat->Nat} (hβ : ∀k∈du x,∀y,β' k=some y->β (f k)=some y) (hr:RC w S β' x v):RC w S β (wc f x) v:=by
 by_cases hn : ∃g cs,x = .fn g cs
 .obtain⟨g,cs,rfl⟩:=hn
  obtain⟨vs,h1,h2⟩:=hr
  exact⟨vs,h1,h2.map fun b hb u hu=>V7 (fun k hk=>hβ k (by simp only[du,eF];exact⟨b,hb,hk⟩)) hu⟩
 .have hn' : ∀g cs,x ≠ .fn g cs:=fun g cs e=>hn ⟨g,cs,e⟩
  rw[nM hn']at hr
  rw[F3 hn']at hβ
  have hv:wc f x=v8 f x:=by cases x<;>first | rfl | exact absurd rfl (hn' _ _)
  have hv2 : ∀g cs,v8 f x ≠ .fn g cs:=by
   intro g cs e
   cases x<;>first | (simp[v8]at e;done) | (exact hn' _ _ rfl)
  rw[hv,nM hv2]
  exact V7 hβ hr
theorem Mc {x:AV} {f:Nat->Nat} (hβ : ∀k∈e8 x,∀y,β' k=some y->β (f k)=some y) (hr:RT w S β' x v):RT w S β (we f x) v:=by
 by_cases hn : ∃cs,x = .agg cs
 .obtain⟨cs,rfl⟩:=hn
  obtain⟨vs,h1,h2⟩:=hr
  exact⟨vs,h1,h2.map fun b hb u hu=>Mb (fun k hk=>hβ k (by simp only[e8,eF];exact⟨b,hb,hk⟩)) hu⟩
 .have hn' : ∀cs,x ≠ .agg cs:=fun cs e=>hn ⟨cs,e⟩
  by_cases hu:x = .bL
  .subst hu;trivial
  .rw[wL hn' hu]at hr
   rw[Cm hn']at hβ
   have hv:we f x=wc f x:=by cases x<;>first | rfl | exact absurd rfl (hn' _)
   rw[hv]
   exact(Mb hβ hr).rt
theorem Cy {x:AV} {f:Nat->Nat} (hβ : ∀k∈bK x,∀y,β' k=some y->β (f k)=some y) (hr:RV w S β' x v):RV w S β (wg f x) v:=by
 by_cases hn : ∃cs,x = .aF cs
 .obtain⟨cs,rfl⟩:=hn
  obtain⟨vs,h1,h2⟩:=hr
  exact⟨vs,h1,h2.map fun b hb u hu=>Mc (fun k hk=>hβ k (by simp only[bK,eF];exact⟨b,hb,hk⟩)) hu⟩
 .have hn' : ∀cs,x ≠ .aF cs:=fun cs e=>hn ⟨cs,e⟩
  by_cases hg : ∃j b want y,x = .gd j b want y
  .obtain⟨j,b,want,y,rfl⟩:=hg
   exact⟨fun hb=>Mc hβ (hr.1 hb),hr.2⟩
  .have hu' : ∀j b w y,x ≠ .gd j b w y:=fun j b w y e=>hg ⟨j,b,w,y,e⟩
   rw[s7 hn' hu']at hr
   rw[wM hn' hu']at hβ
   have hv:wg f x=we f x:=by cases x<;>first | rfl | exact absurd rfl (hn' _) | exact absurd rfl (hu' _ _ _ _)
   rw[hv]
   exact RT.rv (Mc hβ hr)
theorem Cz {α:Type} : ∀(ws m:List (Nat×α)) (k:Nat),an (iy m ws) k=(an ws.reverse k).or (an m k)
 | [],m,k=>rfl
 | (j,x)::r,m,k=>by
  rw[iy,Cz r,gu,K5]
  have : ∀(l:List (Nat×α)),an (l++[(j,x)]) k=(an l k).or (if k=j then some x else none):=by
   intro l
   induction l with
   | nil=>
    simp only[eh,an]
    cases hb:bk k j
    .rw[if_neg (beq_false.1 hb)];rfl
    .rw[if_pos (beq_true.1 hb)];rfl
   | cons p r ih=>obtain⟨i,y⟩:=p;simp only[k6,an];split<;>simp_all
  rw[this]
  by_cases e:k=j
  .subst e;simp only[if_true];cases an r.reverse k<;>rfl
  .simp only[e,if_false,Option.or_none]
theorem CA {α:Type} : ∀ {m:List (Nat×α)} {k:Nat},k∉m.map (·.1)->an m k=none
 | [],k,_=>rfl
 | (j,x)::r,k,h=>by
  simp only[gP,cK,not_or]at h
  simp only[an]
  rw[beq_false.2 h.1]
  exact CA h.2
theorem ahY {α:Type} (l m:List (Nat×α)) (k:Nat):an (l++m) k=(an l k).or (an m k):=by
 induction l with
 | nil=>rfl
 | cons p r ih=>obtain⟨i,y⟩:=p;simp only[k6,an];split<;>simp_all
theorem V8 {p:Nat×ah} {r:Heap} (h:l8 (p::r)=true):p.1∉r.map (·.1)/\l8 r=true:=by
 simp only[l8]at h
 split at h
 .cases h
 .exact⟨L9 ‹_›,h⟩
theorem Md : ∀ {m:Heap},l8 m=true -> ∀k,an m.reverse k=an m k
 | [],_,k=>rfl
 | (j,x)::r,h,k=>by
  obtain⟨h1,h2⟩:=V8 h
  rw[K5,ahY,Md h2]
  by_cases e:k=j
  .subst e
   rw[CA h1]
   simp only[an]
   rw[beq_true.2 rfl]
   rfl
  .simp only[an]
   rw[beq_false.2 e]
   cases an r k<;>rfl
theorem V9 {m:Heap} (d k:Nat):an (m.map fun q=>(cz d q.1,q.2)) (cz d k)=an m k:=by
 induction m with
 | nil=>rfl
 | cons p r ih=>
  obtain⟨j,x⟩:=p
  simp only[gP,an]
  by_cases e:k=j
  .subst e;rw[beq_true.2 rfl,beq_true.2 rfl]
  .rw[beq_false.2 e,beq_false.2 (by simp only[cz];omega)];exact ih
theorem Wa (d:Nat) : ∀ {m:Heap},l8 m=true->l8 (m.map fun q=>(cz d q.1,q.2))=true
 | [],_=>rfl
 | p::r,h=>by
  obtain⟨h1,h2⟩:=V8 h
  simp only[gP,l8]
  have:((r.map fun q=>(cz d q.1,q.2)).map (·.1)).elem (cz d p.1)=false:=by
   rw[<-BR]
   intro hh
   have hh:=td hh
   simp only[K2,eQ,Function.comp]at hh
   obtain⟨q,hq,e⟩:=hh
   have:q.1=p.1:=by simp only[cz]at e;omega
   exact h1 (by rw[<-this];exact BX hq)
  rw[this]
  exact Wa d h2
theorem Me {hg:Nat->Option ah} {d:Nat} : ∀ {H:Heap},qH hg d H=true -> ∀p∈H,hg (cz d p.1)=none/\p.1<4
 | p::r,h,q,hq=>by
  simp only[qH]at h
  split at h
  .rename_i h4
   split at h
   .rename_i hn
    rcases cK.1 hq with rfl | hq
    .exact⟨hn,by simpa using h4⟩
    .exact Me h q hq
   .cases h
  .cases h
 | [],_,q,hq=>by simp at hq
theorem jf {α:Type} : ∀ {m:List (Nat×α)} {k:Nat} {x:α},an m k=some x->(k,x)∈m
 | (j,y)::r,k,x,h=>by
  simp only[an]at h
  split at h
  .rename_i hb
   cases h
   rw[beq_true.1 hb];simp
  .exact List.mem_cons_of_mem _ (jf h)
theorem kG : ∀ {ks:List Nat} {k:Nat},k∈ks->ks[ik ks k]? = some k
 | j::r,k,h=>by
  simp only[ik]
  split
  .rename_i hb;rw[beq_true.1 hb];rfl
  .rename_i hb
   rcases cK.1 h with rfl | h
   .exact absurd rfl (beq_false.1 hb)
   .simpa using kG h
theorem CB : ∀ {ks:List Nat},nodupB ks=true->ks.Nodup
 | [],_=>List.nodup_nil
 | j::r,h=>by
  simp only[nodupB]at h
  split at h
  .cases h
  .exact BY.2 ⟨L9 ‹_›,CB h⟩
theorem CC : ∀ {l:List Nat},l.Nodup -> ∀ {i j:Nat} (hi:i<l.length) (hj:j<l.length),l[i]=l[j]->i=j
 | a::l,hn,0,0,_,_,_=>rfl
 | a::l,hn,0,j+1,hi,hj,e=>by
  have:=(BY.1 hn).1
  simp at e
  exact absurd (e▸iZ _) this
 | a::l,hn,i+1,0,hi,hj,e=>by
  have:=(BY.1 hn).1
  simp at e
  exact absurd (e▸iZ _) this
 | a::l,hn,i+1,j+1,hi,hj,e=>by
  have:=CC (BY.1 hn).2 (i:=i) (j:=j) (by simpa using hi) (by simpa using hj) (by simpa using e)
  omega
def pt (P : Program) (f : FuncId) : Prop := ∃ fn, P.funcs[f]? = some fn /\ (fn.name == "runtime.NumGoroutine") = false /\ fn.body.isNone = false
theorem Wb {f:FuncId} (hh:pt P f) {c:Call} {fo:Operand} (ho:o.op = .call c) (hc:c.callee = .value fo) {caps:List Value} (hf:a.eval fo = .func (.func f) #[] caps.toArray) :
  (execOp a.eval o).run P w = .ok (.enter f ((c.args.toList.map a.eval)++caps).toArray) w:=by
 obtain⟨fn,h1,h2,h3⟩:=hh
 have e:c.args.map a.eval++caps.toArray=((c.args.toList.map a.eval)++caps).toArray:=by apply vE;simp
 simp only[execOp,ho,resolve,hc,hf,Deferred.ofValue,lX,oj,kZ,invoke,callFunc,program,KW,h1,h2,h3,ij,if_false,Array.empty_append,e]
theorem Gk (inv:Inv E B w S β h) {S':Nat->Prop} {β':Nat->Option BI} {H:Heap} {d:Nat} (hbelow:Below w.heap.size w w') (hsub : ∀b,S b->S' b) (hnews : ∀b,S' b->S b\/w.heap.size<=b)
  (hlt : ∀b,S' b->b<w'.heap.size) (hinj : ∀k k' x x',β' k=some x->β' k'=some x'->x.real=true->x'.real=true->x.b=x'.b->k=k')
  (hnew : ∀k x,β' k=some x->x.real=true->w.heap.size<=x.b/\x.b<w'.heap.size /\ ¬S' x.b)
  (hdom : ∀k x,β' k=some x -> ∃bl,an H k=some bl/\bl.box=false/\(x.real=true->fy w' S' dP bl x)/\(x.real=false->bl.rows=[]))
  (hcov : ∀k bl,an H k=some bl -> ∃x,β' k=some x) (hfr:qH (an h) d H=true) (hnd:l8 H=true) :
  ∃β2,Inv E B w' S' β2 (iy h (H.map fun q=>(cz d q.1,q.2)))/\Gr B w S β w' S' β2 /\ ∀k x,β' k=some x->β2 (cz d k)=some x:=by
 have hrel : ∀k x,β' k=some x->β (cz d k)=none /\ ∃bl,an H k=some bl:=by
  intro k x hx
  obtain⟨bl,h1,_⟩:=hdom k x hx
  obtain⟨h2,_⟩:=Me hfr (k,bl) (jf h1)
  exact⟨inv.fresh h2,bl,h1⟩
 let β2:Nat->Option BI:=fun k=>match β k with
  | some x=>some x
  | none=>if cz d 0<=k then β' (k - cz d 0) else none
 have b2 : ∀k x,β k=some x->β2 k=some x:=fun k x hx=>by simp only[β2,hx]
 have b3 : ∀k x,β' k=some x->β2 (cz d k)=some x:=fun k x hx=>by
  simp only[β2,(hrel k x hx).1]
  rw[if_pos (by simp only[cz];omega)]
  have:cz d k - cz d 0=k:=by simp only[cz];omega
  rw[this];exact hx
 have b4 : ∀k x,β2 k=some x->β k=some x \/ ∃j,k=cz d j/\β' j=some x:=by
  intro k x hx
  simp only[β2]at hx
  split at hx
  .rename_i y hy;cases hx;exact .inl hy
  .split at hx
   .rename_i hge
    exact .inr ⟨k - cz d 0,by simp only[cz]at hge ⊢;omega,hx⟩
   .cases hx
 have g:Gr B w S β w' S' β2:=⟨ahR hbelow inv.base,fun b hb=>hbelow.block b (inv.lt b hb),hsub,fun b hb=>(hnews b hb).imp id (fun h hb=>by have:=inv.base b hb;omega),b2,fun k x hi hx=>(b4 k x hx).resolve_right (by rintro⟨j,rfl,_⟩;have:=hi.2;simp only[cz]at this;omega)⟩
 have hmg : ∀k,an (iy h (H.map fun q=>(cz d q.1,q.2))) k=(an (H.map fun q=>(cz d q.1,q.2)) k).or (an h k):=by
  intro k
  rw[Cz,Md (Wa d hnd)]
 have hsz:=hbelow.size
 refine⟨β2,⟨fun b hb=>by have:=inv.base b hb;omega,hlt,?_,?_,?_,?_,fun gl row hg=>(inv.dH gl row hg).mono g.keep g.sub⟩,g,b3⟩
 .intro k k' x x' h1 h2 r1 r2 e
  rcases b4 k x h1 with p1 | ⟨j,rfl,p1⟩<;>rcases b4 k' x' h2 with p2 | ⟨j',rfl,p2⟩
  .exact inv.inj k k' x x' p1 p2 r1 r2 e
  .have n1:=(inv.new k x p1 r1).2.1;have n2:=(hnew j' x' p2 r2).1;omega
  .have n1:=(inv.new k' x' p2 r2).2.1;have n2:=(hnew j x p1 r1).1;omega
  .rw[hinj j j' x x' p1 p2 r1 r2 e]
 .intro k x h1 r1
  rcases b4 k x h1 with p1 | ⟨j,rfl,p1⟩
  .obtain⟨n1,n2,n3⟩:=inv.new k x p1 r1
   exact⟨n1,by omega,fun hs=>(hnews _ hs).elim n3 (fun h=>by omega)⟩
  .obtain⟨n1,n2,n3⟩:=hnew j x p1 r1
   exact⟨fun hs=>by have:=inv.base _ hs;omega,n2,n3⟩
 .intro k x h1
  rcases b4 k x h1 with p1 | ⟨j,rfl,p1⟩
  .obtain⟨bl,a1,a2,a3⟩:=inv.di k x p1
   refine⟨bl,?_,fun hr=>(a2 hr).go g (hbelow.block _ (inv.new k x p1 hr).2.1),a3⟩
   rw[hmg]
   have:an (H.map fun q=>(cz d q.1,q.2)) k=none:=by
    cases hk:an (H.map fun q=>(cz d q.1,q.2)) k with
    | none=>rfl
    | some y=>
     have hm:=jf hk
     simp only[eQ]at hm
     obtain⟨q,hq,e⟩:=hm
     have:=(Me hfr q hq).1
     rw[show cz d q.1=k from congrArg K6 e,a1]at this
     cases this
   rw[this]
   exact a1
  .obtain⟨bl,a1,a2,a3,a4⟩:=hdom j x p1
   refine⟨bl,by rw[hmg,V9,a1];rfl,fun hr=>?_,fun hr=>⟨a4 hr,a2⟩⟩
   obtain⟨cs,ty,c1,c2,c3,c4,c5,c6,c7,c8⟩:=a3 hr
   refine⟨cs,ty,c1,c2,c3,c4,c5,c6,c7,fun i row hi=>⟨(c8 i row hi).1,fun q y hy=>?_⟩⟩
   obtain⟨u,hu,hru⟩:=(c8 i row hi).2 q y hy
   rw[a2]at hru
   exact⟨u,hu,by rw[a2];simpa using hru⟩
 .intro k bl h1
  rw[hmg]at h1
  cases hy:an (H.map fun q=>(cz d q.1,q.2)) k with
  | some y=>
   have hm:=jf hy
   simp only[eQ]at hm
   obtain⟨q,hq,e⟩:=hm
   have e1:cz d q.1=k:=congrArg K6 e
   rw[<-e1,V9]at hy
   obtain⟨x,hx⟩:=hcov q.1 y hy
   exact⟨x,by rw[<-e1];exact b3 q.1 x hx⟩
  | none=>
   rw[hy]at h1
   obtain⟨x,hx⟩:=inv.il k bl h1
   exact⟨x,b2 k x hx⟩
theorem ahZ (hF:VX P E) (hH : ∀f args r H,(E.fn f args).val=some (r,H)->pt P f) (inv:Inv E B w S β h) {c:Call} {fo:Operand} (ho:o.op = .call c) (hc:c.callee = .value fo) {f:FuncId} {caps:List AV} (hf:RV w S β (.fn f caps) (a.eval fo))
  {uargs:List AV} (hargs:RL (RV w S β) uargs (c.args.toList.map a.eval)) {p:AV×Heap} (hp:(FV E (an h) o.dst f (uargs++caps)).val=some p):kD P E B o a w S β h p.1 p.2:=by
 obtain⟨cvs,hfv,hcaps⟩:=(show RC w S β (.fn f caps) (a.eval fo) from hf)
 have hall:RL (RV w S β) (uargs++caps) (c.args.toList.map a.eval++cvs):=hargs.append (hcaps.imp fun b hb u hu=>by
  by_cases hn : ∃g cs,b = .fn g cs
  .obtain⟨g,cs,rfl⟩:=hn
   cases(show R0 w S (.fn g cs) u from hu)with | fn=>exact⟨[],rfl,trivial⟩
  .exact RT.rv (RC.rt (by rw[nM (fun g cs e=>hn ⟨g,cs,e⟩)];exact hu)))
 unfold FV at hp
 split at hp
 .rename_i hcond
  simp only[T.bind_some]at hp
  obtain⟨⟨r,H⟩,hE,hp⟩:=hp
  have hrun:=Wb (P:=P) (w:=w) (hH f _ r H hE) ho hc hfv
  have hspec:=hF.spec f _ r H hE
  have main : ∀S1:Nat->Prop,(∀b,S b->S1 b)->(∀b,S1 b->b<w.heap.size)->(∀x∈uargs++caps,oG w S β (an h) S1 (bK x)) ->
    Calls P f ((c.args.toList.map a.eval)++cvs).toArray w fun e w'=>∃v S' β',e = .returned v/\Below w.heap.size w w'/\(∀b,S1 b->S' b)/\(∀b,S' b->S1 b\/w.heap.size<=b) /\
   (∀b,S' b->b<w'.heap.size) /\
   (∀k k' x x',β' k=some x->β' k'=some x'->x.real=true->x'.real=true->x.b=x'.b->k=k') /\
   (∀k x,β' k=some x->x.real=true->w.heap.size<=x.b/\x.b<w'.heap.size /\ ¬S' x.b) /\
   (∀k x,β' k=some x -> ∃bl,an H k=some bl/\bl.box=false/\(x.real=true->fy w' S' dP bl x)/\(x.real=false->bl.rows=[])) /\
   (∀k bl,an H k=some bl -> ∃x,β' k=some x)/\RV w' S' β' r v:=by
   intro S1 h1 h2 h3
   exact hspec w S1 _ h2 (fun g row hg=>(inv.dH g row hg).mono (fun _ _=>rfl) h1) (hall.map fun b hb u hu=>V5 h1 (h3 b hb) hu)
  intro K Q hK
  unfold ol
  rw[hrun,Oper.upon_enter]
  by_cases hfl:E.flat f=true
  .obtain⟨hfH,hflat⟩:=hF.flat f _ r H hE hfl
   refine(main (qX S β) (fun b hb=> .inl hb) (fun b hb=>?_) (fun x _=>V6 inv _)).mono ?_
   .rcases hb with hb | ⟨k,x,h1,h2,rfl⟩
    .exact inv.lt b hb
    .exact(inv.new k x h1 h2).2.1
   .rintro e w' ⟨v,S',β',rfl,hbel,h1,h2,h3,h4,h5,h6,h7,hrv⟩
    let S2:Nat->Prop:=fun b=>S b\/(S' b/\w.heap.size<=b)
    have g1 : ∀b,S b->S2 b:=fun b hb=> .inl hb
    have g2 : ∀b,S2 b->S b\/w.heap.size<=b:=fun b hb=>hb.imp id (fun h=>h.2)
    have g3 : ∀b,S2 b->b<w'.heap.size:=fun b hb=>hb.elim (fun h=>Nat.lt_of_lt_of_le (inv.lt b h) hbel.size) (fun h=>h3 b h.1)
    have g5 : ∀k x,β' k=some x->x.real=true->w.heap.size<=x.b/\x.b<w'.heap.size /\ ¬S2 x.b:=fun k x hx hr=>by
     obtain⟨q1,q2,q3⟩:=h5 k x hx hr
     refine⟨q1,q2,fun hs=>hs.elim (fun h=>?_) (fun h=>q3 h.1)⟩
     have:=inv.lt _ h;omega
    have g6 : ∀k x,β' k=some x -> ∃bl,an H k=some bl/\bl.box=false/\(x.real=true->fy w' S2 dP bl x)/\(x.real=false->bl.rows=[]):=fun k x hx=>by
     obtain⟨bl,q1,q2,q3,q4⟩:=h6 k x hx
     refine⟨bl,q1,q2,fun hr=>?_,q4⟩
     obtain⟨cs,ty,c1,c2,c3,c4,c5,c6,c7,c8⟩:=q3 hr
     refine⟨cs,ty,c1,c2,c3,c4,c5,c6,c7,fun i row hi=>⟨(c8 i row hi).1,fun q y hy=>?_⟩⟩
     obtain⟨u,hu,hru⟩:=(c8 i row hi).2 q y hy
     refine⟨u,hu,?_⟩
     rw[q2]at hru ⊢
     have hfl0:qU y=true:=by
      have a1:=bP.1 hfH _ (jf q1)
      have a2:=bP.1 a1 row (cL hi)
      exact bP.1 a2 y (cL hy)
     simp only[ij,if_false]at hru ⊢
     cases y<;>first | (simp[qU]at hfl0;done) | skip
     .exact .bL hru.one
     .cases hru with | v h=>exact .v h
    have hrv':RV w' S2 β' r v:=ahS hflat hrv
    split at hp
    .rename_i d _
     split at hp
     .rename_i hck
      simp only[aG]at hck
      obtain⟨⟨k1,k2⟩,k3⟩:=hck
      rw[T.bw]at hp
      subst hp
      obtain⟨β2,i1,gg,b3⟩:=Gk (d:=d) inv hbel g1 g2 g3 h4 g5 g6 h7 k2 k3
      exact hK v w' S2 β2 i1 gg (Cy (fun k _=>b3 k) hrv')
     .rw[T.aO]at hp;exact hp.elim
    .rw[T.bw]at hp
     subst hp
     obtain⟨β2,i1,gg,_⟩:=Gk (β':=dP) (S':=S2) (H:=[]) (d:=0) inv hbel g1 g2 g3 (fun _ _ _ _ h=>by cases h) (fun _ _ h=>by cases h) (fun _ _ h=>by cases h) (fun _ _ h=>by cases h) rfl rfl
     exact hK v w' S2 β2 i1 gg trivial
  .have hno:Vn (uargs++caps)=true:=by simpa[hfl]using hcond
   have hno' : ∀x∈uargs++caps,bK x=[]:=fun x hx=>by
    have:=bP.1 hno x hx
    split at this
    .assumption
    .cases this
   refine(main S (fun _ h=>h) inv.lt (fun x hx=>by rw[hno' x hx];exact ahX)).mono ?_
   rintro e w' ⟨v,S',β',rfl,hbel,h1,h2,h3,h4,h5,h6,h7,hrv⟩
   split at hp
   .rename_i d _
    split at hp
    .rename_i hck
     simp only[aG]at hck
     obtain⟨⟨k1,k2⟩,k3⟩:=hck
     rw[T.bw]at hp
     subst hp
     obtain⟨β2,i1,g1,b3⟩:=Gk (d:=d) inv hbel h1 h2 h3 h4 h5 h6 h7 k2 k3
     exact hK v w' S' β2 i1 g1 (Cy (fun k _=>b3 k) hrv)
    .rw[T.aO]at hp;exact hp.elim
   .rw[T.bw]at hp
    subst hp
    obtain⟨β2,i1,g1,_⟩:=Gk (β':=dP) (S':=S') (H:=[]) (d:=0) inv hbel h1 h2 h3 (fun _ _ _ _ h=>by cases h) (fun _ _ h=>by cases h) (fun _ _ h=>by cases h) (fun _ _ h=>by cases h) rfl rfl
    exact hK v w' S' β2 i1 g1 trivial
 .rw[T.aO]at hp;exact hp.elim
end
end
section
variable {P : Program} {E : Env}
structure aZ (P:Program) (E:Env):Prop where
 ty:fG P E
 fn:VX P E
 here : ∀f args r H,(E.fn f args).val=some (r,H)->pt P f
 ah6 : ∀f args hin r hout mv,(E.fh f args hin).val=some (r,hout,mv)->lx P E.dH f args hin r hout mv
 ah7 : ∀f args hin p,(E.fh f args hin).val=some p->pt P f
section
variable {B : Nat -> Prop} {o : Oper} {a : Act} {w w' : World} {S S' : Nat -> Prop} {β β' : Nat -> Option BI} {h : Heap} {av : AV} {v : Value} {ρ : Operand -> AV}
theorem kH (inv:Inv E B w S β h) {t:T AV} {f:Sem Value} (he:execOp a.eval o=(do let x <-f;pure (.value x))) (hr : ∀r,t.val=some r -> ∃u,f.run P w = .ok u w/\RV w S β r u) {p:AV×Heap} (hp:t.plain.val=some p) :
  kD P E B o a w S β h p.1 p.2:=by
 rw[T.L2]at hp
 obtain⟨r,h1,rfl⟩:=hp
 obtain⟨u,h2,h3⟩:=hr r h1
 exact wO inv (by rw[he];simp[h2]) h3
theorem Gl (hρ:mc w S β ρ a) : ∀l:List Operand,RL (RV w S β) (l.map ρ) (l.map a.eval)
 | []=>trivial
 | x::l=>⟨hρ x,Gl hρ l⟩
theorem Wc (ok:aZ P E) (inv:Inv E B w S β h) (hρ:mc w S β ρ a)
  (hpk : ∀(c:Nat) (b:Bool),ρ (.tmp c) = .v (.bool b) -> ∀x j bb want y,ρ x = .gd j bb want y->j=c->(bb=true↔b=want)) {p:AV×Heap} (hp:(lm E ρ (an h) o).val=some p):kD P E B o a w S β h p.1 p.2:=by
 have hT:=ok.ty
 unfold lm at hp
 split at hp
 .-- move
  rename_i x ho
  rw[show plain (ρ x) = .ret (ρ x,[]) from rfl,T.bw]at hp
  subst hp
  exact L3 inv hρ (.inl ho)
 .-- assign
  rename_i x ho
  split at hp
  .rename_i h0
   split at hp
   .split at hp
    .exact ahM inv (hρ x) h0 ho _ _ hp
    .rw[T.aO]at hp;exact hp.elim
   .rw[show plain (ρ x) = .ret (ρ x,[]) from rfl,T.bw]at hp
    subst hp
    exact L3 inv hρ (.inr ho)
  .rw[show plain (ρ x) = .ret (ρ x,[]) from rfl,T.bw]at hp
   subst hp
   exact L3 inv hρ (.inr ho)
 .-- pick
  rename_i c x y ho
  split at hp
  .rename_i c
   split at hp
   .rename_i b hb
    have hb':=Gc hb
    have hc:=hρ (.tmp c)
    rw[hb']at hc
    obtain⟨hcv,_⟩:=dD hc
    refine kH inv (f:=do pure (if <-asBool (a.eval (.tmp c)) then a.eval x else a.eval y)) (by simp[execOp,ho]) (fun r hr=>⟨if b then a.eval x else a.eval y,by rw[hcv];simp[asBool],?_⟩) hp
    exact ahr (hρ x) (hρ y) (fun j bb want z hz hj=>hpk c b hb' x j bb want z hz hj) (fun j bb want z hz hj=>hpk c b hb' y j bb want z hz hj) hr
   .rw[T.aO]at hp;exact hp.elim
  .rw[T.aO]at hp;exact hp.elim
 .-- binOp
  rename_i op t x y t2 ho
  split at hp
  .rename_i hy
   have hy:y = .const (.slice none 0 0):=by
    unfold Vo at hy
    split at hy
    .rfl
    .cases hy
   subst hy
   exact kH inv (f:=do eqGuard op t x (.const (.slice none 0 0)) (a.eval x) (.slice none 0 0);binOp op t (a.eval x) (.slice none 0 0)) (by simp[execOp,ho,Act.eval]) (fun r hr=>ahp hT op t x _ (hρ x) hr) hp
  exact kH inv (f:=do eqGuard op t x y (a.eval x) (a.eval y);binOp op t (a.eval x) (a.eval y)) (by simp[execOp,ho]) (fun r hr=>aho hT op t x y (hρ x) (hρ y) hr) hp
 .rename_i op t x ho
  exact kH inv (f:=Op.unary op (a.eval x)) (by simp[execOp,ho]) (fun r hr=>ahq op (hρ x) hr) hp
 .-- convert
  rename_i t0 t x ho
  split at hp
  .rename_i ti hti
   split at hp
   .rename_i kd hkd
    split at hp
    .rename_i n hn
     rw[show plain (.v (.int kd (kd.wrap n))) = .ret (.v (.int kd (kd.wrap n)),[]) from rfl,T.bw]at hp
     subst hp
     split at hkd
     .rename_i ti0 hti0
      obtain⟨i0,d0,z0,sp0⟩:=hT.spec hti0
      obtain⟨i,d,z,sp⟩:=hT.spec hti
      rw[sp.kind]at hkd
      cases d<;>simp[kindOf]at hkd
      subst hkd
      obtain⟨k0,hx⟩:=VC hn
      have hx':=hρ x
      rw[hx]at hx'
      obtain⟨hxv,_⟩:=dD hx'
      refine wO (v:= .int _ (bQ _ n)) inv ?_ (dO (Cp _ _))
      simp only[execOp,ho,convert,lX,run_underlying sp0.fk,run_underlying sp.fk,kZ,hxv]
      cases d0<;>simp[Conv.intToInt]
     .cases hkd
    .rw[T.aO]at hp;exact hp.elim
   .rw[T.aO]at hp;exact hp.elim
  .rw[T.aO]at hp;exact hp.elim
 .-- extract
  rename_i x i ho
  split at hp
  .rename_i vs hx
   have hx':=hρ x
   rw[hx]at hx'
   obtain⟨us,hus,hr⟩:=ahi hx'
   refine kH inv (f:=Instr.extract (a.eval x) i) (by simp[execOp,ho]) (fun r hrr=>?_) hp
   simp only[T.lv,T.bw]at hrr
   obtain⟨y,hy,rfl⟩:=hrr
   obtain⟨u,hu,hru⟩:=hr.get hy
   exact⟨u,by simp[hus,Instr.extract,hu],RT.rv hru⟩
  .rw[T.aO]at hp;exact hp.elim
 .-- field
  rename_i s x f ho
  split at hp
  .rename_i off ag n hf
   exact kH inv (f:=UO s (a.eval x) f) (by simp[execOp,ho]) (fun r hr=>ahx hT hf (hρ x) hr) hp
  .rw[T.aO]at hp;exact hp.elim
 .rename_i s x f ho
  split at hp
  .rename_i off ag n hf
   exact kH inv (f:=UN s (a.eval x) f) (by simp[execOp,ho]) (fun r hr=>ahv hT hf (hρ x) hr) hp
  .rw[T.aO]at hp;exact hp.elim
 .-- nilCheck
  rename_i x ho
  rw[T.L2]at hp
  obtain⟨r,h1,rfl⟩:=hp
  obtain⟨u,h2,h3⟩:=ahw ho (hρ x) h1
  exact wO inv (by rw[h2];rfl) h3
 .rename_i t x i ho
  split at hp
  .rename_i ti hti
   split at hp
   .rename_i hd
    exact kH inv (f:=UP t (a.eval x) (a.eval i)) (by simp[execOp,ho]) (fun r hr=>ahB hT inv hti hd (hρ x) (hρ i) hr) hp
   .rw[T.aO]at hp;exact hp.elim
  .rw[T.aO]at hp;exact hp.elim
 .rename_i t x i ho
  split at hp
  .rename_i hd
   exact kH inv (f:=agt t (a.eval x) (a.eval i)) (by simp[execOp,ho]) (fun r hr=>ahC hT hd (hρ x) (hρ i) hr) hp
  .rw[T.aO]at hp;exact hp.elim
 .rename_i t x ho
  split at hp
  .rename_i ti hti
   exact kH inv (f:=FA t (a.eval x)) (by simp[execOp,ho]) (fun r hr=>VI hT inv hti (hρ x) hr) hp
  .rw[T.aO]at hp;exact hp.elim
 .rename_i t ho
  split at hp
  .rename_i ti hti
   exact ahs hT inv ho hti hp
  .rw[T.aO]at hp;exact hp.elim
 .rename_i t x ho
  split at hp
  .rename_i ti hti
   split at hp
   .rename_i hc
    simp only[aG]at hc
    exact aht hT inv ho (hρ x) hc.1 hp
   .rw[T.aO]at hp;exact hp.elim
  .rw[T.aO]at hp;exact hp.elim
 .rename_i t parts ho
  split at hp
  .rename_i ti hti
   split at hp
   .rename_i cs hcs
    split at hcs
    .rename_i hd5
     rw[show plain (.agg cs) = .ret (.agg cs,[]) from rfl,T.bw]at hp
     subst hp
     obtain⟨u,h1,h2⟩:=ahG (P:=P) (w:=w) hT hti hρ parts hd5 hcs
     exact wO inv (by simp only[execOp,ho,lX,h1,kZ,oj]) h2
    .cases hcs
   .rw[T.aO]at hp;exact hp.elim
  .rw[T.aO]at hp;exact hp.elim
 .rename_i t n parts ho
  split at hp
  .rename_i ti hti
   split at hp
   .rename_i hc
    split at hp
    .exact ahI hT inv hti hρ n parts ho hc hp
    .exact ahH hT inv hti hρ n parts ho hc hp
   .rw[T.aO]at hp;exact hp.elim
  .rw[T.aO]at hp;exact hp.elim
 .rename_i t x y ho
  split at hp
  .rename_i ti hti
   exact ahJ hT inv hti (hρ x) (hρ y) ho hp
  .rw[T.aO]at hp;exact hp.elim
 .rename_i t x y ho
  split at hp
  .rename_i ti hti
   exact ahu hT inv ho hti (hρ x) (hρ y) hp
  .rw[T.aO]at hp;exact hp.elim
 .-- slice
  rename_i t x lo hi mx ho
  split at hp
  .rename_i ti hti
   split at hp
   .rename_i hw
    rw[aG]at hw
    have hmx:mx=none:=by cases mx<;>first | rfl | (simp at hw)
    subst hmx
    exact kH inv (f:=pf t (a.eval x) (lo.map a.eval) (hi.map a.eval) none) (by simp[execOp,ho]) (fun r hr=>ahF hT inv hti (hρ x) hρ lo hi hr) hp
   refine kH inv (f:=pf t (a.eval x) (lo.map a.eval) (hi.map a.eval) (mx.map a.eval)) (by simp[execOp,ho]) (fun r hr=>?_) hp
   unfold Vh at hr
   split at hr
   .rename_i hmx
    have hmx':mx=none:=by cases mx<;>first | rfl | (simp[fF]at hmx)
    subst hmx'
    split at hr
    .rename_i rows hx
     have hx':=hρ x
     rw[hx]at hx'
     split at hr
     .rename_i hd
      exact ahE hT hti hd (ta hx') hρ lo hi hr
     .rw[T.aO]at hr;exact hr.elim
    .rename_i s hx
     have hx':=hρ x
     rw[hx]at hx'
     obtain⟨hxv,hok⟩:=dD hx'
     rw[hxv]
     split at hr
     .rename_i hd
      exact ahD hT hti hd hok hρ lo hi hr
     .rw[T.aO]at hr;exact hr.elim
    .rw[T.aO]at hr;exact hr.elim
   .rename_i mxa hmx
    split at hr
    .rename_i hz
     simp only[aG]at hz
     obtain⟨⟨⟨z1,z2⟩,z3⟩,hd⟩:=hz
     obtain⟨i,d,z,sp⟩:=hT.spec hti
     obtain⟨ei,rfl,he,hes,_⟩:=sp.isSlice hd
     have zero : ∀q:Option Operand,isZero (fF ρ q)=true -> ∃y k,q=some y/\a.eval y = .int k 0:=by
      intro q hq
      cases q with
      | none=>simp[fF,isZero]at hq
      | some y=>
       simp only[fF,isZero]at hq
       split at hq
       .rename_i k hk
        simp only[eX]at hk
        have:=hρ y
        rw[hk]at this
        exact⟨y,k,rfl,(dD this).1⟩
       .cases hq
     obtain⟨y1,k1,rfl,v1⟩:=zero mx (by rw[hmx];exact hmx▸z1)
     obtain⟨y2,k2,rfl,v2⟩:=zero hi z2
     have hlo:lo=none:=by cases lo<;>first | rfl | (simp[fF]at z3)
     subst hlo
     have key : ∀A len cap,a.eval x = .slice A len cap->r = .e0 -> ∃u,(pf t (a.eval x) (agv a.eval none) (agv a.eval (some y2)) (agv a.eval (some y1))).run P w = .ok u w/\RV w S β r u:=by
      rintro A len cap hx rfl
      refine⟨.slice A 0 0,?_,A,rfl⟩
      simp[pf,run_underlying sp.fk,hx,UQ,UR,v1,v2,agu,asIntOf,nP w he]
     split at hr
     .rename_i rows hx
      have hx':=hρ x
      rw[hx]at hx'
      obtain⟨A,cap,hv,_⟩:=R0.len (ta hx')
      rw[T.bw]at hr
      exact key A _ cap hv hr.symm
     .rename_i k hx
      have hx':=hρ x
      rw[hx]at hx'
      obtain⟨X,hX,g1,g2⟩:=wP hx'
      rw[T.bw]at hr
      cases hrr:X.real
      .obtain⟨A,hv⟩:=g2 hrr;exact key A _ _ hv hr.symm
      .exact key _ _ _ (g1 hrr) hr.symm
     .rename_i hx
      have hx':=hρ x
      rw[hx]at hx'
      obtain⟨A,hv⟩:=wQ hx'
      rw[T.bw]at hr
      exact key A _ _ hv hr.symm
     .rw[T.aO]at hr;exact hr.elim
    .rw[T.aO]at hr;exact hr.elim
  .rw[T.aO]at hp;exact hp.elim
 .-- makeFunc
  rename_i fn first captured ho
  split at hp
  .rename_i f
   split at hp
   .rename_i hfirst
    split at hp
    .rename_i hcap
     rw[show plain (.fn f (captured.toList.map ρ)) = .ret (.fn f (captured.toList.map ρ),[]) from rfl,T.bw]at hp
     subst hp
     have hf0:first = #[]:=by cases first;simp at hfirst;simp[hfirst]
     subst hf0
     refine wO (v:= .func (.func f) #[] (captured.toList.map a.eval).toArray) inv ?_ ⟨_,rfl,?_⟩
     .simp[execOp,ho,Instr.makeFunc];apply vE;simp
     .refine(Gl hρ captured.toList).imp fun b hb u hu=>?_
      have:=bP.1 hcap b hb
      cases b<;>first | exact hu | (simp[qK]at this)
    .rw[T.aO]at hp;exact hp.elim
   .rw[T.aO]at hp;exact hp.elim
  .rw[T.aO]at hp;exact hp.elim
 .-- calls
  rename_i c ho
  split at hp
  .rename_i b hb
   obtain⟨callee,args,ts⟩:=c
   simp only at hb hp
   subst hb
   unfold FU at hp
   split at hp
   .split at hp
    .rename_i x t hargs hts
     obtain rfl:args = #[x]:=by cases args;simp at hargs;simp[hargs]
     obtain rfl:ts = #[t]:=by cases ts;simp at hts;simp[hts]
     split at hp
     .rename_i ti hti
      exact kH inv (f:=BS #[t] o.type #[a.eval x]) (by simp[execOp,ho,resolve,invoke,builtin]) (fun r hr=>ahz hT inv hti o.type (hρ x) hr) hp
     .rw[T.aO]at hp;exact hp.elim
    .rw[T.aO]at hp;exact hp.elim
   .split at hp
    .rename_i x y hargs
     obtain rfl:args = #[x,y]:=by cases args;simp at hargs;simp[hargs]
     exact kH inv (f:=Builtin.max_ ts o.type #[a.eval x,a.eval y]) (by simp[execOp,ho,resolve,invoke,builtin]) (fun r hr=>(VM ts o.type (hρ x) (hρ y)).1 hr) hp
    .rw[T.aO]at hp;exact hp.elim
   .split at hp
    .rename_i x y hargs
     obtain rfl:args = #[x,y]:=by cases args;simp at hargs;simp[hargs]
     exact kH inv (f:=Builtin.min_ ts o.type #[a.eval x,a.eval y]) (by simp[execOp,ho,resolve,invoke,builtin]) (fun r hr=>(VM ts o.type (hρ x) (hρ y)).2 hr) hp
    .rw[T.aO]at hp;exact hp.elim
   .split at hp
    .rename_i x y t t' hargs hts
     obtain rfl:args = #[x,y]:=by cases args;simp at hargs;simp[hargs]
     obtain rfl:ts = #[t,t']:=by cases ts;simp at hts;simp[hts]
     split at hp
     .rename_i htt
      obtain rfl:=beq_true.1 htt
      exact ahN hT inv (hρ x) (hρ y) ho hp
     .rw[T.aO]at hp;exact hp.elim
    .rw[T.aO]at hp;exact hp.elim
   .split at hp
    .rename_i x t hargs hts
     obtain rfl:args = #[x]:=by cases args;simp at hargs;simp[hargs]
     obtain rfl:ts = #[t]:=by cases ts;simp at hts;simp[hts]
     split at hp
     .rename_i ti hti
      exact ahL hT inv hti (hρ x) ho hp
     .rw[T.aO]at hp;exact hp.elim
    .rw[T.aO]at hp;exact hp.elim
   .rw[T.aO]at hp;exact hp.elim
  .rename_i fo hb
   split at hp
   .rename_i f caps hf
    have hf':=hρ fo
    rw[hf]at hf'
    split at hp
    .exact ahZ ok.fn ok.here inv ho hb hf' (Gl hρ _) hp
    .rw[T.aO]at hp;exact hp.elim
   .rw[T.aO]at hp;exact hp.elim
  .rw[T.aO]at hp;exact hp.elim
 .rw[T.aO]at hp;exact hp.elim
end
end
section
variable {P : Program} {E : Env}
def oH (t:dG) (a:Act):Prop:=∀n j f want x,bJ t n = .gd j f want x->an t j≠none/\(f=true↔a.tmps.getD j undef = .bool want)
theorem ly (t:dG) (f:AV->AV) (hf:f .bL = .bL) (n:Nat):bJ (t.map fun p=>(p.1,f p.2)) n=f (bJ t n):=by
 unfold bJ;rw[gf];cases an t n<;>simp[hf]
theorem Wd (t:dG) (d n:Nat):bJ (kz t d) n=bJ t n\/(bJ (kz t d) n = .bL/\l9 d (bJ t n)=true):=by
 unfold kz
 split
 .exact .inl rfl
 .rw[ly t (oB d) rfl n]
  unfold oB
  split
  .exact .inr ⟨rfl, ‹_›⟩
  .exact .inl rfl
theorem Mf {d:Nat} {x:AV} (h:l9 d x=true) : ∃b want y,x = .gd d b want y:=by
 cases x<;>simp[l9]at h
 rename_i j b want y
 obtain rfl:=h
 exact⟨b,want,y,rfl⟩
section
variable {B : Nat -> Prop} {N : Nat} {β0 : Nat -> Option BI} {o : Oper} {a : Act} {w w' : World} {S S' S0 : Nat -> Prop} {β β' : Nat -> Option BI} {h : Heap} {av : AV} {v : Value} {t : dG}
theorem ah0 (a:Act) (d n:Nat) (v:Value) (hd:d<a.tmps.size):(a.put (some d) v).tmps.getD n undef=if n=d then v else a.tmps.getD n undef:=by
 simp only[Act.put,k8,FC]
 by_cases e:n=d
 .subst e;simp[hd]
 .simp[e,Ne.symm e]
theorem s8.put (ht:s8 w S β t a) {dst:Option Tmp} (hd : ∀d,dst=some d->d<a.tmps.size) (hv:RV w S β av v):s8 w S β (ff t dst av) (a.put dst v):=by
 cases dst with
 | none=>exact ht
 | some d=>
  intro n
  rw[ah0 a d n v (hd d rfl)]
  simp only[ff,wJ]
  by_cases e:n=d
  .rw[if_pos e,if_pos e];exact hv
  .rw[if_neg e,if_neg e]
   rcases Wd t d n with h1 | ⟨h1,_⟩
   .rw[h1];exact ht n
   .rw[h1];trivial
theorem Gm (t:dG) (d n:Nat):an (kz t d) n=none↔an t n=none:=by
 unfold kz
 split
 .exact Iff.rfl
 .rw[gf];cases an t n<;>simp
theorem ah1 (a:Act) (d n:Nat) (v:Value) (h:n≠d):(a.put (some d) v).tmps.getD n undef=a.tmps.getD n undef:=by
 simp only[Act.put,k8,FC]
 simp[Ne.symm h]
theorem oH.set (hg:oH t a) (dst:Option Tmp) (u:Value) (hv : ∀d j f want x,dst=some d->av = .gd j f want x->j≠d/\an t j≠none/\(f=true↔a.tmps.getD j undef = .bool want)):oH (ff t dst av) (a.put dst u):=by
 cases dst with
 | none=>exact hg
 | some d=>
  intro n j f want x hn
  simp only[ff,wJ]at hn
  have keep:j≠d->an t j≠none->(f=true↔a.tmps.getD j undef = .bool want)->an (ff t (some d) av) j≠none/\(f=true↔(a.put (some d) u).tmps.getD j undef = .bool want):=by
   intro hj h1 h2
   refine⟨?_,by rw[ah1 a d j u hj];exact h2⟩
   simp only[ff,gu,if_neg hj]
   exact fun hh=>h1 ((Gm t d j).1 hh)
  by_cases e:n=d
  .rw[if_pos e]at hn
   obtain⟨h1,h2,h3⟩:=hv d j f want x rfl hn
   exact keep h1 h2 h3
  .rw[if_neg e]at hn
   rcases Wd t d n with h1 | ⟨h1,_⟩
   .rw[h1]at hn
    obtain⟨g1,g2⟩:=hg n j f want x hn
    by_cases hjd:j=d
    .subst hjd
     exfalso
     unfold kz at h1
     split at h1
     .exact g1 ‹_›
     .rw[ly t (oB j) rfl n,hn]at h1
      simp[oB,l9]at h1
    .exact keep hjd g1 g2
   .rw[h1]at hn;cases hn
structure Rel (E:Env) (B:Nat->Prop) (N:Nat) (w0:World) (S0:Nat->Prop) (β0:Nat->Option BI) (s:St) (a:Act) (w:World) (S:Nat->Prop) (β:Nat->Option BI):Prop where
 inv:Inv E B w S β s.h
 tok:s8 w S β s.t a
 gd:oH s.t a
 below:dW B w0 w
 sub : ∀b,S0 b->S b
 news : ∀b,S b->S0 b \/ ¬B b
 fix : ∀k x,nN k->E.mv k=false->β k=some x->β0 k=some x
 size:a.tmps.size=N
 defers:a.defers=[]
def fj (E:Env) (B:Nat->Prop) (N:Nat) (w0:World) (S0:Nat->Prop) (β0:Nat->Option BI) (s:St) (a:Act) (w:World):Prop:=∃S β,Rel E B N w0 S0 β0 s a w S β
variable {w0 : World} {s s' : St} {g : Option (Nat × Bool)}
theorem ah2 {x:Value} (hx:Lx x=true):RV w S β (pj x) x:=by
 have one : ∀y,Cc y=true->dh y:=by
  intro y hy
  unfold Cc at hy
  split at hy<;>first | trivial | (simpa[dh]using hy) | (cases hy)
 unfold Lx at hx
 split at hx
 .exact⟨none,rfl⟩
 .rename_i cs
  refine⟨cs.toList,by simp,?_⟩
  have : ∀l:List Value,(∀y∈l,Cc y=true)->RL (RC w S β) (l.map .v) l:=by
   intro l
   induction l with
   | nil=>exact fun _=>trivial
   | cons y l ih=>exact fun hl=>⟨R0.rc (.v (one y (hl y (by simp)))),ih fun z hz=>hl z (by simp[hz])⟩
  exact this cs.toList fun y hy=>bP.1 hx y hy
 .rename_i h1 h2
  have:pj x = .v x:=by
   unfold pj
   split
   .exact absurd rfl h1
   .exact absurd rfl (h2 _)
   .rfl
  rw[this]
  exact dO (one x hx)
def CD (a:Act) (g:Option (Nat×Bool)):Prop:=∀d want,g=some (d,want)->a.tmps.getD d undef = .bool want
theorem Rel.args (rel:Rel E B N w0 S0 β0 s a w S β) (hg:CD a g):mc w S β (cM E g s.t) a:=by
 intro x
 unfold cM
 cases x with
 | tmp n=>
  have hn:=rel.tok n
  show RV w S β (nI g (bJ s.t n)) (a.tmps.getD n undef)
  unfold nI
  split
  .rename_i i b wt y hy
   rw[hy]at hn
   split
   .rename_i d want
    split
    .rename_i hc
     simp only[aG]at hc
     obtain⟨c1,c2⟩:=hc
     have c1:=beq_true.1 c1
     have c2:=Gb.1 c2
     subst c1 c2
     have hb:=hg d wt rfl
     have:=(rel.gd n d b wt y hy).2.2 hb
     have hz:=hn.1 this
     unfold v7
     split
     .trivial
     .trivial
     .exact RT.rv hz
    .exact hn
   .exact hn
  .exact hn
 | const v=>
  show RV w S β (nI g (ev E s.t (.const v))) v
  have h1 : ∀y,RV w S β (nI g y) v->True:=fun _ _=>trivial
  simp only[ev]
  split
  .rename_i hc
   have:=ah2 (w:=w) (S:=S) (β:=β) hc
   have hu:nI g (pj v)=pj v:=by unfold pj;split<;>rfl
   rw[hu];exact this
  .trivial
 | global gl=>
  simp only[ev]
  split
  .rename_i row hrow
   exact⟨gl,0,by simp[Act.eval],(rel.inv.dH gl row hrow).row⟩
  .trivial
 | func f=>exact⟨[],rfl,trivial⟩
theorem Rel.We (rel:Rel E B N w0 S0 β0 s a w S β) (hg:CD a g) : ∀(c:Nat) (b:Bool),cM E g s.t (.tmp c) = .v (.bool b) -> ∀x j bb want y,cM E g s.t x = .gd j bb want y->j=c->(bb=true↔b=want):=by
 rintro c b hc x j bb want y hx rfl
 have hb:a.tmps.getD j undef = .bool b:=by
  have:=rel.args hg (.tmp j)
  rw[hc]at this
  exact(dD this).1
 have hgd : ∃n,bJ s.t n = .gd j bb want y:=by
  unfold cM at hx
  cases x with
  | tmp n=>
   refine⟨n,?_⟩
   simp only[ev]at hx
   unfold nI at hx
   split at hx
   .rename_i i b0 w0' z hz
    split at hx
    .split at hx
     .unfold v7 at hx
      split at hx
      .cases hx
      .cases hx
      .rename_i hne _;exact absurd hx (hne _ _ _ _)
     .rw[hz];exact hx
    .rw[hz];exact hx
   .exact hx
  | const v=>
   simp only[ev]at hx
   split at hx
   .unfold pj at hx;split at hx<;>cases hx
   .cases hx
  | global gl=>simp only[ev]at hx;split at hx<;>cases hx
  | func f=>cases hx
 obtain⟨n,hn⟩:=hgd
 have:=(rel.gd n j bb want y hn).2
 rw[hb]at this
 rw[this]
 simp
end
end
section
variable {P : Program} {E : Env}
section
variable {B : Nat -> Prop} {N : Nat} {β0 : Nat -> Option BI} {o : Oper} {a : Act} {w w' w0 : World} {S S' S0 : Nat -> Prop} {β β' : Nat -> Option BI} {h : Heap} {av : AV} {v : Value} {t : dG} {s s' : St} {g : Option (Nat × Bool)}
def Mg (P:Program) (E:Env) (B:Nat->Prop) (N:Nat) (w0:World) (S0:Nat->Prop) (β0:Nat->Option BI) (o:Oper) (a:Act) (w:World) (s':St):Prop:=
 ∀(K:Act->World->Prop) (Q:Exit->Act->World->Prop),(∀a' w',fj E B N w0 S0 β0 s' a' w'->K a' w')->o.wp P a w K Q
theorem CE (hr:RV w S β av v):RV w S β (fC av) v:=by
 unfold fC;split
 .trivial
 .exact hr
theorem tf {x:AV} {j:Nat} {b want:Bool} {y:AV}:fC x ≠ .gd j b want y:=by
 unfold fC;split
 .simp
 .rename_i hne;exact fun e=>hne _ _ _ _ e
theorem Gn (a:Act) (dst:Option Tmp) (v:Value):(a.put dst v).tmps.size=a.tmps.size:=by cases dst<;>simp[Act.put]
theorem put_defers (a:Act) (dst:Option Tmp) (v:Value):(a.put dst v).defers=a.defers:=by cases dst<;>simp[Act.put]
theorem Mh (ok:aZ P E) (rel:Rel E B N w0 S0 β0 s a w S β) (hg:CD a g) (hd : ∀d,o.dst=some d->d<N) {ws:List Nat} (hn:(norm E g s o).val=some (s',ws)):Mg P E B N w0 S0 β0 o a w s':=by
 unfold norm at hn
 rw[T.bind_some]at hn
 obtain⟨p,hp,hn⟩:=hn
 rw[T.bw]at hn
 cases hn
 intro K Q hK
 refine Wc ok rel.inv (rel.args hg) (rel.We hg) hp K Q fun v w' S' β' inv' gr hv=>hK _ _ ⟨S',β',inv',?_,?_,rel.below.trans gr.below,fun b hb=>gr.sub b (rel.sub b hb),fun b hb=>(gr.news b hb).elim (rel.news b) .inr,fun k x hi hm hx=>rel.fix k x hi hm (gr.dS k x hi hx),by rw[Gn];exact rel.size,by rw[put_defers];exact rel.defers⟩
 .exact s8.put (fun n=>gr.rv (rel.tok n)) (fun d hdd=>by rw[rel.size];exact hd d hdd) (CE hv)
 .exact rel.gd.set _ _ fun d j b want x _ hx=>absurd hx tf
theorem Gp {k:List Nat} {x:AV} {j:Nat} {b want:Bool} {y:AV} (hx:dw k x = .gd j b want y):x = .gd j b want y:=by
 unfold dw at hx;split at hx
 .cases hx
 .exact hx
theorem oH.kill (hg:oH t a) (k:List Nat):oH (t.map fun p=>(p.1,dw k p.2)) a:=by
 intro n j b want x hn
 rw[ly t (dw k) rfl n]at hn
 obtain⟨h1,h2⟩:=hg n j b want x (Gp hn)
 exact⟨by rw[gf];cases hm:an t j<;>simp_all,h2⟩
theorem Wf {k:Nat}:sT k=true↔nN k:=by
 unfold sT nN
 simp
theorem Mi (rel:Rel E B N w0 S0 β0 s a w S β) (hd : ∀d,o.dst=some d->d<N) {p:AV×Heap×List Nat} (hk:Cw P E B o a w S β s.h p.1 p.2.1 p.2.2) {wr:Option (List Nat×List Nat)} (hn:(mL E s o.dst p).val=some (s',wr)):Mg P E B N w0 S0 β0 o a w s':=by
 unfold mL at hn
 split at hn
 .rename_i hmv
  rw[T.bw]at hn
  cases hn
  intro K Q hK
  refine hk K Q fun v w' S' β' inv' gr hv=>hK _ _ ⟨S',β',inv',?_,?_,rel.below.trans gr.below,fun b hb=>gr.sub b (rel.sub b hb),fun b hb=>(gr.news b hb).elim (rel.news b) .inr,fun k x hi hm hx=>rel.fix k x hi hm (gr.dS k x hi (fun hk=>?_) hx),by rw[Gn];exact rel.size,by rw[put_defers];exact rel.defers⟩
  .refine s8.put (fun n=>?_) (fun d hdd=>by rw[rel.size];exact hd d hdd) (CE hv)
   show RV w' S' β' (bJ (s.t.map fun q=>(q.1,dw p.2.2 q.2)) n) _
   rw[ly s.t (dw p.2.2) rfl n]
   exact ahP (fun y u hy hu=>gr.rv hy hu) (rel.tok n)
  .exact(rel.gd.kill _).set _ _ fun d j b want x _ hx=>absurd hx tf
  .have:=bP.1 hmv k hk
   rw[Wf.2 hi,hm]at this
   cases this
 .rw[T.aO]at hn;exact hn.elim
theorem ah3 (ok:aZ P E) (inv:Inv E B w S β h) {ty:TypeId} {x y:Operand} {j:Nat} {uy:AV} (hx:RV w S β (.own j) (a.eval x)) (hy:RV w S β uy (a.eval y))
  (ho:o.op = .call ⟨.builtin .append, #[x,y], #[ty,ty]⟩) {p:AV×Heap×List Nat} (hn:(wB E (an h) ty j uy).val=some p):Cw P E B o a w S β h p.1 p.2.1 p.2.2:=by
 have hT:=ok.ty
 unfold wB at hn
 split at hn
 .rw[T.aO]at hn;exact hn.elim
 .rename_i hjy
  have hjy:=L9 hjy
  split at hn
  .rename_i rs hrs
   split at hn
   .rename_i ti hti
    split at hn
    .rename_i bl hbl
     split at hn
     .rw[T.aO]at hn;exact hn.elim
     .rename_i hck
      simp only[Bool.or_eq_false_iff,Bool.not_eq_false']at hck
      obtain⟨⟨⟨⟨h4,yy⟩,hty⟩,hsz⟩,hbox⟩:=hck
      have yy:=beq_false.1 yy
      have hsz:=beq_true.1 hsz
      have h4:=beq_false.1 h4
      have hty:=beq_true.1 hty
      simp only[T.dv,T.bw,T.aO,and_false,or_false,aG]at hn
      obtain⟨⟨hb,hall⟩,rfl⟩:=hn
      have hb:(bl.rows.length+rs.length)*ti.oI<=140737488355328:=by simpa[wv]using hb
      have hall : ∀r∈rs,r.length=ti.bv:=fun r hr=>beq_true.1 (bP.1 hall r hr)
      obtain⟨i,dd,z,sp⟩:=hT.spec hti
      obtain⟨ei,ez,rfl,e1,e2,e3,e4,e5,e6,e7⟩:=sp.elem h4
      obtain⟨A,cap,news,src⟩:=VT inv h4 hy hrs hall
      obtain⟨X,hX,hv1,hv2⟩:=wP hx
      obtain⟨bl',hbl',hr1,hr2⟩:=inv.di j X hX
      rw[hbl]at hbl'
      cases hbl'
      have hexec : ∀vv ww,(vH #[ty,ty] o.type #[a.eval x, .slice A rs.length cap]).run P w = .ok vv ww->(execOp a.eval o).run P w = .ok (.value vv) ww:=by
       intro vv ww hrun
       simp[execOp,ho,resolve,invoke,builtin,src.val,hrun]
      have ebytes_le:rs.length*ti.oI<=140737488355328:=iW (iY _ (by omega)) hb
      have fin : ∀(x':BI) (w':World) (vv:Value),(vH #[ty,ty] o.type #[a.eval x, .slice A rs.length cap]).run P w = .ok vv w'->x'.real=true->kE B [j] w S β w' S (gc β j x') ->
        (∀k y,k≠j->β k=some y->y.real=true->w'.heap[y.b]? = w.heap[y.b]?)->((∃y,β j=some y/\y.real=true/\x'.b=y.b)\/w.heap.size<=x'.b)->x'.b<w'.heap.size ->
        fy w' S (gc β j x') ⟨false,ti.elem,ti.bv,bl.rows++rs⟩ x'->vv = .slice (some ⟨x'.b,0,none⟩) x'.len x'.cap ->
        Cw P E B o a w S β h (.own j) [(j,⟨false,ti.elem,ti.bv,bl.rows++rs⟩)] [j]:=by
       intro x' w' vv hrun hreal gj hold hnew hlt hblk hvv K Q hK
       unfold ol
       rw[hexec _ _ hrun,sG]
       exact hK _ _ S (gc β j x') (ahQ inv x' _ hreal gj hold hnew hlt hblk) gj ⟨x',fN _ _ _,fun _=>hvv,fun hf=>by rw[hreal]at hf;cases hf⟩
      by_cases hne:rs=[]
      .-- nothing is appended
       subst hne
       have hval : ∃base n c,a.eval x = .slice base n c/\n<=c:=by
        cases hre:X.real
        .obtain⟨A',hA'⟩:=hv2 hre;exact⟨_,_,_,hA',bR _⟩
        .obtain⟨cs,tyy,c1,c2,c3,c4,c5,_⟩:=hr1 hre;exact⟨_,_,_,hv1 hre,c4⟩
       obtain⟨base,n,c,hval,hnc⟩:=hval
       have hrun:=VU (P:=P) (w:=w) ty o.type ti.elem ei sp.fk e1 base n c hnc A cap
       rw[<-hval]at hrun
       intro K Q hK
       unfold ol
       rw[hexec _ _ hrun,sG]
       have gj:kE B [j] w S β w S β:=⟨dW.refl _ _,fun _ _=>rfl,fun _ h=>h,fun _ h=> .inl h,fun _ _ _ h=>h,fun _ _ _ _ h=>h⟩
       refine hK _ _ S β ?_ gj hx
       refine⟨inv.base,inv.lt,inv.inj,inv.new,fun k x1 h1=>?_,fun k b1 h1=>?_,inv.dH⟩
       .by_cases ek:k=j
        .subst ek
         rw[hX]at h1
         cases h1
         refine⟨⟨false,ti.elem,ti.bv,bl.rows++[]⟩,by simp only[iy];rw[gu,if_pos rfl],fun hre=>?_,fun hre=>⟨by simpa using(hr2 hre).1,rfl⟩⟩
         obtain⟨cs,tyy,c1,c2,c3,c4,c5,c6,c7,c8⟩:=hr1 hre
         refine⟨cs,tyy,c1,c2,by simpa using c3,c4,c5,fun _=>⟨by rw[(c6 hbox).1,hty],by rw[(c6 hbox).2,hsz]⟩,(fun hh=>by cases hh),fun i row hi=>?_⟩
         simp only[List.append_nil]at hi
         refine⟨(c8 i row hi).1,fun q y hq=>?_⟩
         obtain⟨u,hu,hru⟩:=(c8 i row hi).2 q y hq
         rw[hbox]at hru
         exact⟨u,hu,by simpa using hru⟩
        .obtain⟨b1,a1,a2,a3⟩:=inv.di k x1 h1
         exact⟨b1.kill [j],by simp only[iy];rw[gu,if_neg ek,gf,a1];rfl,fun hr=>(a2 hr).kill gj rfl,fun hr=>Gi (a3 hr)⟩
       .simp only[iy]at h1
        rw[gu]at h1
        by_cases ek:k=j
        .subst ek;exact⟨X,hX⟩
        .rw[if_neg ek,gf]at h1
         cases hk:an h k with
         | none=>rw[hk]at h1;cases h1
         | some b2=>exact inv.il k b2 hk
      .obtain⟨ad,rfl,hcells⟩:=src.cells hne
       have hpos:=UX.2 hne
       cases hre:X.real
       .-- it was nil
        obtain⟨A0,hA0⟩:=hv2 hre
        obtain⟨hrows,_⟩:=hr2 hre
        obtain⟨c',cs,r1,r2,r3,r4,r5⟩:=VV (P:=P) (w:=w) ty o.type ti.elem ei ez sp.fk e1 e4 (by rw[e5,e2]) A0 ad rs.length cap news (by rw[src.len,e2]) hcells hpos src.lt (by rw[e3];exact ebytes_le)
        rw[<-hA0]at r1
        have gj:kE B [j] w S β (w.drew.alloc (.cells cs ti.elem)) S (gc β j ⟨true,w.heap.size,rs.length,c',ti.bv⟩):=
         ⟨((Gh B w S β).below).trans ((dW.refl B w.drew).alloc (show ∀k,B k->k<w.drew.heap.size from inv.base) _),fun b hb=>heap_alloc_old w.drew _ (inv.lt b hb),fun _ h=>h,fun _ h=> .inl h,fun k x hk hx=>by rw[e9 β _ (by simpa using hk)];exact hx,fun k x _ hk hx=>by rw[e9 β _ (by simpa using hk)]at hx;exact hx⟩
        refine fin ⟨true,w.heap.size,rs.length,c',ti.bv⟩ _ _ r1 rfl gj (fun k y hk hy hr=>heap_alloc_old w.drew _ (inv.new k y hy hr).2.1) (.inr (bR _)) (by simp) ?_ rfl
        rw[hrows,eh]
        refine⟨cs,ti.elem,heap_alloc_new w.drew _,by simp only[r2,e2],rfl,r3,r4,fun _=>⟨rfl,rfl⟩,(fun hh=>by cases hh),fun i1 row hi1=>⟨hall row (cL hi1),fun q x1 hq=>?_⟩⟩
        obtain⟨y1,hy1,hr⟩:=src.rep i1 row q x1 hi1 hq
        have hlt:i1*ti.bv+q<rs.length*ei.size:=by
         have:=(cO.1 hy1).1;rw[src.len]at this;rw[e2];exact this
        exact⟨y1,by rw[r5 _ hlt];exact hy1,by simp only[ij,if_false];exact hr.mono gj.keep fun _ h=>h⟩
       .-- it had memory
        obtain⟨cs,tyy,c1,c2,c3,c4,c5,c6,c7,c8⟩:=hr1 hre
        have hty2:tyy=ti.elem:=by rw[(c6 hbox).1,hty]
        have hxs:X.size=ti.bv:=by rw[(c6 hbox).2,hsz]
        subst hty2
        have hev:=hv1 hre
        have h63:bl.rows.length+rs.length<=9223372036854775807\/True:= .inr trivial
        have hlen:bl.rows.length=X.len:=c3
        have hbytes:(X.len+rs.length)*ei.bytes<=140737488355328:=by rw[e3,<-hlen];exact hb
        have hsrc : ∀i1 row q x1,rs[i1]? = some row->row[q]? = some x1 -> ∃y1,news[i1*ti.bv+q]? = some y1/\R0 w S x1 y1:=fun i1 row q x1 h1 h2=>src.rep i1 row q x1 h1 h2
        have hrowget : ∀(i1:Nat) (row:Row),(bl.rows++rs)[i1]? = some row->(i1<bl.rows.length/\bl.rows[i1]? = some row)\/(bl.rows.length<=i1/\rs[i1 - bl.rows.length]? = some row):=by
         intro i1 row hi1
         rw[KY]at hi1
         split at hi1
         .exact .inl ⟨‹_›,hi1⟩
         .exact .inr ⟨by omega,hi1⟩
        by_cases hroom:X.len+rs.length<=X.cap
        .have hfit:X.len*ei.size+news.length<=cs.size:=by
          rw[c2,src.len,hxs,e2,<-fB];exact iY _ hroom
         have hrun:=run_append_room (P:=P) w ty o.type ti.elem ei sp.fk e1 X.b X.len X.cap cs c1 ad rs.length cap news (by rw[src.len,e2]) hcells src.one hroom hfit
         rw[<-hev]at hrun
         have dJ : ∀q,(cs.toList.take (X.len*ei.size)++news++cs.toList.drop (X.len*ei.size+news.length))[q]? = if q<X.len*ei.size then cs[q]? else if q<X.len*ei.size+news.length then news[q - X.len*ei.size]? else cs[q]?:=by
          intro q
          rw[L4 (by simpa using hfit)]
          simp
         have hNl:(cs.toList.take (X.len*ei.size)++news++cs.toList.drop (X.len*ei.size+news.length)).length=cs.size:=by
          simp only[ck,eY,fe,nB];omega
         generalize (cs.toList.take (X.len*ei.size)++news++cs.toList.drop (X.len*ei.size+news.length))=NN at hrun dJ hNl
         have g0:=Gf inv hX hre NN.toArray
         have gj:kE B [j] w S β (w.setRow X.b NN.toArray) S (gc β j ⟨true,X.b,X.len+rs.length,X.cap,X.size⟩):=⟨g0.below,g0.keep,fun _ h=>h,fun _ h=> .inl h,fun k x hk hx=>by rw[e9 β _ (by simpa using hk)];exact hx,fun k x _ hk hx=>by rw[e9 β _ (by simpa using hk)]at hx;exact hx⟩
         refine fin ⟨true,X.b,X.len+rs.length,X.cap,X.size⟩ _ _ hrun rfl gj (fun k y hk hy hr=>setRow_other w X.b y.b _ (fun eb=>hk (inv.inj k j y X hy hX hr hre eb))) (.inl ⟨X,hX,hre,rfl⟩) (by simpa using(inv.new j X hX hre).2.1) ?_ rfl
         refine⟨NN.toArray,ti.elem,setRow_heap w X.b cs _ ti.elem _ c1,by simp[hNl,c2],by simp[hlen],hroom,c5,fun _=>⟨rfl,hxs⟩,(fun hh=>by cases hh),fun i1 row hi1=>?_⟩
         rcases hrowget i1 row hi1 with ⟨hlt,hi⟩ | ⟨hge,hi⟩
         .refine⟨(c8 i1 row hi).1,fun q x1 hq=>?_⟩
          obtain⟨u,hu,hru⟩:=(c8 i1 row hi).2 q x1 hq
          have hql:q<X.size:=by rw[<-(c8 i1 row hi).1];exact(cO.1 hq).1
          have h3:(i1+1)*X.size<=X.len*X.size:=iY _ (by omega)
          rw[fB]at h3
          rw[hbox]at hru
          exact⟨u,by show NN.toArray[i1*X.size+q]? = some u;rw[FB,dJ,if_pos (by rw[e2,<-hxs];omega)];exact hu,by simp only[ij,if_false]at hru ⊢;exact hru.mono gj.keep fun _ h=>h⟩
         .refine⟨by rw[hxs];exact hall row (cL hi),fun q x1 hq=>?_⟩
          obtain⟨u,hu,hru⟩:=hsrc _ row q x1 hi hq
          have hql:(i1 - bl.rows.length)*ti.bv+q<rs.length*ti.bv:=by have:=(cO.1 hu).1;rw[src.len]at this;exact this
          have hi1e:i1*X.size=X.len*ei.size+(i1 - bl.rows.length)*ti.bv:=by rw[hxs,e2,<-fB];congr 1;omega
          refine⟨u,?_,by simp only[ij,if_false];exact hru.mono gj.keep fun _ h=>h⟩
          show NN.toArray[i1*X.size+q]? = some u
          rw[FB,dJ,hi1e,if_neg (by omega),if_pos (by rw[src.len];omega),<-hu]
          congr 1
          omega
        .have holds : ∀q x1,(cs.toList.take (X.len*ei.size))[q]? = some x1->w.cell? ((⟨X.b,0,none⟩:Addr).add q)=some x1:=by
          intro q x1 hq
          rw[mB]at hq
          split at hq
          .rw[add_lit];simp only[lW,c1];simpa using hq
          .cases hq
         have hol:(cs.toList.take (X.len*ei.size)).length=X.len*ei.size:=by
          simp only[eY,nB,c2,hxs,e2]
          have:=iY ti.bv c4
          omega
         have hneed:X.len+rs.length<=9223372036854775807:=by
          have:=UT (X.len+rs.length) (UU (show ei.bytes≠0 by rw[e3];exact yy));omega
         have hrun:=run_append_grow (P:=P) w ty o.type ti.elem ei ez sp.fk e1 e4 ⟨X.b,0,none⟩ X.len X.cap _ hol holds ad rs.length cap news (by rw[src.len,e2]) hcells (by omega) (by omega) (growslice_fits (by omega) hbytes)
         rw[<-hev]at hrun
         have hge:=grownCap_ge w (X.len+rs.length) X.cap ti.elem
         have hcm:grownCap w (X.len+rs.length) X.cap ti.elem<=9223372036854775807:=grownCap_le_maxLen w _ X.cap ti.elem hneed
         generalize grownCap w (X.len+rs.length) X.cap ti.elem=C at hrun hge hcm
         have hcs:((cs.toList.take (X.len*ei.size)).toArray++news.toArray++gF ez.cells (C - (X.len+rs.length))).size=C*ti.bv:=by
          simp only[vJ,l3,size_zeroCells,hol,src.len,e5]
          rw[e2,<-fB,<-fB]
          congr 1;omega
         have dJ : ∀q,((cs.toList.take (X.len*ei.size)).toArray++news.toArray++gF ez.cells (C - (X.len+rs.length)))[q]? = if q<X.len*ei.size then cs[q]? else if q<X.len*ei.size+news.length then news[q - X.len*ei.size]? else ((cs.toList.take (X.len*ei.size)).toArray++news.toArray++gF ez.cells (C - (X.len+rs.length)))[q]?:=by
          intro q
          split
          .rw[Array.append_assoc,K4 (by rw[l3,hol];assumption),FB,mB,if_pos ‹_›]
           simp
          .split
           .rw[K4 (by simp only[vJ,l3,hol];assumption),Array.getElem?_append_right (by rw[l3,hol];omega)]
            simp[hol]
           .rfl
         generalize ((cs.toList.take (X.len*ei.size)).toArray++news.toArray++gF ez.cells (C - (X.len+rs.length)))=NN at hrun dJ hcs
         have gj:kE B [j] w S β (w.drew.alloc (.cells NN ti.elem)) S (gc β j ⟨true,w.heap.size,X.len+rs.length,C,ti.bv⟩):=
          ⟨((Gh B w S β).below).trans ((dW.refl B w.drew).alloc (show ∀k,B k->k<w.drew.heap.size from inv.base) _),fun b hb=>heap_alloc_old w.drew _ (inv.lt b hb),fun _ h=>h,fun _ h=> .inl h,fun k x hk hx=>by rw[e9 β _ (by simpa using hk)];exact hx,fun k x _ hk hx=>by rw[e9 β _ (by simpa using hk)]at hx;exact hx⟩
         refine fin ⟨true,w.heap.size,X.len+rs.length,C,ti.bv⟩ _ _ hrun rfl gj (fun k y hk hy hr=>heap_alloc_old w.drew _ (inv.new k y hy hr).2.1) (.inr (bR _)) (by simp) ?_ rfl
         refine⟨NN,ti.elem,heap_alloc_new w.drew _,hcs,by simp[hlen],hge,hcm,fun _=>⟨rfl,rfl⟩,(fun hh=>by cases hh),fun i1 row hi1=>?_⟩
         rcases hrowget i1 row hi1 with ⟨hlt,hi⟩ | ⟨hge',hi⟩
         .refine⟨by rw[(c8 i1 row hi).1,hxs],fun q x1 hq=>?_⟩
          obtain⟨u,hu,hru⟩:=(c8 i1 row hi).2 q x1 hq
          have hql:q<X.size:=by rw[<-(c8 i1 row hi).1];exact(cO.1 hq).1
          have h3:(i1+1)*X.size<=X.len*X.size:=iY _ (by omega)
          rw[fB]at h3
          rw[hbox]at hru
          refine⟨u,?_,by simp only[ij,if_false]at hru ⊢;exact hru.mono gj.keep fun _ h=>h⟩
          show NN[i1*ti.bv+q]? = some u
          rw[<-hxs,dJ,if_pos (by rw[e2,<-hxs];omega)];exact hu
         .refine⟨hall row (cL hi),fun q x1 hq=>?_⟩
          obtain⟨u,hu,hru⟩:=hsrc _ row q x1 hi hq
          have hql:(i1 - bl.rows.length)*ti.bv+q<rs.length*ti.bv:=by have:=(cO.1 hu).1;rw[src.len]at this;exact this
          have hi1e:i1*ti.bv=X.len*ei.size+(i1 - bl.rows.length)*ti.bv:=by rw[e2,<-fB];congr 1;omega
          refine⟨u,?_,by simp only[ij,if_false];exact hru.mono gj.keep fun _ h=>h⟩
          show NN[i1*ti.bv+q]? = some u
          rw[dJ,hi1e,if_neg (by omega),if_pos (by rw[src.len];omega),<-hu]
          congr 1
          omega
    .rw[T.aO]at hn;exact hn.elim
   .rw[T.aO]at hn;exact hn.elim
  .rw[T.aO]at hn;exact hn.elim
end
end
section
variable {P : Program} {E : Env}
section
variable {B : Nat -> Prop} {o : Oper} {a : Act} {w w' : World} {S S' : Nat -> Prop} {β β' : Nat -> Option BI} {h : Heap} {av : AV} {v : Value} {hg : Nat -> Option ah}
theorem mR : ∀ {l acc:List Nat} {k:Nat},k∈gb acc l↔k∈acc\/k∈l
 | [],acc,k=>by simp[gb]
 | j::l,acc,k=>by
  simp only[gb]
  split
  .rename_i hj
   rw[mR (l:=l)]
   have:=td hj
   simp only[cK]
   constructor
   .rintro(h | h)
    .exact .inl h
    .exact .inr (.inr h)
   .rintro(h | h | h)
    .exact .inl h
    .subst h;exact .inl this
    .exact .inr h
  .rw[mR (l:=l)]
   simp only[List.mem_append,cK,List.mem_nil_iff,or_false]
   constructor
   .rintro((h | h) | h)
    .exact .inl h
    .exact .inr (.inl h)
    .exact .inr (.inr h)
   .rintro(h | h | h)
    .exact .inl (.inl h)
    .exact .inl (.inr h)
    .exact .inr h
theorem mS : ∀(n:Nat) {ks:List Nat} {k:Nat},k∈ks->k∈reach hg n ks
 | 0,ks,k,h=>h
 | n+1,ks,k,h=>mS n (mR.2 (.inl h))
theorem Wg {hg':Nat->Option ah} : ∀(n:Nat) {ks:List Nat},(∀k∈reach hg n ks,hg' k=hg k)->reach hg' n ks=reach hg n ks
 | 0,ks,_=>rfl
 | n+1,ks,hh=>by
  have e:ks.flatMap (fE hg')=ks.flatMap (fE hg):=by
   rw[vK,vK]
   congr 1
   refine k9 fun k hk=>?_
   unfold fE
   rw[hh k (mS (n+1) hk)]
  show reach hg' n (gb ks (ks.flatMap (fE hg')))=reach hg n (gb ks (ks.flatMap (fE hg)))
  rw[e]
  exact Wg n hh
theorem Wh {hg':Nat->Option ah} : ∀(n:Nat) {ks:List Nat},(∀k∈reach hg n ks,hg' k=hg k)->reach hg' (n+1) ks=reach hg (n+1) ks
 | 0,ks,hh=>by
  have e:ks.flatMap (fE hg')=ks.flatMap (fE hg):=by
   rw[vK,vK]
   congr 1
   refine k9 fun k hk=>?_
   unfold fE
   rw[hh k hk]
  show gb ks (ks.flatMap (fE hg'))=gb ks (ks.flatMap (fE hg))
  rw[e]
 | n+1,ks,hh=>by
  have e:ks.flatMap (fE hg')=ks.flatMap (fE hg):=by
   rw[vK,vK]
   congr 1
   refine k9 fun k hk=>?_
   unfold fE
   rw[hh k (mS (n+1) hk)]
  show reach hg' (n+1) (gb ks (ks.flatMap (fE hg')))=reach hg (n+1) (gb ks (ks.flatMap (fE hg)))
  rw[e]
  exact Wh n hh
theorem Mj : ∀(n:Nat) {ks:List Nat} {k j:Nat} {b:ah},k∈reach hg n ks->hg k=some b->j∈jc b->j∈reach hg (n+1) ks
 | 0,ks,k,j,b,hk,hb,hj=>by
  show j∈gb ks (ks.flatMap (fE hg))
  exact mR.2 (.inr (eF.2 ⟨k,hk,by unfold fE;rw[hb];exact hj⟩))
 | n+1,ks,k,j,b,hk,hb,hj=>Mj n hk hb hj
theorem Mk {ks:List Nat} (hc:sS hg ks=true) : ∀k∈ks,∃b,hg k=some b /\ ∀j∈jc b,j∈ks:=by
 intro k hk
 have:=bP.1 hc k hk
 cases hb:hg k with
 | none=>rw[hb]at this;cases this
 | some b=>
  rw[hb]at this
  exact⟨b,rfl,fun j hj=>td (bP.1 this j hj)⟩
theorem Wi {x:AV} {k:Nat} (hk:k∈du x):k∈bK x:=by
 cases x<;>first | exact hk | (simp[du,dk]at hk)
theorem fy.fD {f:Nat->Nat} {bl:ah} {x:BI} (hβ : ∀k∈jc bl,∀y,β k=some y->β' (f k)=some y) (hk:fy w S β bl x):fy w S β' (bl.fD f) x:=by
 obtain⟨cs,ty,c1,c2,c3,c4,c5,c6,c7,c8⟩:=hk
 unfold ah.fD
 split
 .rename_i hbx
  refine⟨cs,ty,c1,c2,by simpa using c3,c4,c5,c6,c7,fun i row hi=>?_⟩
  simp only[dM,eZ]at hi
  obtain⟨row0,hi0,rfl⟩:=hi
  obtain⟨c9,c10⟩:=c8 i row0 hi0
  refine⟨by simpa using c9,fun q y0 hq=>?_⟩
  simp only[dM,eZ]at hq
  obtain⟨y1,hq1,rfl⟩:=hq
  obtain⟨v1,hv1,hr1⟩:=c10 q y1 hq1
  rw[hbx]at hr1
  refine⟨v1,hv1,?_⟩
  rw[hbx]
  simp only[if_true]at hr1 ⊢
  refine Mb (fun k hk=>hβ k ?_) hr1
  unfold jc
  rw[hbx]
  simp only[eF]
  exact⟨row0,cL hi0,y1,cL hq1,Wi hk⟩
 .rename_i hbx
  refine⟨cs,ty,c1,c2,c3,c4,c5,c6,c7,fun i row hi=>?_⟩
  obtain⟨c9,c10⟩:=c8 i row hi
  refine⟨c9,fun q y0 hq=>?_⟩
  obtain⟨v1,hv1,hr1⟩:=c10 q y0 hq
  rw[hbx]at hr1
  exact⟨v1,hv1,by rw[hbx];simpa using hr1⟩
theorem Ml {f:Nat->Nat} {bl:ah} (hv:bl.rows=[]/\bl.box=false):(bl.fD f).rows=[]/\(bl.fD f).box=false:=by
 unfold ah.fD
 rw[hv.2]
 exact hv
theorem Gq {ks:List Nat} : ∀ {l:List Nat} {acc:Heap} {k':Nat} {bl:ah},an (jD hg ks l acc) k'=some bl->(∃k∈l,k'=ep ks k /\ ∃b,hg k=some b/\bl=b.fD (ep ks))\/an acc k'=some bl
 | [],acc,k',bl,hh=> .inr hh
 | k::l,acc,k',bl,hh=>by
  simp only[jD]at hh
  split at hh
  .rename_i b hb
   rcases Gq (l:=l) hh with ⟨k1,h1,h2⟩ | h1
   .exact .inl ⟨k1,by simp[h1],h2⟩
   .simp only[an]at h1
    split at h1
    .rename_i he
     cases h1
     exact .inl ⟨k,by simp,beq_true.1 he,b,hb,rfl⟩
    .exact .inr h1
  .rcases Gq (l:=l) hh with ⟨k1,h1,h2⟩ | h1
   .exact .inl ⟨k1,by simp[h1],h2⟩
   .exact .inr h1
theorem Mm {ks:List Nat} : ∀ {l:List Nat} {acc:Heap} {k':Nat},an acc k'≠none->an (jD hg ks l acc) k'≠none
 | [],acc,k',hh=>hh
 | k::l,acc,k',hh=>by
  simp only[jD]
  split
  .refine Mm (l:=l) ?_
   simp only[an]
   split
   .simp
   .exact hh
  .exact Mm (l:=l) hh
theorem Mn {ks:List Nat} : ∀ {l:List Nat} {acc:Heap} {k:Nat},k∈l->hg k≠none->an (jD hg ks l acc) (ep ks k)≠none
 | j::l,acc,k,hk,hb=>by
  simp only[jD]
  by_cases e:k=j
  .subst e
   cases hj:hg k with
   | none=>exact absurd hj hb
   | some b=>
    refine Mm ?_
    simp[an]
  .have hl:k∈l:=by rcases cK.1 hk with h | h;exact absurd h e;exact h
   split
   .exact Mn hl hb
   .exact Mn hl hb
theorem Wj {f:Nat->Nat} {g:ah->ah} : ∀ {m:Heap} {k:Nat},(∀p∈m,f p.1=f k->p.1=k)->an (m.map fun q=>(f q.1,g q.2)) (f k)=(an m k).map g
 | [],k,_=>rfl
 | (j,b)::m,k,hi=>by
  simp only[gP,an]
  by_cases e:k=j
  .subst e
   rw[beq_true.2 rfl,beq_true.2 rfl];rfl
  .rw[beq_false.2 e,beq_false.2 (fun e2=>e (hi (j,b) (by simp) e2.symm).symm)]
   exact Wj fun p hp=>hi p (by simp[hp])
theorem Wk : ∀ {m:Heap},(m.map (·.1)).Nodup->l8 m=true
 | [],_=>rfl
 | p::m,h=>by
  simp only[gP,BY]at h
  simp only[l8]
  have:(m.map (·.1)).elem p.1=false:=by rw[<-BR];exact fun hh=>h.1 (td hh)
  rw[this]
  exact Wk h.2
theorem qY {m:Heap} {k:Nat} (hk:k∈m.map (·.1)) : ∃b,an m k=some b:=by
 induction m with
 | nil=>simp at hk
 | cons p m ih=>
  obtain⟨j,b⟩:=p
  simp only[an]
  split
  .exact⟨b,rfl⟩
  .rename_i hne
   simp only[gP,cK]at hk
   rcases hk with h | h
   .exact absurd h (beq_false.1 hne)
   .exact ih h
def lA (β:Nat->Option BI) (ks:List Nat):Nat->Option BI:=fun k=>if 900<=k then (ks[k - 900]?).bind β else none
theorem th {ks:List Nat} {k':Nat} {x:BI} (hh:lA β ks k'=some x) : ∃k,ks[k' - 900]? = some k/\900<=k'/\β k=some x:=by
 unfold lA at hh
 split at hh
 .rename_i hge
  rw[UL]at hh
  obtain⟨k,h1,h2⟩:=hh
  exact⟨k,h1,hge,h2⟩
 .cases hh
theorem CF {ks:List Nat} {k:Nat} (hk:k∈ks):lA β ks (ep ks k)=β k:=by
 unfold lA ep
 rw[if_pos (by omega),show 900+ik ks k - 900=ik ks k by omega,kG hk]
 rfl
theorem Wl {ks:List Nat} {i k:Nat} (hn:ks.Nodup) (hi:ks[i]? = some k):ep ks k=900+i:=by
 have hk:=cL hi
 obtain⟨l1,e1⟩:=cO.1 (kG hk)
 obtain⟨l2,e2⟩:=cO.1 hi
 unfold ep
 rw[CC hn l1 l2 (by rw[e1,e2])]
theorem Wm {ks:List Nat} {k k':Nat} (hk:k∈ks) (hk':k'∈ks) (e:ep ks k=ep ks k'):k=k':=by
 have h1:=kG hk
 have h2:=kG hk'
 unfold ep at e
 rw[show ik ks k=ik ks k' by omega,h2]at h1
 cases h1;rfl
theorem Wn {ks:List Nat} {k:Nat} (hk:k∈ks):ep ks k<900+ks.length:=by
 obtain⟨l1,_⟩:=cO.1 (kG hk)
 unfold ep;omega
theorem ah4 (inv:Inv E B w S β h) {ks:List Nat} (hcl:sS (an h) ks=true) (hnd:ks.Nodup):mO E.dH (je w (lA β ks)) w S (lA β ks) (jD (an h) ks ks []):=by
 have hcl:=Mk hcl
 refine⟨fun b hb=>hb.1,inv.lt,fun k k' x x' h1 h2 r1 r2 e=>?_,fun k x h1 r1=>?_,fun k x h1=>?_,fun k bl h1=>?_,inv.dH⟩
 .obtain⟨j,j1,j2,j3⟩:=th h1
  obtain⟨j',j1',j2',j3'⟩:=th h2
  have:=inv.inj j j' x x' j3 j3' r1 r2 e
  subst this
  obtain⟨l1,e1⟩:=cO.1 j1
  obtain⟨l2,e2⟩:=cO.1 j1'
  have:=CC hnd l1 l2 (by rw[e1,e2])
  omega
 .obtain⟨j,j1,j2,j3⟩:=th h1
  obtain⟨n1,n2,n3⟩:=inv.new j x j3 r1
  exact⟨fun hh=>hh.2 ⟨k,x,h1,r1,rfl⟩,n2,n3⟩
 .obtain⟨j,j1,j2,j3⟩:=th h1
  have hj:=cL j1
  obtain⟨bl,b1,b2,b3⟩:=inv.di j x j3
  obtain⟨bl',c1,c2⟩:=hcl j hj
  rw[b1]at c1
  cases c1
  have hkey:ep ks j=k:=by rw[Wl hnd j1];omega
  have:an (jD (an h) ks ks []) k=some (bl.fD (ep ks)):=by
   cases hm:an (jD (an h) ks ks []) k with
   | none=>rw[<-hkey]at hm;exact absurd hm (Mn hj (by rw[b1];simp))
   | some b=>
    rcases Gq hm with ⟨j',q1,q2,b',q3,rfl⟩ | hh
    .have:=Wm hj q1 (by rw[hkey,q2])
     subst this
     rw[b1]at q3
     cases q3;rfl
    .cases hh
  refine⟨_,this,fun hr=>?_,fun hr=>Ml (b3 hr)⟩
  refine(b2 hr).fD fun q hq y hy=>?_
  rw[CF (c2 q hq)]
  exact hy
 .rcases Gq h1 with ⟨j,q1,q2,b,q3,rfl⟩ | hh
  .obtain⟨x,hx⟩:=inv.il j b q3
   exact⟨x,by rw[q2,CF q1];exact hx⟩
  .cases hh
theorem CG {ks:List Nat} {d k:Nat} (hk:k∈ks):cV ks d (ep ks k)=k:=by
 unfold cV ep
 have:aP 900 (900+ik ks k)=true:=by simp
 rw[this]
 simp only[List.getD_eq_getElem?_getD]
 rw[show 900+ik ks k - 900=ik ks k by omega,kG hk]
 rfl
theorem Wo {f:Nat->Nat} : ∀ {l:List Nat},l.Nodup->(∀x∈l,∀y∈l,f x=f y->x=y)->(l.map f).Nodup
 | [],_,_=>List.nodup_nil
 | x::l,hn,hi=>by
  obtain⟨h1,h2⟩:=BY.1 hn
  refine BY.2 ⟨fun hh=>?_,Wo h2 fun y hy z hz=>hi y (by simp[hy]) z (by simp[hz])⟩
  obtain⟨y,hy,e⟩:=eQ.1 hh
  have:=hi y (by simp[hy]) x (by simp) e
  subst this
  exact h1 hy
theorem Wp (inv:Inv E B w S β h) {ks:List Nat} (hcl:sS (an h) ks=true) (hnd:ks.Nodup) (hlen:ks.length<=99) {d:Nat} {nw:Bool} {H:Heap} {mv:List Nat} (hok:wh E (an h) ks d nw H mv=true)
  (hbl:dW (je w (lA β ks)) w w') (hsub : ∀b,S b->S' b) (hnews : ∀b,S' b->S b \/ ¬je w (lA β ks) b) (inv':mO E.dH (je w (lA β ks)) w' S' β' H)
  (hst : ∀k x,nN k->k∉mv->β' k=some x->lA β ks k=some x) :
  ∃β2,Inv E B w' S' β2 (iy (h.map fun p=>(p.1,p.2.kill (mv.map (cV ks d)))) (H.map fun q=>(cV ks d q.1,q.2.fD (cV ks d))))/\kE B (mv.map (cV ks d)) w S β w' S' β2 /\ ∀k x,β' k=some x->β2 (cV ks d k)=some x:=by
 have hcl:=Mk hcl
 unfold wh at hok
 simp only[aG]at hok
 obtain⟨⟨⟨⟨o1,o2⟩,o3⟩,o4⟩,o5⟩:=hok
 have o1:=CB o1
 have o2 : ∀q∈H,(900<=q.1 /\ ∃k,ks[q.1 - 900]? = some k)\/(q.1<4/\nw=true/\an h (cz d q.1)=none):=by
  intro q hq
  have:=bP.1 o2 q hq
  split at this
  .rename_i hge
   have hlt:q.1 - 900<ks.length:=by simpa using this
   exact .inl ⟨by simpa using hge,_,bC hlt⟩
  .simp only[aG]at this
   refine .inr ⟨by simpa using this.1.2,this.1.1,?_⟩
   have h2:=this.2
   split at h2
   .assumption
   .cases h2
 have o3 : ∀k∈ks,ep ks k∈H.map (·.1):=fun k hk=>td (bP.1 o3 k hk)
 have o4 : ∀k∈mv,900<=k /\ ∃j,ks[k - 900]? = some j:=fun k hk=>by
  have:=bP.1 o4 k hk
  simp only[aG]at this
  have hlt:k - 900<ks.length:=by simpa using this.2
  exact⟨by simpa using this.1,_,bC hlt⟩
 have hkey : ∀k' b,an H k'=some b->(∃k∈ks,k'=ep ks k/\cV ks d k'=k)\/(k'<4/\nw=true/\cV ks d k'=cz d k'/\an h (cz d k')=none):=by
  intro k' b hb
  rcases o2 (k',b) (jf hb)with ⟨h1,k,h2⟩ | ⟨h1,h2,h3⟩
  .simp only at h1 h2
   have hk:=cL h2
   have e:ep ks k=k':=by rw[Wl hnd h2];omega
   exact .inl ⟨k,hk,e.symm,by rw[<-e,CG hk]⟩
  .simp only at h1 h3
   refine .inr ⟨h1,h2,?_,h3⟩
   unfold cV
   have:aP 900 k'=false:=by rw[<-BR];simp;omega
   rw[this]
 have hksome : ∀k∈ks,an h k≠none:=fun k hk=>by obtain⟨b,hb,_⟩:=hcl k hk;rw[hb];simp
 have hren : ∀k',k'<4->an h (cz d k')=none->cz d k'∉ks:=fun k' _ hn hh=>hksome _ hh hn
 let β2:Nat->Option BI:=fun k=>if k∈ks then β' (ep ks k) else match β k with
  | some x=>some x
  | none=>if cz d 0<=k/\k<cz d 4 then β' (k - cz d 0) else none
 have bi : ∀k' x,β' k'=some x->β2 (cV ks d k')=some x:=by
  intro k' x hx
  obtain⟨b,hb,_⟩:=inv'.di k' x hx
  rcases hkey k' b hb with ⟨k,hk,e1,e2⟩ | ⟨h1,_,h3,h4⟩
  .simp only[β2];rw[e2,if_pos hk,<-e1];exact hx
  .simp only[β2]
   rw[h3,if_neg (hren k' h1 h4),inv.fresh h4]
   simp only[]
   rw[if_pos (by simp only[cz];omega),show cz d k' - cz d 0=k' by simp only[cz];omega]
   exact hx
 have bc : ∀k x,β2 k=some x->(k∈ks/\β' (ep ks k)=some x)\/(k∉ks/\β k=some x)\/(∃j,j<4/\k=cz d j/\β' j=some x/\cV ks d j=k/\an h k=none):=by
  intro k x hx
  simp only[β2]at hx
  split at hx
  .exact .inl ⟨‹_›,hx⟩
  .rename_i hk
   split at hx
   .rename_i y hy;cases hx;exact .inr (.inl ⟨hk,hy⟩)
   .split at hx
    .rename_i hge
     obtain⟨b,hb,_⟩:=inv'.di _ x hx
     rcases hkey _ b hb with ⟨k2,hk2,e1,e2⟩ | ⟨h1,h2,h3,h4⟩
     .exfalso
      have hge2:900<=ep ks k2:=by unfold ep;omega
      simp only[cz]at hge e1;omega
     .have e:cz d (k - cz d 0)=k:=by simp only[cz]at hge ⊢;omega
      refine .inr (.inr ⟨k - cz d 0,h1,e.symm,hx,by rw[h3,e],by rw[<-e];exact h4⟩)
    .cases hx
 have hofB : ∀b,B b->je w (lA β ks) b:=fun b hb=>⟨inv.base b hb,by
  rintro⟨k,x,h1,h2,rfl⟩
  obtain⟨j,_,_,j3⟩:=th h1
  exact(inv.new j x j3 h2).1 hb⟩
 have hofS : ∀b,S b->je w (lA β ks) b:=fun b hb=>⟨inv.lt b hb,by
  rintro⟨k,x,h1,h2,rfl⟩
  obtain⟨j,_,_,j3⟩:=th h1
  exact(inv.new j x j3 h2).2.2 hb⟩
 have hofO : ∀k x,k∉ks->β k=some x->x.real=true->je w (lA β ks) x.b:=fun k x hk hx hr=>⟨(inv.new k x hx hr).2.1,by
  rintro⟨k',x',h1,h2,e⟩
  obtain⟨j,j1,_,j3⟩:=th h1
  have:=inv.inj j k x' x j3 hx h2 hr e
  subst this
  exact hk (cL j1)⟩
 have hsz:=hbl.size
 have hgr:kE B (mv.map (cV ks d)) w S β w' S' β2:=by
  refine⟨hbl.mono hofB,fun b hb=>hbl.block b (hofS b hb),hsub,fun b hb=>(hnews b hb).imp id fun h hB=>h (hofB b hB),fun k x hk hx=>?_,fun k x hi hk hx=>?_⟩
  .by_cases hks:k∈ks
   .simp only[β2]
    rw[if_pos hks]
    obtain⟨b,hb⟩:=qY (o3 k hks)
    obtain⟨x',hx'⟩:=inv'.il _ b hb
    have hin:nN (ep ks k):=⟨by unfold ep;omega,by have:=Wn hks;omega⟩
    have:=hst _ x' hin (fun hm=>hk (eQ.2 ⟨_,hm,CG hks⟩)) hx'
    rw[CF hks,hx]at this
    cases this
    exact hx'
   .simp only[β2]
    rw[if_neg hks,hx]
  .rcases bc k x hx with ⟨h1,h2⟩ | ⟨h1,h2⟩ | ⟨j,h1,rfl,_⟩
   .have hin:nN (ep ks k):=⟨by unfold ep;omega,by have:=Wn h1;omega⟩
    have:=hst _ x hin (fun hm=>hk (eQ.2 ⟨_,hm,CG h1⟩)) h2
    rw[CF h1]at this
    exact this
   .exact h2
   .have:=hi.2;simp only[cz]at this;omega
 have hinj : ∀p∈H,∀k,k∈H.map (·.1)->cV ks d p.1=cV ks d k->p.1=k:=by
  intro p hp k hk e
  obtain⟨b2,hb2⟩:=qY hk
  obtain⟨b1,hb1⟩:=qY (m:=H) (k:=p.1) (BX hp)
  rcases hkey _ b1 hb1 with ⟨k1,q1,q2,q3⟩ | ⟨q1,_,q3,q4⟩<;>rcases hkey _ b2 hb2 with ⟨k2,r1,r2,r3⟩ | ⟨r1,_,r3,r4⟩
  .rw[q3,r3]at e;rw[q2,r2,e]
  .rw[q3,r3]at e;rw[e]at q1;exact absurd q1 (hren _ r1 r4)
  .rw[q3,r3]at e;rw[<-e]at r1;exact absurd r1 (hren _ q1 q4)
  .rw[q3,r3]at e;simp only[cz]at e;omega
 have hnd2:l8 (H.map fun q=>(cV ks d q.1,q.2.fD (cV ks d)))=true:=by
  refine Wk ?_
  rw[K2]
  have:((fun(x:Nat×ah)=>x.1) ∘ fun q:Nat×ah=>(cV ks d q.1,q.2.fD (cV ks d)))=(cV ks d) ∘ fun(x:Nat×ah)=>x.1:=rfl
  rw[this,<-K2]
  refine Wo o1 fun x hx y hy e=>?_
  obtain⟨p,hp,rfl⟩:=eQ.1 hx
  exact hinj p hp y hy e
 have hmg : ∀k,an (iy (h.map fun p=>(p.1,p.2.kill (mv.map (cV ks d)))) (H.map fun q=>(cV ks d q.1,q.2.fD (cV ks d)))) k=(an (H.map fun q=>(cV ks d q.1,q.2.fD (cV ks d))) k).or ((an h k).map (ah.kill (mv.map (cV ks d)))):=by
  intro k
  rw[Cz,Md hnd2,gf]
 have hat : ∀k' b,an H k'=some b->an (H.map fun q=>(cV ks d q.1,q.2.fD (cV ks d))) (cV ks d k')=some (b.fD (cV ks d)):=by
  intro k' b hb
  rw[Wj fun p hp e=>hinj p hp k' (eQ.2 ⟨(k',b),jf hb,rfl⟩) e,hb]
  rfl
 refine⟨β2,⟨fun b hb=>by have:=inv.base b hb;omega,inv'.lt,fun k k' x x' h1 h2 r1 r2 e=>?_,fun k x h1 r1=>?_,fun k x h1=>?_,fun k bl h1=>?_,fun gl row hg=>(inv.dH gl row hg).mono hgr.keep hgr.sub⟩,hgr,bi⟩
 .-- one key a block
  have far : ∀c x k' x',β' c=some x->x.real=true->k'∉ks->β k'=some x'->x'.real=true->x.b≠x'.b:=by
   intro c x k' x' hc hr hk' hx' hr' e
   have:=(inv'.new c x hc hr).1
   rw[e]at this
   exact this (hofO k' x' hk' hx' hr')
  rcases bc k x h1 with ⟨p1,p2⟩ | ⟨p1,p2⟩ | ⟨j,p1,rfl,p2,p3,_⟩<;>rcases bc k' x' h2 with ⟨q1,q2⟩ | ⟨q1,q2⟩ | ⟨j',q1,rfl,q2,q3,_⟩
  .exact Wm p1 q1 (inv'.inj _ _ x x' p2 q2 r1 r2 e)
  .exact absurd e (far _ x k' x' p2 r1 q1 q2 r2)
  .have:=inv'.inj _ _ x x' p2 q2 r1 r2 e
   have hge:900<=ep ks k:=by unfold ep;omega
   omega
  .exact absurd e.symm (far _ x' k x q2 r2 p1 p2 r1)
  .exact inv.inj k k' x x' p2 q2 r1 r2 e
  .exact absurd e.symm (far _ x' k x q2 r2 p1 p2 r1)
  .have:=inv'.inj _ _ x x' p2 q2 r1 r2 e
   have hge:900<=ep ks k':=by unfold ep;omega
   omega
  .exact absurd e (far _ x k' x' p2 r1 q1 q2 r2)
  .rw[inv'.inj _ _ x x' p2 q2 r1 r2 e]
 .have viaH : ∀c,β' c=some x -> ¬B x.b/\x.b<w'.heap.size /\ ¬S' x.b:=by
   intro c hc
   obtain⟨n1,n2,n3⟩:=inv'.new c x hc r1
   exact⟨fun hB=>n1 (hofB _ hB),n2,n3⟩
  rcases bc k x h1 with ⟨p1,p2⟩ | ⟨p1,p2⟩ | ⟨j,p1,rfl,p2,p3,_⟩
  .exact viaH _ p2
  .obtain⟨n1,n2,n3⟩:=inv.new k x p2 r1
   exact⟨n1,by omega,fun hs=>(hnews _ hs).elim n3 fun hh=>hh (hofO k x p1 p2 r1)⟩
  .exact viaH _ p2
 .have viaH : ∀c,cV ks d c=k->β' c=some x -> ∃bl,an (iy (h.map fun p=>(p.1,p.2.kill (mv.map (cV ks d)))) (H.map fun q=>(cV ks d q.1,q.2.fD (cV ks d)))) k=some bl/\(x.real=true->fy w' S' β2 bl x)/\(x.real=false->bl.rows=[]/\bl.box=false):=by
   intro c hc hx
   obtain⟨bl,a1,a2,a3⟩:=inv'.di c x hx
   refine⟨bl.fD (cV ks d),by rw[hmg,<-hc,hat c bl a1];rfl,fun hr=>(a2 hr).fD fun q _ y hy=>bi q y hy,fun hr=>Ml (a3 hr)⟩
  rcases bc k x h1 with ⟨p1,p2⟩ | ⟨p1,p2⟩ | ⟨j,p1,e,p2,p3,_⟩
  .exact viaH _ (CG p1) p2
  .obtain⟨bl,a1,a2,a3⟩:=inv.di k x p2
   have hno:an (H.map fun q=>(cV ks d q.1,q.2.fD (cV ks d))) k=none:=by
    cases hm:an (H.map fun q=>(cV ks d q.1,q.2.fD (cV ks d))) k with
    | none=>rfl
    | some y=>
     exfalso
     obtain⟨q,hq,e⟩:=eQ.1 (jf hm)
     have e:cV ks d q.1=k:=congrArg K6 e
     obtain⟨b,hb⟩:=qY (m:=H) (k:=q.1) (BX hq)
     rcases hkey _ b hb with ⟨k1,q1,_,q3⟩ | ⟨_,_,q3,q4⟩
     .rw[q3]at e;rw[e]at q1;exact p1 q1
     .rw[q3]at e;rw[e,a1]at q4;cases q4
   refine⟨bl.kill (mv.map (cV ks d)),by rw[hmg,hno,a1];rfl,fun hr=>(a2 hr).kill hgr (hbl.block _ (hofO k x p1 p2 hr)),fun hr=>Gi (a3 hr)⟩
  .exact viaH _ p3 p2
 .rw[hmg]at h1
  cases hm:an (H.map fun q=>(cV ks d q.1,q.2.fD (cV ks d))) k with
  | some y=>
   obtain⟨q,hq,e⟩:=eQ.1 (jf hm)
   have e:cV ks d q.1=k:=congrArg K6 e
   obtain⟨b,hb⟩:=qY (m:=H) (k:=q.1) (BX hq)
   obtain⟨x,hx⟩:=inv'.il _ b hb
   exact⟨x,by rw[<-e];exact bi _ x hx⟩
  | none=>
   rw[hm]at h1
   cases hk:an h k with
   | none=>rw[hk]at h1;cases h1
   | some b=>
    obtain⟨x,hx⟩:=inv.il k b hk
    by_cases hks:k∈ks
    .obtain⟨b2,hb2⟩:=qY (o3 k hks)
     have:=hat _ b2 hb2
     rw[CG hks,hm]at this
     cases this
    .exact⟨x,by simp only[β2];rw[if_neg hks,hx]⟩
theorem ah5 (ok:aZ P E) (inv:Inv E B w S β h) {c:Call} {fo:Operand} (ho:o.op = .call c) (hc:c.callee = .value fo) {f:FuncId} {caps:List AV} (hf:RV w S β (.fn f caps) (a.eval fo))
  {uargs:List AV} (hargs:RL (RV w S β) uargs (c.args.toList.map a.eval)) {p:AV×Heap×List Nat} (hp:(qG E (an h) o.dst f (uargs++caps)).val=some p):Cw P E B o a w S β h p.1 p.2.1 p.2.2:=by
 obtain⟨cvs,hfv,hcaps⟩:=(show RC w S β (.fn f caps) (a.eval fo) from hf)
 have hall:RL (RV w S β) (uargs++caps) (c.args.toList.map a.eval++cvs):=hargs.append (hcaps.imp fun b hb u hu=>by
  by_cases hn : ∃g cs,b = .fn g cs
  .obtain⟨g,cs,rfl⟩:=hn
   cases(show R0 w S (.fn g cs) u from hu)with | fn=>exact⟨[],rfl,trivial⟩
  .exact RT.rv (RC.rt (by rw[nM (fun g cs e=>hn ⟨g,cs,e⟩)];exact hu)))
 unfold qG LH at hp
 split at hp
 .rename_i hck
  simp only[aG]at hck
  obtain⟨⟨hcl,hle⟩,hnd⟩:=hck
  have hnd:=CB hnd
  have hle:(reach (an h) 2 (gb [] ((uargs++caps).flatMap bK))).length<=99:=by simpa using hle
  have hroot : ∀x∈uargs++caps,∀k∈bK x,k∈reach (an h) 2 (gb [] ((uargs++caps).flatMap bK)):=fun x hx k hk=>mS 2 (mR.2 (.inr (eF.2 ⟨x,hx,hk⟩)))
  generalize reach (an h) 2 (gb [] ((uargs++caps).flatMap bK))=ks at hp hcl hle hnd hroot
  rw[T.bind_some]at hp
  obtain⟨⟨r,H,mv⟩,hE,hp⟩:=hp
  have hrun:=Wb (P:=P) (w:=w) (ok.ah7 f _ _ _ hE) ho hc hfv
  have hspec:=ok.ah6 f _ _ r H mv hE w S (lA β ks) _ (ah4 inv hcl hnd) (hall.map fun b hb u hu=>Cy (fun k hk y hy=>by rw[CF (hroot b hb k hk)];exact hy) hu)
  intro K Q hK
  unfold ol
  rw[hrun,Oper.upon_enter]
  refine hspec.mono ?_
  rintro e w' ⟨v,S',β',rfl,hbl,hsub,hnews,inv',hst,hrv⟩
  split at hp
  .rename_i d hd
   unfold sU at hp
   split at hp
   .rename_i hok
    rw[T.bw]at hp
    subst hp
    obtain⟨β2,i1,g1,b1⟩:=Wp inv hcl hnd hle hok hbl hsub hnews inv' hst
    exact hK v w' S' β2 i1 g1 (Cy (fun k _ y hy=>b1 k y hy) hrv)
   .rw[T.aO]at hp;exact hp.elim
  .unfold sU at hp
   split at hp
   .rename_i hok
    rw[T.bw]at hp
    subst hp
    obtain⟨β2,i1,g1,b1⟩:=Wp inv hcl hnd hle hok hbl hsub hnews inv' hst
    exact hK v w' S' β2 i1 g1 trivial
   .rw[T.aO]at hp;exact hp.elim
 .rw[T.aO]at hp;exact hp.elim
end
end
end Go.Proofs.YtaobkfpnebbohaaGreatDoor.M
