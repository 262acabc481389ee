/- What is proved here: what the body of a caption's text returns and leaves (no statement of the seat). -/
import Derived.Test.YthcfbeckhgngiaaDoorC117
namespace Go.Proofs.YthcfbeckhgngiaaDoor
open Go Go.RowKit
set_option linter.unusedVariables false
set_option linter.unusedSimpArgs false

/-- The lines of a caption up to an empty one; where it ends. -/
def F.bd : List ByteArray → List ByteArray → Nat → Bool × List ByteArray × Nat
  | [], acc, a => bif acc.isEmpty then (false, acc, a + 1) else (true, acc, a)
  | x :: r, acc, a => bif F.emp x && !acc.isEmpty then (true, acc, a) else bif F.line x then F.bd r (acc ++ [x]) (a + 1) else (false, acc, a + 1)

/-- No lines. -/
def F.isE (l : List ByteArray) : Bool := l.isEmpty

namespace M

theorem evAsI (s : ByteArray) : (runF en0 false Tryd.f46 [vS s]).val =
  some (AV.tup [(vS s), (vB true)], []) := (runFR_val).symm.trans (by kernel_rfl)

def encAsI1 (s : ByteArray) : List AV := [vS s]

def encAsI (a : ByteArray) : List AV := encAsI1 a

theorem encAsI_inj (a a' : ByteArray) (h : encAsI a = encAsI a') : a = a' := by
  simp only [encAsI, encAsI1] at h
  try simp [strs_inj, ints_inj, bools_inj, eL_eIs_inj, eCaps_inj, eCap_iff, eL_eCaps_inj, eMchs_inj, eMch_iff, eWrds_inj, eWrd_iff, eFnds_inj, eFnd_iff, eRatios_inj, eRatio_iff, eWays_inj, eWay_iff] at h
  grind

theorem unAsI (s : ByteArray) : unenc encAsI ([(vS s)]) = some (s) := unenc_of encAsI_inj (s) rfl

def resAsI1 (s : ByteArray) : AV × Heap := (.tup [vS s, vB true], [])

def preAsI1 (s : ByteArray) : Bool := true

noncomputable def oAsI : Orc := orc 46 true encAsI (fun a => preAsI1 a) fun a => resAsI1 a

theorem okAsI : OrcOK Tryd.prog noG oAsI := by
  refine mk_ok Tryd.f46 (keep := false) (by kernel_rfl) (by kernel_rfl) en0_ok mixed (no_loops (by kernel_rfl)) (by first | exact fun _ _ => ⟨rfl, rfl⟩ | (intro h; cases h)) ?_
  rintro s hpre hok
  show (runF en0 false _ (encAsI1 _)).val = some (resAsI1 _)
  unfold encAsI1 resAsI1
  rw [evAsI]
  done

def oC (ls : List ByteArray) : AV := match ls with
  | [] => .e0
  | _ :: _ => .own 69

def oB (ls : List ByteArray) : Heap := match ls with
  | [] => []
  | _ :: _ => [(69, ⟨false, 9, 1, ls.map eStr⟩)]

def stBo (L : List ByteArray) (fr : Int) (tt : Int) (a : Nat) : St := ⟨[(2, .fn 46 []), (1, .ptr 901 0 0), (0, .ptr 900 0 0)], [(901, ⟨true, 0, 0, [[vI fr, vI tt, .e0, vI 0, vB false, vB false]]⟩), (900, ⟨true, 0, 0, [[.sl (L.map eStr), vI a]]⟩)]⟩

def stBo1 (a : (List ByteArray) × Int × Int × Nat) : St := stBo a.1 a.2.1 a.2.2.1 a.2.2.2

theorem stBo_inj (a a' : (List ByteArray) × Int × Int × Nat) (h : stBo1 a = stBo1 a') : a = a' := by
  simp only [stBo1, stBo] at h
  try simp [strs_inj, ints_inj, bools_inj, eL_eIs_inj, eCaps_inj, eCap_iff, eL_eCaps_inj, eMchs_inj, eMch_iff, eWrds_inj, eWrd_iff, eFnds_inj, eFnd_iff, eRatios_inj, eRatio_iff, eWays_inj, eWay_iff] at h
  grind

theorem unstBo (L : List ByteArray) (fr : Int) (tt : Int) (a : Nat) : unenc stBo1 (St.mk [(2, AV.fn (46 : FuncId) []), (1, .ptr 901 0 0), (0, .ptr 900 0 0)] [(901, Blk.mk true 0 0 [[(vI fr), (vI tt), AV.e0, (vI (0 : Int)), (vB false), (vB false)]]),
  (900, Blk.mk true 0 0 [[AV.sl (List.map eStr L), (vI (↑a : Int))]])]) = some (L, fr, tt, a) := unenc_of stBo_inj (L, fr, tt, a) rfl

def outBo (L : List ByteArray) (fr : Int) (tt : Int) (a : Nat) : T (Ex × St) := .ifB (F.bd (L.drop a) [] a).1
      (.ifB (decide ((F.bd (L.drop a) [] a).2.2 < L.length))
        (.ret (.ret, ⟨[(6, vB true)], [(901, ⟨true, 0, 0, [[vI fr, vI tt, .own 69, vI 0, vB false, vB false]]⟩), (900, ⟨true, 0, 0, [[.sl (L.map eStr), vI (F.bd (L.drop a) [] a).2.2]]⟩), (69, ⟨false, 9, 1, (F.bd (L.drop a) [] a).2.1.map eStr⟩)]⟩))
        (.ret (.exit 0, ⟨[], [(901, ⟨true, 0, 0, [[vI fr, vI tt, .own 69, vI 0, vB false, vB false]]⟩), (900, ⟨true, 0, 0, [[.sl (L.map eStr), vI (F.bd (L.drop a) [] a).2.2]]⟩), (69, ⟨false, 9, 1, (F.bd (L.drop a) [] a).2.1.map eStr⟩)]⟩)))
      (.ifB (F.isE (F.bd (L.drop a) [] a).2.1)
        (.ret (.ret, ⟨[(6, vB false)], [(901, ⟨true, 0, 0, [[vI fr, vI tt, .e0, vI 0, vB false, vB false]]⟩), (900, ⟨true, 0, 0, [[.sl (L.map eStr), vI (F.bd (L.drop a) [] a).2.2]]⟩)]⟩))
        (.ret (.ret, ⟨[(6, vB false)], [(901, ⟨true, 0, 0, [[vI fr, vI tt, .own 69, vI 0, vB false, vB false]]⟩), (900, ⟨true, 0, 0, [[.sl (L.map eStr), vI (F.bd (L.drop a) [] a).2.2]]⟩), (69, ⟨false, 9, 1, (F.bd (L.drop a) [] a).2.1.map eStr⟩)]⟩)))

noncomputable def prlBo (L : List ByteArray) (fr : Int) (tt : Int) (a : Nat) : Bool := F.linesOk L && decide (a ≤ 200001)

noncomputable def lpBo : Nat × (St → T (Ex × St)) := (1, lpo [2, 1, 0] [901, 900] stBo1 (fun a => prlBo a.1 a.2.1 a.2.2.1 a.2.2.2) fun a => outBo a.1 a.2.1 a.2.2.1 a.2.2.2)

def outBx (L : List ByteArray) (fr : Int) (tt : Int) (ls : List ByteArray) (a : Nat) : T (Ex × St) := .ifB (F.bd (L.drop a) ls a).1
      (.ifB (decide ((F.bd (L.drop a) ls a).2.2 < L.length))
        (.ret (.ret, ⟨[(6, vB true)], [(901, ⟨true, 0, 0, [[vI fr, vI tt, .own 69, vI 0, vB false, vB false]]⟩), (900, ⟨true, 0, 0, [[.sl (L.map eStr), vI (F.bd (L.drop a) ls a).2.2]]⟩), (69, ⟨false, 9, 1, (F.bd (L.drop a) ls a).2.1.map eStr⟩)]⟩))
        (.ret (.exit 0, ⟨[], [(901, ⟨true, 0, 0, [[vI fr, vI tt, .own 69, vI 0, vB false, vB false]]⟩), (900, ⟨true, 0, 0, [[.sl (L.map eStr), vI (F.bd (L.drop a) ls a).2.2]]⟩), (69, ⟨false, 9, 1, (F.bd (L.drop a) ls a).2.1.map eStr⟩)]⟩)))
      (.ifB (F.isE (F.bd (L.drop a) ls a).2.1)
        (.ret (.ret, ⟨[(6, vB false)], [(901, ⟨true, 0, 0, [[vI fr, vI tt, .e0, vI 0, vB false, vB false]]⟩), (900, ⟨true, 0, 0, [[.sl (L.map eStr), vI (F.bd (L.drop a) ls a).2.2]]⟩)]⟩))
        (.ret (.ret, ⟨[(6, vB false)], [(901, ⟨true, 0, 0, [[vI fr, vI tt, .own 69, vI 0, vB false, vB false]]⟩), (900, ⟨true, 0, 0, [[.sl (L.map eStr), vI (F.bd (L.drop a) ls a).2.2]]⟩), (69, ⟨false, 9, 1, (F.bd (L.drop a) ls a).2.1.map eStr⟩)]⟩)))

def stBx (L : List ByteArray) (fr : Int) (tt : Int) (ls : List ByteArray) (a : Nat) : St := ⟨[(2, .fn 46 []), (1, .ptr 901 0 0), (0, .ptr 900 0 0)], (901, ⟨true, 0, 0, [[vI fr, vI tt, oC ls, vI 0, vB false, vB false]]⟩) :: (900, ⟨true, 0, 0, [[.sl (L.map eStr), vI a]]⟩) :: oB ls⟩

noncomputable def enBo : Env := envH ty noG lks [oMor, oAsI, oLin] [oTak] [] [lpBo]

theorem enBo_ok : EnvOK Tryd.prog enBo := by
  refine envH_ok lks_ok ty_ok ?_ ?_
  · simp only [List.forall_mem_cons]
    exact ⟨okMor, okAsI, okLin, by simp⟩
  · simp only [List.forall_mem_cons]
    exact ⟨okTak, by simp⟩

def stBn (L : List ByteArray) (fr : Int) (tt : Int) (a : Nat) : St := ⟨[(2, .fn 46 []), (1, .ptr 901 0 0), (0, .ptr 900 0 0)], [(901, ⟨true, 0, 0, [[vI fr, vI tt, .e0, vI 0, vB false, vB false]]⟩), (900, ⟨true, 0, 0, [[.sl (L.map eStr), vI a]]⟩)]⟩

def stBs (L : List ByteArray) (fr : Int) (tt : Int) (ls : List ByteArray) (a : Nat) : St := ⟨[(2, .fn 46 []), (1, .ptr 901 0 0), (0, .ptr 900 0 0)], [(901, ⟨true, 0, 0, [[vI fr, vI tt, .own 69, vI 0, vB false, vB false]]⟩), (900, ⟨true, 0, 0, [[.sl (L.map eStr), vI a]]⟩), (69, ⟨false, 9, 1, ls.map eStr⟩)]⟩

theorem evBoN (L : List ByteArray) (fr : Int) (tt : Int) (a : Nat) : ((exec enBo (loopN Tryd.f45 0) (stBn L fr tt a)).bind (lessX ([2, 1, 0], [901, 900, 69]) ([], [901, 900, 69]) ([6], [901, 900, 69]))).val =
  Option.bind (unenc encMor [AV.pel [AV.sl (List.map eStr L), (vI (↑a : Int))] (0 : Nat)]) fun (z : List ByteArray × Nat) => bif !F.tkB z.fst z.snd then Option.bind (unenc
  encMor [AV.pel [AV.sl (List.map eStr L), (vI (↑a : Int))] (0 : Nat)]) fun (z : List ByteArray × Nat) => bif F.tkB z.fst z.snd then Option.bind (unenc (List.map eStr)
  (List.map eStr L)) fun (z : List ByteArray) => bif decide (a < List.length z) then bif ByteArray.toList (List.getD z a (ByteArray.mk (Array.mk []))) == ByteArray.toList
  (ByteArray.mk (Array.mk [])) then Option.bind (unenc encTak ([.ptr 900 0 0], [(900, Blk.mk true 0 0 [[AV.sl (List.map eStr L), (vI (↑a : Int))]])])) fun (z : List
  ByteArray × Nat) => bif F.linesOk z.fst && decide (z.snd ≤ (200001 : Nat)) then bif !F.tkB z.fst z.snd then some (Ex.ret, St.mk [(6, (vB false))] [(901, Blk.mk true 0 0
  [[(vI fr), (vI tt), AV.e0, (vI (0 : Int)), (vB false), (vB false)]]), (900, Blk.mk true 0 0 [[AV.sl (List.map eStr z.fst), (vI (↑(z.snd + (1 : Nat)) : Int))]])]) else
  Option.bind (unenc encAsI [(vS (F.tkS z.fst z.snd))]) fun (z_1 : ByteArray) => Option.bind (unenc encLin [(vS z_1)]) fun (z_2 : ByteArray) => bif F.small z_2 then bif
  !F.line z_2 then some (Ex.ret, St.mk [(6, (vB false))] [(901, Blk.mk true 0 0 [[(vI fr), (vI tt), AV.e0, (vI (0 : Int)), (vB false), (vB false)]]), (900, Blk.mk true 0 0
  [[AV.sl (List.map eStr z.fst), (vI (↑(z.snd + (1 : Nat)) : Int))]])]) else some (Ex.normal, St.mk [(2, AV.fn (46 : FuncId) []), (1, .ptr 901 0 0), (0, .ptr 900 0 0)]
  [(901, Blk.mk true 0 0 [[(vI fr), (vI tt), .own 69, (vI (0 : Int)), (vB false), (vB false)]]), (900, Blk.mk true 0 0 [[AV.sl (List.map eStr z.fst), (vI (↑(z.snd + (1 :
  Nat)) : Int))]]), (69, Blk.mk false 9 1 [[(vS z_1)]])]) else none else none else Option.bind (unenc encTak ([.ptr 900 0 0], [(900, Blk.mk true 0 0 [[AV.sl (List.map eStr
  L), (vI (↑a : Int))]])])) fun (z : List ByteArray × Nat) => bif F.linesOk z.fst && decide (z.snd ≤ (200001 : Nat)) then bif !F.tkB z.fst z.snd then some (Ex.ret, St.mk
  [(6, (vB false))] [(901, Blk.mk true 0 0 [[(vI fr), (vI tt), AV.e0, (vI (0 : Int)), (vB false), (vB false)]]), (900, Blk.mk true 0 0 [[AV.sl (List.map eStr z.fst), (vI
  (↑(z.snd + (1 : Nat)) : Int))]])]) else Option.bind (unenc encAsI [(vS (F.tkS z.fst z.snd))]) fun (z_1 : ByteArray) => Option.bind (unenc encLin [(vS z_1)]) fun (z_2 :
  ByteArray) => bif F.small z_2 then bif !F.line z_2 then some (Ex.ret, St.mk [(6, (vB false))] [(901, Blk.mk true 0 0 [[(vI fr), (vI tt), AV.e0, (vI (0 : Int)), (vB false),
  (vB false)]]), (900, Blk.mk true 0 0 [[AV.sl (List.map eStr z.fst), (vI (↑(z.snd + (1 : Nat)) : Int))]])]) else some (Ex.normal, St.mk [(2, AV.fn (46 : FuncId) []), (1,
  .ptr 901 0 0), (0, .ptr 900 0 0)] [(901, Blk.mk true 0 0 [[(vI fr), (vI tt), .own 69, (vI (0 : Int)), (vB false), (vB false)]]), (900, Blk.mk true 0 0 [[AV.sl (List.map
  eStr z.fst), (vI (↑(z.snd + (1 : Nat)) : Int))]]), (69, Blk.mk false 9 1 [[(vS z_1)]])]) else none else none else none else Option.bind (unenc encTak ([.ptr 900 0 0],
  [(900, Blk.mk true 0 0 [[AV.sl (List.map eStr L), (vI (↑a : Int))]])])) fun (z : List ByteArray × Nat) => bif F.linesOk z.fst && decide (z.snd ≤ (200001 : Nat)) then bif
  !F.tkB z.fst z.snd then some (Ex.ret, St.mk [(6, (vB false))] [(901, Blk.mk true 0 0 [[(vI fr), (vI tt), AV.e0, (vI (0 : Int)), (vB false), (vB false)]]), (900, Blk.mk
  true 0 0 [[AV.sl (List.map eStr z.fst), (vI (↑(z.snd + (1 : Nat)) : Int))]])]) else Option.bind (unenc encAsI [(vS (F.tkS z.fst z.snd))]) fun (z_1 : ByteArray) =>
  Option.bind (unenc encLin [(vS z_1)]) fun (z_2 : ByteArray) => bif F.small z_2 then bif !F.line z_2 then some (Ex.ret, St.mk [(6, (vB false))] [(901, Blk.mk true 0 0 [[(vI
  fr), (vI tt), AV.e0, (vI (0 : Int)), (vB false), (vB false)]]), (900, Blk.mk true 0 0 [[AV.sl (List.map eStr z.fst), (vI (↑(z.snd + (1 : Nat)) : Int))]])]) else some
  (Ex.normal, St.mk [(2, AV.fn (46 : FuncId) []), (1, .ptr 901 0 0), (0, .ptr 900 0 0)] [(901, Blk.mk true 0 0 [[(vI fr), (vI tt), .own 69, (vI (0 : Int)), (vB false), (vB
  false)]]), (900, Blk.mk true 0 0 [[AV.sl (List.map eStr z.fst), (vI (↑(z.snd + (1 : Nat)) : Int))]]), (69, Blk.mk false 9 1 [[(vS z_1)]])]) else none else none else
  Option.bind (unenc encMor [AV.pel [AV.sl (List.map eStr L), (vI (↑a : Int))] (0 : Nat)]) fun (z : List ByteArray × Nat) => bif F.tkB z.fst z.snd then Option.bind (unenc
  (List.map eStr) (List.map eStr L)) fun (z : List ByteArray) => bif decide (a < List.length z) then bif ByteArray.toList (List.getD z a (ByteArray.mk (Array.mk []))) ==
  ByteArray.toList (ByteArray.mk (Array.mk [])) then Option.bind (unenc encTak ([.ptr 900 0 0], [(900, Blk.mk true 0 0 [[AV.sl (List.map eStr L), (vI (↑a : Int))]])])) fun
  (z : List ByteArray × Nat) => bif F.linesOk z.fst && decide (z.snd ≤ (200001 : Nat)) then bif !F.tkB z.fst z.snd then some (Ex.ret, St.mk [(6, (vB false))] [(901, Blk.mk
  true 0 0 [[(vI fr), (vI tt), AV.e0, (vI (0 : Int)), (vB false), (vB false)]]), (900, Blk.mk true 0 0 [[AV.sl (List.map eStr z.fst), (vI (↑(z.snd + (1 : Nat)) : Int))]])])
  else Option.bind (unenc encAsI [(vS (F.tkS z.fst z.snd))]) fun (z_1 : ByteArray) => Option.bind (unenc encLin [(vS z_1)]) fun (z_2 : ByteArray) => bif F.small z_2 then bif
  !F.line z_2 then some (Ex.ret, St.mk [(6, (vB false))] [(901, Blk.mk true 0 0 [[(vI fr), (vI tt), AV.e0, (vI (0 : Int)), (vB false), (vB false)]]), (900, Blk.mk true 0 0
  [[AV.sl (List.map eStr z.fst), (vI (↑(z.snd + (1 : Nat)) : Int))]])]) else some (Ex.normal, St.mk [(2, AV.fn (46 : FuncId) []), (1, .ptr 901 0 0), (0, .ptr 900 0 0)]
  [(901, Blk.mk true 0 0 [[(vI fr), (vI tt), .own 69, (vI (0 : Int)), (vB false), (vB false)]]), (900, Blk.mk true 0 0 [[AV.sl (List.map eStr z.fst), (vI (↑(z.snd + (1 :
  Nat)) : Int))]]), (69, Blk.mk false 9 1 [[(vS z_1)]])]) else none else none else Option.bind (unenc encTak ([.ptr 900 0 0], [(900, Blk.mk true 0 0 [[AV.sl (List.map eStr
  L), (vI (↑a : Int))]])])) fun (z : List ByteArray × Nat) => bif F.linesOk z.fst && decide (z.snd ≤ (200001 : Nat)) then bif !F.tkB z.fst z.snd then some (Ex.ret, St.mk
  [(6, (vB false))] [(901, Blk.mk true 0 0 [[(vI fr), (vI tt), AV.e0, (vI (0 : Int)), (vB false), (vB false)]]), (900, Blk.mk true 0 0 [[AV.sl (List.map eStr z.fst), (vI
  (↑(z.snd + (1 : Nat)) : Int))]])]) else Option.bind (unenc encAsI [(vS (F.tkS z.fst z.snd))]) fun (z_1 : ByteArray) => Option.bind (unenc encLin [(vS z_1)]) fun (z_2 :
  ByteArray) => bif F.small z_2 then bif !F.line z_2 then some (Ex.ret, St.mk [(6, (vB false))] [(901, Blk.mk true 0 0 [[(vI fr), (vI tt), AV.e0, (vI (0 : Int)), (vB false),
  (vB false)]]), (900, Blk.mk true 0 0 [[AV.sl (List.map eStr z.fst), (vI (↑(z.snd + (1 : Nat)) : Int))]])]) else some (Ex.normal, St.mk [(2, AV.fn (46 : FuncId) []), (1,
  .ptr 901 0 0), (0, .ptr 900 0 0)] [(901, Blk.mk true 0 0 [[(vI fr), (vI tt), .own 69, (vI (0 : Int)), (vB false), (vB false)]]), (900, Blk.mk true 0 0 [[AV.sl (List.map
  eStr z.fst), (vI (↑(z.snd + (1 : Nat)) : Int))]]), (69, Blk.mk false 9 1 [[(vS z_1)]])]) else none else none else none else Option.bind (unenc encTak ([.ptr 900 0 0],
  [(900, Blk.mk true 0 0 [[AV.sl (List.map eStr L), (vI (↑a : Int))]])])) fun (z : List ByteArray × Nat) => bif F.linesOk z.fst && decide (z.snd ≤ (200001 : Nat)) then bif
  !F.tkB z.fst z.snd then some (Ex.ret, St.mk [(6, (vB false))] [(901, Blk.mk true 0 0 [[(vI fr), (vI tt), AV.e0, (vI (0 : Int)), (vB false), (vB false)]]), (900, Blk.mk
  true 0 0 [[AV.sl (List.map eStr z.fst), (vI (↑(z.snd + (1 : Nat)) : Int))]])]) else Option.bind (unenc encAsI [(vS (F.tkS z.fst z.snd))]) fun (z_1 : ByteArray) =>
  Option.bind (unenc encLin [(vS z_1)]) fun (z_2 : ByteArray) => bif F.small z_2 then bif !F.line z_2 then some (Ex.ret, St.mk [(6, (vB false))] [(901, Blk.mk true 0 0 [[(vI
  fr), (vI tt), AV.e0, (vI (0 : Int)), (vB false), (vB false)]]), (900, Blk.mk true 0 0 [[AV.sl (List.map eStr z.fst), (vI (↑(z.snd + (1 : Nat)) : Int))]])]) else some
  (Ex.normal, St.mk [(2, AV.fn (46 : FuncId) []), (1, .ptr 901 0 0), (0, .ptr 900 0 0)] [(901, Blk.mk true 0 0 [[(vI fr), (vI tt), .own 69, (vI (0 : Int)), (vB false), (vB
  false)]]), (900, Blk.mk true 0 0 [[AV.sl (List.map eStr z.fst), (vI (↑(z.snd + (1 : Nat)) : Int))]]), (69, Blk.mk false 9 1 [[(vS z_1)]])]) else none else none := (execR_bind _ _ _).symm.trans (by kernel_rfl)

theorem evBoS (L : List ByteArray) (fr : Int) (tt : Int) (ls : List ByteArray) (a : Nat) : ((exec enBo (loopN Tryd.f45 0) (stBs L fr tt ls a)).bind (lessX ([2, 1, 0], [901, 900, 69]) ([], [901, 900, 69]) ([6], [901, 900, 69]))).val =
  Option.bind (unenc encMor [AV.pel [AV.sl (List.map eStr L), (vI (↑a : Int))] (0 : Nat)]) fun (z : List ByteArray × Nat) => bif !F.tkB z.fst z.snd then bif (↑(List.length
  (List.map eStr ls)) : Int) == (0 : Int) then Option.bind (unenc encMor [AV.pel [AV.sl (List.map eStr L), (vI (↑a : Int))] (0 : Nat)]) fun (z : List ByteArray × Nat) => bif
  F.tkB z.fst z.snd then Option.bind (unenc (List.map eStr) (List.map eStr L)) fun (z : List ByteArray) => bif decide (a < List.length z) then bif ByteArray.toList
  (List.getD z a (ByteArray.mk (Array.mk []))) == ByteArray.toList (ByteArray.mk (Array.mk [])) then bif decide ((0 : Int) < (↑(List.length (List.map eStr ls)) : Int)) then
  some (Ex.ret, St.mk [(6, (vB true))] [(901, Blk.mk true 0 0 [[(vI fr), (vI tt), .own 69, (vI (0 : Int)), (vB false), (vB false)]]), (900, Blk.mk true 0 0 [[AV.sl (List.map
  eStr L), (vI (↑a : Int))]]), (69, Blk.mk false 9 1 (List.map eStr ls))]) else Option.bind (unenc encTak ([.ptr 900 0 0], [(900, Blk.mk true 0 0 [[AV.sl (List.map eStr L),
  (vI (↑a : Int))]])])) fun (z : List ByteArray × Nat) => bif F.linesOk z.fst && decide (z.snd ≤ (200001 : Nat)) then bif !F.tkB z.fst z.snd then some (Ex.ret, St.mk [(6,
  (vB false))] [(901, Blk.mk true 0 0 [[(vI fr), (vI tt), .own 69, (vI (0 : Int)), (vB false), (vB false)]]), (900, Blk.mk true 0 0 [[AV.sl (List.map eStr z.fst), (vI
  (↑(z.snd + (1 : Nat)) : Int))]]), (69, Blk.mk false 9 1 (List.map eStr ls))]) else Option.bind (unenc encAsI [(vS (F.tkS z.fst z.snd))]) fun (z_1 : ByteArray) =>
  Option.bind (unenc encLin [(vS z_1)]) fun (z_2 : ByteArray) => bif F.small z_2 then bif !F.line z_2 then some (Ex.ret, St.mk [(6, (vB false))] [(901, Blk.mk true 0 0 [[(vI
  fr), (vI tt), .own 69, (vI (0 : Int)), (vB false), (vB false)]]), (900, Blk.mk true 0 0 [[AV.sl (List.map eStr z.fst), (vI (↑(z.snd + (1 : Nat)) : Int))]]), (69, Blk.mk
  false 9 1 (List.map eStr ls))]) else bif Nat.ble ((List.length (List.map eStr ls) + (1 : Nat)) * (16 : Nat)) (140737488355328 : Nat) && true then some (Ex.normal, St.mk
  [(2, AV.fn (46 : FuncId) []), (1, .ptr 901 0 0), (0, .ptr 900 0 0)] [(901, Blk.mk true 0 0 [[(vI fr), (vI tt), .own 69, (vI (0 : Int)), (vB false), (vB false)]]), (900,
  Blk.mk true 0 0 [[AV.sl (List.map eStr z.fst), (vI (↑(z.snd + (1 : Nat)) : Int))]]), (69, Blk.mk false 9 1 (List.map eStr ls ++ [[(vS z_1)]]))]) else none else none else
  none else Option.bind (unenc encTak ([.ptr 900 0 0], [(900, Blk.mk true 0 0 [[AV.sl (List.map eStr L), (vI (↑a : Int))]])])) fun (z : List ByteArray × Nat) => bif
  F.linesOk z.fst && decide (z.snd ≤ (200001 : Nat)) then bif !F.tkB z.fst z.snd then some (Ex.ret, St.mk [(6, (vB false))] [(901, Blk.mk true 0 0 [[(vI fr), (vI tt), .own
  69, (vI (0 : Int)), (vB false), (vB false)]]), (900, Blk.mk true 0 0 [[AV.sl (List.map eStr z.fst), (vI (↑(z.snd + (1 : Nat)) : Int))]]), (69, Blk.mk false 9 1 (List.map
  eStr ls))]) else Option.bind (unenc encAsI [(vS (F.tkS z.fst z.snd))]) fun (z_1 : ByteArray) => Option.bind (unenc encLin [(vS z_1)]) fun (z_2 : ByteArray) => bif F.small
  z_2 then bif !F.line z_2 then some (Ex.ret, St.mk [(6, (vB false))] [(901, Blk.mk true 0 0 [[(vI fr), (vI tt), .own 69, (vI (0 : Int)), (vB false), (vB false)]]), (900,
  Blk.mk true 0 0 [[AV.sl (List.map eStr z.fst), (vI (↑(z.snd + (1 : Nat)) : Int))]]), (69, Blk.mk false 9 1 (List.map eStr ls))]) else bif Nat.ble ((List.length (List.map
  eStr ls) + (1 : Nat)) * (16 : Nat)) (140737488355328 : Nat) && true then some (Ex.normal, St.mk [(2, AV.fn (46 : FuncId) []), (1, .ptr 901 0 0), (0, .ptr 900 0 0)] [(901,
  Blk.mk true 0 0 [[(vI fr), (vI tt), .own 69, (vI (0 : Int)), (vB false), (vB false)]]), (900, Blk.mk true 0 0 [[AV.sl (List.map eStr z.fst), (vI (↑(z.snd + (1 : Nat)) :
  Int))]]), (69, Blk.mk false 9 1 (List.map eStr ls ++ [[(vS z_1)]]))]) else none else none else none else none else Option.bind (unenc encTak ([.ptr 900 0 0], [(900, Blk.mk
  true 0 0 [[AV.sl (List.map eStr L), (vI (↑a : Int))]])])) fun (z : List ByteArray × Nat) => bif F.linesOk z.fst && decide (z.snd ≤ (200001 : Nat)) then bif !F.tkB z.fst
  z.snd then some (Ex.ret, St.mk [(6, (vB false))] [(901, Blk.mk true 0 0 [[(vI fr), (vI tt), .own 69, (vI (0 : Int)), (vB false), (vB false)]]), (900, Blk.mk true 0 0
  [[AV.sl (List.map eStr z.fst), (vI (↑(z.snd + (1 : Nat)) : Int))]]), (69, Blk.mk false 9 1 (List.map eStr ls))]) else Option.bind (unenc encAsI [(vS (F.tkS z.fst z.snd))])
  fun (z_1 : ByteArray) => Option.bind (unenc encLin [(vS z_1)]) fun (z_2 : ByteArray) => bif F.small z_2 then bif !F.line z_2 then some (Ex.ret, St.mk [(6, (vB false))]
  [(901, Blk.mk true 0 0 [[(vI fr), (vI tt), .own 69, (vI (0 : Int)), (vB false), (vB false)]]), (900, Blk.mk true 0 0 [[AV.sl (List.map eStr z.fst), (vI (↑(z.snd + (1 :
  Nat)) : Int))]]), (69, Blk.mk false 9 1 (List.map eStr ls))]) else bif Nat.ble ((List.length (List.map eStr ls) + (1 : Nat)) * (16 : Nat)) (140737488355328 : Nat) && true
  then some (Ex.normal, St.mk [(2, AV.fn (46 : FuncId) []), (1, .ptr 901 0 0), (0, .ptr 900 0 0)] [(901, Blk.mk true 0 0 [[(vI fr), (vI tt), .own 69, (vI (0 : Int)), (vB
  false), (vB false)]]), (900, Blk.mk true 0 0 [[AV.sl (List.map eStr z.fst), (vI (↑(z.snd + (1 : Nat)) : Int))]]), (69, Blk.mk false 9 1 (List.map eStr ls ++ [[(vS
  z_1)]]))]) else none else none else none else some (Ex.exit (0 : Nat), St.mk [] [(901, Blk.mk true 0 0 [[(vI fr), (vI tt), .own 69, (vI (0 : Int)), (vB false), (vB
  false)]]), (900, Blk.mk true 0 0 [[AV.sl (List.map eStr L), (vI (↑a : Int))]]), (69, Blk.mk false 9 1 (List.map eStr ls))]) else Option.bind (unenc encMor [AV.pel [AV.sl
  (List.map eStr L), (vI (↑a : Int))] (0 : Nat)]) fun (z : List ByteArray × Nat) => bif F.tkB z.fst z.snd then Option.bind (unenc (List.map eStr) (List.map eStr L)) fun (z :
  List ByteArray) => bif decide (a < List.length z) then bif ByteArray.toList (List.getD z a (ByteArray.mk (Array.mk []))) == ByteArray.toList (ByteArray.mk (Array.mk []))
  then bif decide ((0 : Int) < (↑(List.length (List.map eStr ls)) : Int)) then some (Ex.ret, St.mk [(6, (vB true))] [(901, Blk.mk true 0 0 [[(vI fr), (vI tt), .own 69, (vI
  (0 : Int)), (vB false), (vB false)]]), (900, Blk.mk true 0 0 [[AV.sl (List.map eStr L), (vI (↑a : Int))]]), (69, Blk.mk false 9 1 (List.map eStr ls))]) else Option.bind
  (unenc encTak ([.ptr 900 0 0], [(900, Blk.mk true 0 0 [[AV.sl (List.map eStr L), (vI (↑a : Int))]])])) fun (z : List ByteArray × Nat) => bif F.linesOk z.fst && decide
  (z.snd ≤ (200001 : Nat)) then bif !F.tkB z.fst z.snd then some (Ex.ret, St.mk [(6, (vB false))] [(901, Blk.mk true 0 0 [[(vI fr), (vI tt), .own 69, (vI (0 : Int)), (vB
  false), (vB false)]]), (900, Blk.mk true 0 0 [[AV.sl (List.map eStr z.fst), (vI (↑(z.snd + (1 : Nat)) : Int))]]), (69, Blk.mk false 9 1 (List.map eStr ls))]) else
  Option.bind (unenc encAsI [(vS (F.tkS z.fst z.snd))]) fun (z_1 : ByteArray) => Option.bind (unenc encLin [(vS z_1)]) fun (z_2 : ByteArray) => bif F.small z_2 then bif
  !F.line z_2 then some (Ex.ret, St.mk [(6, (vB false))] [(901, Blk.mk true 0 0 [[(vI fr), (vI tt), .own 69, (vI (0 : Int)), (vB false), (vB false)]]), (900, Blk.mk true 0 0
  [[AV.sl (List.map eStr z.fst), (vI (↑(z.snd + (1 : Nat)) : Int))]]), (69, Blk.mk false 9 1 (List.map eStr ls))]) else bif Nat.ble ((List.length (List.map eStr ls) + (1 :
  Nat)) * (16 : Nat)) (140737488355328 : Nat) && true then some (Ex.normal, St.mk [(2, AV.fn (46 : FuncId) []), (1, .ptr 901 0 0), (0, .ptr 900 0 0)] [(901, Blk.mk true 0 0
  [[(vI fr), (vI tt), .own 69, (vI (0 : Int)), (vB false), (vB false)]]), (900, Blk.mk true 0 0 [[AV.sl (List.map eStr z.fst), (vI (↑(z.snd + (1 : Nat)) : Int))]]), (69,
  Blk.mk false 9 1 (List.map eStr ls ++ [[(vS z_1)]]))]) else none else none else none else Option.bind (unenc encTak ([.ptr 900 0 0], [(900, Blk.mk true 0 0 [[AV.sl
  (List.map eStr L), (vI (↑a : Int))]])])) fun (z : List ByteArray × Nat) => bif F.linesOk z.fst && decide (z.snd ≤ (200001 : Nat)) then bif !F.tkB z.fst z.snd then some
  (Ex.ret, St.mk [(6, (vB false))] [(901, Blk.mk true 0 0 [[(vI fr), (vI tt), .own 69, (vI (0 : Int)), (vB false), (vB false)]]), (900, Blk.mk true 0 0 [[AV.sl (List.map
  eStr z.fst), (vI (↑(z.snd + (1 : Nat)) : Int))]]), (69, Blk.mk false 9 1 (List.map eStr ls))]) else Option.bind (unenc encAsI [(vS (F.tkS z.fst z.snd))]) fun (z_1 :
  ByteArray) => Option.bind (unenc encLin [(vS z_1)]) fun (z_2 : ByteArray) => bif F.small z_2 then bif !F.line z_2 then some (Ex.ret, St.mk [(6, (vB false))] [(901, Blk.mk
  true 0 0 [[(vI fr), (vI tt), .own 69, (vI (0 : Int)), (vB false), (vB false)]]), (900, Blk.mk true 0 0 [[AV.sl (List.map eStr z.fst), (vI (↑(z.snd + (1 : Nat)) : Int))]]),
  (69, Blk.mk false 9 1 (List.map eStr ls))]) else bif Nat.ble ((List.length (List.map eStr ls) + (1 : Nat)) * (16 : Nat)) (140737488355328 : Nat) && true then some
  (Ex.normal, St.mk [(2, AV.fn (46 : FuncId) []), (1, .ptr 901 0 0), (0, .ptr 900 0 0)] [(901, Blk.mk true 0 0 [[(vI fr), (vI tt), .own 69, (vI (0 : Int)), (vB false), (vB
  false)]]), (900, Blk.mk true 0 0 [[AV.sl (List.map eStr z.fst), (vI (↑(z.snd + (1 : Nat)) : Int))]]), (69, Blk.mk false 9 1 (List.map eStr ls ++ [[(vS z_1)]]))]) else none
  else none else none else none else Option.bind (unenc encTak ([.ptr 900 0 0], [(900, Blk.mk true 0 0 [[AV.sl (List.map eStr L), (vI (↑a : Int))]])])) fun (z : List
  ByteArray × Nat) => bif F.linesOk z.fst && decide (z.snd ≤ (200001 : Nat)) then bif !F.tkB z.fst z.snd then some (Ex.ret, St.mk [(6, (vB false))] [(901, Blk.mk true 0 0
  [[(vI fr), (vI tt), .own 69, (vI (0 : Int)), (vB false), (vB false)]]), (900, Blk.mk true 0 0 [[AV.sl (List.map eStr z.fst), (vI (↑(z.snd + (1 : Nat)) : Int))]]), (69,
  Blk.mk false 9 1 (List.map eStr ls))]) else Option.bind (unenc encAsI [(vS (F.tkS z.fst z.snd))]) fun (z_1 : ByteArray) => Option.bind (unenc encLin [(vS z_1)]) fun (z_2 :
  ByteArray) => bif F.small z_2 then bif !F.line z_2 then some (Ex.ret, St.mk [(6, (vB false))] [(901, Blk.mk true 0 0 [[(vI fr), (vI tt), .own 69, (vI (0 : Int)), (vB
  false), (vB false)]]), (900, Blk.mk true 0 0 [[AV.sl (List.map eStr z.fst), (vI (↑(z.snd + (1 : Nat)) : Int))]]), (69, Blk.mk false 9 1 (List.map eStr ls))]) else bif
  Nat.ble ((List.length (List.map eStr ls) + (1 : Nat)) * (16 : Nat)) (140737488355328 : Nat) && true then some (Ex.normal, St.mk [(2, AV.fn (46 : FuncId) []), (1, .ptr 901
  0 0), (0, .ptr 900 0 0)] [(901, Blk.mk true 0 0 [[(vI fr), (vI tt), .own 69, (vI (0 : Int)), (vB false), (vB false)]]), (900, Blk.mk true 0 0 [[AV.sl (List.map eStr
  z.fst), (vI (↑(z.snd + (1 : Nat)) : Int))]]), (69, Blk.mk false 9 1 (List.map eStr ls ++ [[(vS z_1)]]))]) else none else none else none := (execR_bind _ _ _).symm.trans (by kernel_rfl)

theorem oC_snoc (ls : List ByteArray) (y : ByteArray) : oC (ls ++ [y]) = .own 69 := by cases ls <;> rfl

theorem oB_snoc (ls : List ByteArray) (y : ByteArray) : oB (ls ++ [y]) = [(69, ⟨false, 9, 1, (ls ++ [y]).map eStr⟩)] := by cases ls <;> rfl

theorem stBx_snoc (L : List ByteArray) (fr : Int) (tt : Int) (ls : List ByteArray) (y : ByteArray) (a : Nat) : stBx L fr tt (ls ++ [y]) a = stBs L fr tt (ls ++ [y]) a := by
  unfold stBx stBs
  rw [oC_snoc, oB_snoc]

theorem lpBo_ok (L : List ByteArray) (fr : Int) (tt : Int) (a : Nat) (hp : prlBo L fr tt a = true) : ∀ ex s', (outBo L fr tt a).val = some (ex, s') → LoopOK enBo (loopN Tryd.f45 0) (stBo L fr tt a) ex s' := by
  simp only [prlBo, Bool.and_eq_true, decide_eq_true_eq] at hp
  obtain ⟨h1, h2⟩ := hp
  have hL : L.length ≤ 200001 ∧ L.all F.small = true := by simpa [F.linesOk] using h1
  refine loop_gen (st := fun b : List ByteArray × Nat => stBx L fr tt b.1 b.2) (out := fun b => outBx L fr tt b.1 b.2) (I := fun b => b.2 ≤ 200001 ∧ b.1.length ≤ b.2) (n := ([2, 1, 0], [901, 900, 69])) (e := ([], [901, 900, 69])) (r := ([6], [901, 900, 69])) (fun b => L.length + 1 - b.2) ?_ ([], a) ⟨h2, Nat.zero_le _⟩
  rintro ⟨ls, a⟩ ⟨i1, i2⟩
  simp only at i1 i2
  have h2 : decide (a ≤ 200001) = true := decide_eq_true i1
  by_cases ha : a < L.length
  · have hy : L[a]? = some L[a] := List.getElem?_eq_getElem ha
    generalize L[a] = y at hy
    have hd := drop_q hy
    have ht : F.tkB L a = true := decide_eq_true ha
    have hS : F.tkS L a = y := by unfold F.tkS; rw [ht, cond_true]; exact getD_at hy
    have hys : F.small y = true := List.all_eq_true.1 hL.2 y (List.mem_of_getElem? hy)
    have ey : (y.toList == (⟨⟨[]⟩⟩ : ByteArray).toList) = F.emp y := rfl
    cases ls with
    | nil =>
      cases hl : F.line y
      · left
        refine ⟨(.ret, ⟨[(6, vB false)], [(901, ⟨true, 0, 0, [[vI fr, vI tt, .e0, vI 0, vB false, vB false]]⟩), (900, ⟨true, 0, 0, [[.sl (L.map eStr), vI (a + 1 : Nat)]]⟩)]⟩), ?_, ?_, by simp, rfl⟩
        · show ((exec enBo (loopN Tryd.f45 0) (stBn L fr tt a)).bind _).val = _
          rw [evBoN]
          simp only [unMor, unAsI, unLin, unTak, preMor1, preAsI1, preLin1, preTak1, unstBo, prlBo, outBo, etaCap, etaMch, etaWrd, etaFnd, etaRatio, etaWay, Option.bind_some, List.length_map, unStrs, unInts, unBools, uneL_eIs, unCaps, uneL_eCaps, unMchs, unWrds, unFnds, unRatios, unWays, F.lt, F.le, cond_true, cond_false, Bool.and_true, Bool.true_and, ht, hS, h1, h2, hys, hl, decide_eq_true ha, getD_at hy, ey, Bool.not_true, Bool.not_false, Bool.and_self]
          cases F.emp y <;> rfl
        · simp only [outBx, F.isE, hd, F.bd, hl, List.isEmpty_nil, Bool.not_true, Bool.and_false, cond_false]
          rfl
      · right
        refine ⟨([y], a + 1), ?_, rfl, ⟨by simp only; omega, by simp⟩, by simp only; omega, ?_⟩
        · show ((exec enBo (loopN Tryd.f45 0) (stBn L fr tt a)).bind _).val = _
          rw [evBoN]
          simp only [unMor, unAsI, unLin, unTak, preMor1, preAsI1, preLin1, preTak1, unstBo, prlBo, outBo, etaCap, etaMch, etaWrd, etaFnd, etaRatio, etaWay, Option.bind_some, List.length_map, unStrs, unInts, unBools, uneL_eIs, unCaps, uneL_eCaps, unMchs, unWrds, unFnds, unRatios, unWays, F.lt, F.le, cond_true, cond_false, Bool.and_true, Bool.true_and, ht, hS, h1, h2, hys, hl, decide_eq_true ha, getD_at hy, ey, Bool.not_true, Bool.not_false, Bool.and_self]
          cases F.emp y <;> rfl
        · simp only [outBx, F.isE, hd, F.bd, hl, List.isEmpty_nil, Bool.not_true, Bool.and_false, cond_false, cond_true, List.nil_append]
    | cons x r =>
      cases he : F.emp y
      · cases hl : F.line y
        · left
          refine ⟨(.ret, ⟨[(6, vB false)], [(901, ⟨true, 0, 0, [[vI fr, vI tt, .own 69, vI 0, vB false, vB false]]⟩), (900, ⟨true, 0, 0, [[.sl (L.map eStr), vI (a + 1 : Nat)]]⟩), (69, ⟨false, 9, 1, (x :: r).map eStr⟩)]⟩), ?_, ?_, by simp, rfl⟩
          · show ((exec enBo (loopN Tryd.f45 0) (stBs L fr tt (x :: r) a)).bind _).val = _
            rw [evBoS]
            simp only [unMor, unAsI, unLin, unTak, preMor1, preAsI1, preLin1, preTak1, unstBo, prlBo, outBo, etaCap, etaMch, etaWrd, etaFnd, etaRatio, etaWay, Option.bind_some, List.length_map, unStrs, unInts, unBools, uneL_eIs, unCaps, uneL_eCaps, unMchs, unWrds, unFnds, unRatios, unWays, F.lt, F.le, cond_true, cond_false, Bool.and_true, Bool.true_and, ht, hS, h1, h2, hys, hl, decide_eq_true ha, getD_at hy, ey, he, Bool.not_true, Bool.not_false, Bool.and_self]
            try rfl
          · simp only [outBx, F.isE, hd, F.bd, he, hl, Bool.false_and, cond_false]
            rfl
        · right
          refine ⟨(x :: r ++ [y], a + 1), ?_, by rw [stBx_snoc]; rfl, ⟨by simp only; omega, by simp at i2 ⊢; omega⟩, by simp only; omega, ?_⟩
          · show ((exec enBo (loopN Tryd.f45 0) (stBs L fr tt (x :: r) a)).bind _).val = some (_, stBx L fr tt (x :: r ++ [y]) (a + 1))
            rw [evBoS, stBx_snoc]
            simp only [unMor, unAsI, unLin, unTak, preMor1, preAsI1, preLin1, preTak1, unstBo, prlBo, outBo, etaCap, etaMch, etaWrd, etaFnd, etaRatio, etaWay, Option.bind_some, List.length_map, unStrs, unInts, unBools, uneL_eIs, unCaps, uneL_eCaps, unMchs, unWrds, unFnds, unRatios, unWays, F.lt, F.le, cond_true, cond_false, Bool.and_true, Bool.true_and, ht, hS, h1, h2, hys, hl, decide_eq_true ha, getD_at hy, ey, he, Bool.not_true, Bool.not_false, Bool.and_self]
            have em : (x :: r).map eStr ++ [[vS y]] = (x :: r ++ [y]).map eStr := by simp [eStr]
            have hlen : ((x :: r).length + 1) * 16 ≤ 140737488355328 := by omega
            rw [em, ble_t hlen]
            rfl
          · simp only [outBx, F.isE, hd, F.bd, he, hl, Bool.false_and, cond_false, cond_true]
      · left
        refine ⟨(.ret, ⟨[(6, vB true)], [(901, ⟨true, 0, 0, [[vI fr, vI tt, .own 69, vI 0, vB false, vB false]]⟩), (900, ⟨true, 0, 0, [[.sl (L.map eStr), vI a]]⟩), (69, ⟨false, 9, 1, (x :: r).map eStr⟩)]⟩), ?_, ?_, by simp, rfl⟩
        · show ((exec enBo (loopN Tryd.f45 0) (stBs L fr tt (x :: r) a)).bind _).val = _
          rw [evBoS]
          simp only [unMor, unAsI, unLin, unTak, preMor1, preAsI1, preLin1, preTak1, unstBo, prlBo, outBo, etaCap, etaMch, etaWrd, etaFnd, etaRatio, etaWay, Option.bind_some, List.length_map, unStrs, unInts, unBools, uneL_eIs, unCaps, uneL_eCaps, unMchs, unWrds, unFnds, unRatios, unWays, F.lt, F.le, cond_true, cond_false, Bool.and_true, Bool.true_and, ht, hS, h1, h2, hys, decide_eq_true ha, getD_at hy, ey, he, Bool.not_true, Bool.not_false, Bool.and_self]
          rw [decide_eq_true (show (0 : Int) < ((x :: r).length : Int) by simp)]
          rfl
        · simp only [outBx, F.isE, hd, F.bd, he, List.isEmpty_cons, Bool.not_false, Bool.and_self, cond_true, decide_eq_true ha]
          rfl
  · have ht : F.tkB L a = false := decide_eq_false ha
    have hd : L.drop a = [] := List.drop_eq_nil_of_le (by omega)
    cases ls with
    | nil =>
      left
      refine ⟨(.ret, ⟨[(6, vB false)], [(901, ⟨true, 0, 0, [[vI fr, vI tt, .e0, vI 0, vB false, vB false]]⟩), (900, ⟨true, 0, 0, [[.sl (L.map eStr), vI (a + 1 : Nat)]]⟩)]⟩), ?_, ?_, by simp, rfl⟩
      · show ((exec enBo (loopN Tryd.f45 0) (stBn L fr tt a)).bind _).val = _
        rw [evBoN]
        simp only [unMor, unAsI, unLin, unTak, preMor1, preAsI1, preLin1, preTak1, unstBo, prlBo, outBo, etaCap, etaMch, etaWrd, etaFnd, etaRatio, etaWay, Option.bind_some, List.length_map, unStrs, unInts, unBools, uneL_eIs, unCaps, uneL_eCaps, unMchs, unWrds, unFnds, unRatios, unWays, F.lt, F.le, cond_true, cond_false, Bool.and_true, Bool.true_and, ht, h1, h2, Bool.not_true, Bool.not_false, Bool.and_self]
        try rfl
      · simp only [outBx, F.isE, hd, F.bd, List.isEmpty_nil, cond_true]
        rfl
    | cons x r =>
      left
      refine ⟨(.exit 0, ⟨[], [(901, ⟨true, 0, 0, [[vI fr, vI tt, .own 69, vI 0, vB false, vB false]]⟩), (900, ⟨true, 0, 0, [[.sl (L.map eStr), vI a]]⟩), (69, ⟨false, 9, 1, (x :: r).map eStr⟩)]⟩), ?_, ?_, by simp, rfl⟩
      · show ((exec enBo (loopN Tryd.f45 0) (stBs L fr tt (x :: r) a)).bind _).val = _
        rw [evBoS]
        simp only [unMor, unAsI, unLin, unTak, preMor1, preAsI1, preLin1, preTak1, unstBo, prlBo, outBo, etaCap, etaMch, etaWrd, etaFnd, etaRatio, etaWay, Option.bind_some, List.length_map, unStrs, unInts, unBools, uneL_eIs, unCaps, uneL_eCaps, unMchs, unWrds, unFnds, unRatios, unWays, F.lt, F.le, cond_true, cond_false, Bool.and_true, Bool.true_and, ht, h1, h2, Bool.not_true, Bool.not_false, Bool.and_self]
        have e0 : (((x :: r).length : Int) == 0) = false := by rw [beq_eq_false_iff_ne]; simp; omega
        rw [e0]
        rfl
      · simp only [outBx, F.isE, hd, F.bd, List.isEmpty_cons, cond_false, decide_eq_false ha]
        rfl

theorem evBod (L : List ByteArray) (fr : Int) (tt : Int) (a : Nat) : (runH enBo [] Tryd.f45 [.ptr 900 0 0, .ptr 901 0 0, .fn 46 []] [(901, ⟨true, 0, 0, [[vI fr, vI tt, .e0, vI 0, vB false, vB false]]⟩), (900, ⟨true, 0, 0, [[.sl (L.map eStr), vI a]]⟩)]).val =
  Option.bind (unenc stBo1 (St.mk [(2, AV.fn (46 : FuncId) []), (1, .ptr 901 0 0), (0, .ptr 900 0 0)] [(901, Blk.mk true 0 0 [[(vI fr), (vI tt), AV.e0, (vI (0 : Int)), (vB
  false), (vB false)]]), (900, Blk.mk true 0 0 [[AV.sl (List.map eStr L), (vI (↑a : Int))]])])) fun (z : List ByteArray × Int × Int × Nat) => bif F.linesOk z.fst && decide
  (z.snd.snd.snd ≤ (200001 : Nat)) && true then bif (F.bd (List.drop z.snd.snd.snd z.fst) [] z.snd.snd.snd).fst then bif decide ((F.bd (List.drop z.snd.snd.snd z.fst) []
  z.snd.snd.snd).snd.snd < List.length z.fst) then some ((vB true), [(901, Blk.mk true 0 0 [[(vI z.snd.fst), (vI z.snd.snd.fst), .own 0, (vI (0 : Int)), (vB false), (vB
  false)]]), (900, Blk.mk true 0 0 [[AV.sl (List.map eStr z.fst), (vI (↑(F.bd (List.drop z.snd.snd.snd z.fst) [] z.snd.snd.snd).snd.snd : Int))]]), (0, Blk.mk false 9 1
  (List.map eStr (F.bd (List.drop z.snd.snd.snd z.fst) [] z.snd.snd.snd).snd.fst))], []) else some ((vB true), [(901, Blk.mk true 0 0 [[(vI z.snd.fst), (vI z.snd.snd.fst),
  .own 0, (vI (0 : Int)), (vB false), (vB false)]]), (900, Blk.mk true 0 0 [[AV.sl (List.map eStr z.fst), (vI (↑(F.bd (List.drop z.snd.snd.snd z.fst) []
  z.snd.snd.snd).snd.snd : Int))]]), (0, Blk.mk false 9 1 (List.map eStr (F.bd (List.drop z.snd.snd.snd z.fst) [] z.snd.snd.snd).snd.fst))], []) else bif F.isE (F.bd
  (List.drop z.snd.snd.snd z.fst) [] z.snd.snd.snd).snd.fst then some ((vB false), [(901, Blk.mk true 0 0 [[(vI z.snd.fst), (vI z.snd.snd.fst), AV.e0, (vI (0 : Int)), (vB
  false), (vB false)]]), (900, Blk.mk true 0 0 [[AV.sl (List.map eStr z.fst), (vI (↑(F.bd (List.drop z.snd.snd.snd z.fst) [] z.snd.snd.snd).snd.snd : Int))]])], []) else
  some ((vB false), [(901, Blk.mk true 0 0 [[(vI z.snd.fst), (vI z.snd.snd.fst), .own 0, (vI (0 : Int)), (vB false), (vB false)]]), (900, Blk.mk true 0 0 [[AV.sl (List.map
  eStr z.fst), (vI (↑(F.bd (List.drop z.snd.snd.snd z.fst) [] z.snd.snd.snd).snd.snd : Int))]]), (0, Blk.mk false 9 1 (List.map eStr (F.bd (List.drop z.snd.snd.snd z.fst) []
  z.snd.snd.snd).snd.fst))], []) else none := (runHR_val).symm.trans (by kernel_rfl)

def encBod1 (L : List ByteArray) (fr : Int) (tt : Int) (a : Nat) : List AV × Heap := ([.ptr 900 0 0, .ptr 901 0 0, .fn 46 []], [(901, ⟨true, 0, 0, [[vI fr, vI tt, .e0, vI 0, vB false, vB false]]⟩), (900, ⟨true, 0, 0, [[.sl (L.map eStr), vI a]]⟩)])

def encBod (a : (List ByteArray) × Int × Int × Nat) : List AV × Heap := encBod1 a.1 a.2.1 a.2.2.1 a.2.2.2

theorem encBod_inj (a a' : (List ByteArray) × Int × Int × Nat) (h : encBod a = encBod a') : a = a' := by
  simp only [encBod, encBod1] at h
  try simp [strs_inj, ints_inj, bools_inj, eL_eIs_inj, eCaps_inj, eCap_iff, eL_eCaps_inj, eMchs_inj, eMch_iff, eWrds_inj, eWrd_iff, eFnds_inj, eFnd_iff, eRatios_inj, eRatio_iff, eWays_inj, eWay_iff] at h
  grind

theorem unBod (L : List ByteArray) (fr : Int) (tt : Int) (a : Nat) : unenc encBod (([.ptr 900 0 0, .ptr 901 0 0, AV.fn (46 : FuncId) []], [(901, Blk.mk true 0 0 [[(vI fr), (vI tt), AV.e0, (vI (0 : Int)), (vB false), (vB false)]]), (900, Blk.mk true 0 0
  [[AV.sl (List.map eStr L), (vI (↑a : Int))]])])) = some (L, fr, tt, a) := unenc_of encBod_inj (L, fr, tt, a) rfl

def resBod1 (L : List ByteArray) (fr : Int) (tt : Int) (a : Nat) : T (AV × Heap × List Nat) := .ifB (F.bd (L.drop a) [] a).1
      (.ret (vB true, [(901, ⟨true, 0, 0, [[vI fr, vI tt, .own 0, vI 0, vB false, vB false]]⟩), (900, ⟨true, 0, 0, [[.sl (L.map eStr), vI (F.bd (L.drop a) [] a).2.2]]⟩), (0, ⟨false, 9, 1, (F.bd (L.drop a) [] a).2.1.map eStr⟩)], []))
      (.ifB (F.isE (F.bd (L.drop a) [] a).2.1)
        (.ret (vB false, [(901, ⟨true, 0, 0, [[vI fr, vI tt, .e0, vI 0, vB false, vB false]]⟩), (900, ⟨true, 0, 0, [[.sl (L.map eStr), vI (F.bd (L.drop a) [] a).2.2]]⟩)], []))
        (.ret (vB false, [(901, ⟨true, 0, 0, [[vI fr, vI tt, .own 0, vI 0, vB false, vB false]]⟩), (900, ⟨true, 0, 0, [[.sl (L.map eStr), vI (F.bd (L.drop a) [] a).2.2]]⟩), (0, ⟨false, 9, 1, (F.bd (L.drop a) [] a).2.1.map eStr⟩)], [])))

def preBod1 (L : List ByteArray) (fr : Int) (tt : Int) (a : Nat) : Bool := F.linesOk L && decide (a ≤ 200001)

noncomputable def oBod : OrcH := orcT 45 encBod (fun a => preBod1 a.1 a.2.1 a.2.2.1 a.2.2.2) fun a => resBod1 a.1 a.2.1 a.2.2.1 a.2.2.2

theorem okBod : OrcHOK Tryd.prog noG oBod := by
  refine mkT_ok (mv := []) Tryd.f45 (by kernel_rfl) (by kernel_rfl) enBo_ok mixed (one_loop (x0 := loopN Tryd.f45 0) (by kernel_rfl) (lpo_ok ?_)) ?_
  · rintro ⟨L, fr, tt, a⟩ hp
    exact lpBo_ok L fr tt a hp
  rintro ⟨L, fr, tt, a⟩ r0 hpre hok hokh hr0
  show (runH enBo [] _ (encBod1 _ _ _ _).1 (encBod1 _ _ _ _).2).val = some r0
  replace hr0 : (resBod1 _ _ _ _).val = some r0 := hr0
  unfold resBod1 at hr0
  unfold encBod1
  rw [evBod]
  simp only [preBod1, Bool.and_eq_true] at hpre
  obtain ⟨h1, h2⟩ := hpre
  rw [← hr0]
  simp only [unMor, unAsI, unLin, unTak, preMor1, preAsI1, preLin1, preTak1, unstBo, prlBo, outBo, etaCap, etaMch, etaWrd, etaFnd, etaRatio, etaWay, Option.bind_some, List.length_map, unStrs, unInts, unBools, uneL_eIs, unCaps, uneL_eCaps, unMchs, unWrds, unFnds, unRatios, unWays, F.lt, F.le, cond_true, cond_false, Bool.and_true, Bool.true_and, h1, h2, Nat.zero_le, List.length_nil, decide_true]
  clear hr0 hok hokh
  generalize F.bd (List.drop a L) [] a = b
  obtain ⟨b1, b2, b3⟩ := b
  cases b1
  · cases F.isE b2 <;> rfl
  · cases decide (b3 < L.length) <;> rfl

end M
end Go.Proofs.YthcfbeckhgngiaaDoor
