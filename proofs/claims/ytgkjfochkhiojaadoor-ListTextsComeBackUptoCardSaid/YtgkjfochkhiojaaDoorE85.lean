/- What is proved here: what list.Read returns (no statement of the seat). -/
import Derived.Test.YtgkjfochkhiojaaDoorE84
namespace Go.Proofs.YtgkjfochkhiojaaDoor
open Go Go.RowKit
set_option linter.unusedVariables false
set_option linter.unusedSimpArgs false
set_option maxHeartbeats 2000000

def F.noL : Lst := ⟨0, 0, 0, [], false⟩

/-- The list of a text behind its first line. -/
def F.rdB (s : ByteArray) (n : Int) : Bool × ByteArray × Int × List Ent × Bool := F.bdL (F.dr 3 s) (n + 1 + 1 + 1) ⟨⟨[]⟩⟩ [] false

def F.rdG (s : ByteArray) (n : Int) : Lst := ⟨F.hdV s F.wTg, F.hdV (F.dr 1 s) F.wFi, F.hdV (F.dr 2 s) F.wBr, (F.rdB s n).2.2.2.1, (F.rdB s n).2.2.2.2⟩

/-- A list of a text, the line of a fault, the fault. -/
def F.rdT (s : ByteArray) : Lst × Int × Int :=
  bif decide (500000 < s.size) then (F.noL, 0, 2) else
  bif !(F.cutF s F.nl && F.seq (F.cutH s F.nl) F.kLst) then (F.noL, 1, 10) else
  bif !F.hdOk (F.cutT s F.nl) F.wTg then (F.noL, 2, 10) else
  bif !F.hdOk (F.dr 1 (F.cutT s F.nl)) F.wFi then (F.noL, 3, 10) else
  bif !F.hdOk (F.dr 2 (F.cutT s F.nl)) F.wBr then (F.noL, 4, 10) else
  bif !(F.rdB (F.cutT s F.nl) 1).1 then (F.noL, (F.rdB (F.cutT s F.nl) 1).2.2.1, 10) else
  bif F.check (F.rdG (F.cutT s F.nl) 1) != 0 then (F.noL, 0, F.check (F.rdG (F.cutT s F.nl) 1)) else
  (F.rdG (F.cutT s F.nl) 1, 0, 0)

namespace M


theorem evBod (s : ByteArray) (n : Int) : (runH enBd [] Tryd.f11 [.ptr 900 0 0, .fn 12 []] [(900, ⟨true, 0, 0, [[vS s, vI n]]⟩)]).val =
  Option.bind (unenc encTk ([.ptr 900 0 0], [(900, Blk.mk true 0 0 [[(vS s), (vI n)]])])) fun (z : ByteArray × Int) => bif decide (ByteArray.size z.fst ≤ (500000 : Nat)) &&
  decide ((0 : Int) ≤ z.snd) && decide (z.snd ≤ (1000000 : Int)) then bif bif !F.cutF z.fst F.nl then true else !ByteArray.toList (F.cutH z.fst F.nl) == ByteArray.toList
  (ByteArray.mk (Array.mk [(35 : UInt8), (76 : UInt8), (73 : UInt8), (83 : UInt8), (84 : UInt8)])) then some (AV.tup [AV.agg [(vI (0 : Int)), (vI (0 : Int)), (vI (0 : Int)),
  AV.e0, (vB false)], (vB false)], [(900, Blk.mk true 0 0 [[(vS (F.cutT z.fst F.nl)), (vI (z.snd + (1 : Int)))]])], []) else Option.bind (unenc stHh1 (St.mk [(37, (vI (0 :
  Int))), (36, (vI (↑(3 : Nat) : Int))), (35, AV.win (35 : Nat) (0 : Nat) (3 : Nat)), (6, .ptr 6 0 0), (4, .ptr 4 0 0), (1, AV.fn (12 : FuncId) []), (0, .ptr 900 0 0)]
  [(900, Blk.mk true 0 0 [[(vS (F.cutT z.fst F.nl)), (vI (z.snd + (1 : Int)))]]), (35, Blk.mk true 67 2 [[(vS (ByteArray.mk (Array.mk [(35 : UInt8), (84 : UInt8), (65 :
  UInt8), (82 : UInt8), (71 : UInt8), (69 : UInt8), (84 : UInt8)]))), .ptr 6 0 0], [(vS (ByteArray.mk (Array.mk [(35 : UInt8), (70 : UInt8), (73 : UInt8), (82 : UInt8), (83
  : UInt8), (84 : UInt8)]))), .ptr 6 0 1], [(vS (ByteArray.mk (Array.mk [(35 : UInt8), (66 : UInt8), (82 : UInt8), (69 : UInt8), (65 : UInt8), (75 : UInt8), (83 :
  UInt8)]))), .ptr 6 0 2]]), (6, Blk.mk true 0 0 [[(vI (0 : Int)), (vI (0 : Int)), (vI (0 : Int)), AV.e0, (vB false)]]), (4, Blk.mk true 0 0 [[(vI (0 : Int)), (vI (0 :
  Int)), (vI (0 : Int)), AV.e0, (vB false)]])])) fun (z : ByteArray × Int) => bif decide (ByteArray.size z.fst ≤ (500000 : Nat)) && decide ((0 : Int) ≤ z.snd) && decide
  (z.snd ≤ (100 : Int)) && true then bif F.hdOk z.fst F.wTg then bif F.hdOk (F.dr (1 : Nat) z.fst) F.wFi then bif F.hdOk (F.dr (2 : Nat) z.fst) F.wBr then Option.bind (unenc
  encRcl []) fun (z_1 : Unit) => Option.bind (unenc stBl1 (St.mk [(13, (vS (ByteArray.mk (Array.mk [])))), (6, .ptr 6 0 0), (4, .ptr 4 0 0), (0, .ptr 900 0 0)] [(900, Blk.mk
  true 0 0 [[(vS (F.dr (3 : Nat) z.fst)), (vI (z.snd + (1 : Int) + (1 : Int) + (1 : Int)))]]), (6, Blk.mk true 0 0 [[(vI (F.hdV z.fst F.wTg)), (vI (F.hdV (F.dr (1 : Nat)
  z.fst) F.wFi)), (vI (F.hdV (F.dr (2 : Nat) z.fst) F.wBr)), AV.e0, (vB false)]]), (4, Blk.mk true 0 0 [[(vI (0 : Int)), (vI (0 : Int)), (vI (0 : Int)), AV.e0, (vB
  false)]])])) fun (z : ByteArray × Int × Int × Int × Int) => bif decide (ByteArray.size z.fst ≤ (500000 : Nat)) && decide ((0 : Int) ≤ z.snd.fst) && decide (z.snd.fst ≤
  (100 : Int)) && true then bif (F.bdL z.fst z.snd.fst (ByteArray.mk (Array.mk [])) [] false).fst then some (AV.tup [AV.agg [(vI z.snd.snd.fst), (vI z.snd.snd.snd.fst), (vI
  z.snd.snd.snd.snd), .own 0, (vB (F.bdL z.fst z.snd.fst (ByteArray.mk (Array.mk [])) [] false).snd.snd.snd.snd)], (vB true)], [(900, Blk.mk true 0 0 [[(vS (F.bdL z.fst
  z.snd.fst (ByteArray.mk (Array.mk [])) [] false).snd.fst), (vI (F.bdL z.fst z.snd.fst (ByteArray.mk (Array.mk [])) [] false).snd.snd.fst)]]), (0, Blk.mk false 44 7
  (List.map eEnt (F.bdL z.fst z.snd.fst (ByteArray.mk (Array.mk [])) [] false).snd.snd.snd.fst))], []) else some (AV.tup [AV.agg [(vI z.snd.snd.fst), (vI z.snd.snd.snd.fst),
  (vI z.snd.snd.snd.snd), .own 0, (vB (F.bdL z.fst z.snd.fst (ByteArray.mk (Array.mk [])) [] false).snd.snd.snd.snd)], (vB false)], [(900, Blk.mk true 0 0 [[(vS (F.bdL z.fst
  z.snd.fst (ByteArray.mk (Array.mk [])) [] false).snd.fst), (vI (F.bdL z.fst z.snd.fst (ByteArray.mk (Array.mk [])) [] false).snd.snd.fst)]]), (0, Blk.mk false 44 7
  (List.map eEnt (F.bdL z.fst z.snd.fst (ByteArray.mk (Array.mk [])) [] false).snd.snd.snd.fst))], []) else none else some (AV.tup [AV.agg [(vI (F.hdV z.fst F.wTg)), (vI
  (F.hdV (F.dr (1 : Nat) z.fst) F.wFi)), (vI (0 : Int)), AV.e0, (vB false)], (vB false)], [(900, Blk.mk true 0 0 [[(vS (F.dr (3 : Nat) z.fst)), (vI (z.snd + (1 : Int) + (1 :
  Int) + (1 : Int)))]])], []) else some (AV.tup [AV.agg [(vI (F.hdV z.fst F.wTg)), (vI (0 : Int)), (vI (0 : Int)), AV.e0, (vB false)], (vB false)], [(900, Blk.mk true 0 0
  [[(vS (F.dr (2 : Nat) z.fst)), (vI (z.snd + (1 : Int) + (1 : Int)))]])], []) else some (AV.tup [AV.agg [(vI (0 : Int)), (vI (0 : Int)), (vI (0 : Int)), AV.e0, (vB false)],
  (vB false)], [(900, Blk.mk true 0 0 [[(vS (F.dr (1 : Nat) z.fst)), (vI (z.snd + (1 : Int)))]])], []) else none else none := (runHR_val).symm.trans (by kernel_rfl)

def encBod1 (s : ByteArray) (n : Int) : List AV × Heap := ([.ptr 900 0 0, .fn 12 []], [(900, ⟨true, 0, 0, [[vS s, vI n]]⟩)])

def encBod (a : ByteArray × Int) : List AV × Heap := encBod1 a.1 a.2

theorem encBod_inj (a a' : ByteArray × Int) (h : encBod a = encBod a') : a = a' := by
  simp only [encBod, encBod1] at h
  try simp [strs_inj, ints_inj, ents_inj, eEnt_iff, eLst_iff, eSnds_inj, eStrms_inj] at h
  grind

theorem unBod (s : ByteArray) (n : Int) : unenc encBod (([.ptr 900 0 0, AV.fn (12 : FuncId) []], [(900, Blk.mk true 0 0 [[(vS s), (vI n)]])])) = some (s, n) := unenc_of encBod_inj (s, n) rfl

def resBod1 (s : ByteArray) (n : Int) : T (AV × Heap × List Nat) := .ifB (F.cutF s F.nl && F.seq (F.cutH s F.nl) F.kLst)
      (.ifB (F.hdOk (F.cutT s F.nl) F.wTg) (.ifB (F.hdOk (F.dr 1 (F.cutT s F.nl)) F.wFi) (.ifB (F.hdOk (F.dr 2 (F.cutT s F.nl)) F.wBr)
        (.ret (.tup [.agg [vI (F.rdG (F.cutT s F.nl) (n + 1)).target, vI (F.rdG (F.cutT s F.nl) (n + 1)).first, vI (F.rdG (F.cutT s F.nl) (n + 1)).breaks, .own 0, vB (F.rdG (F.cutT s F.nl) (n + 1)).ended], vB (F.rdB (F.cutT s F.nl) (n + 1)).1], [(900, ⟨true, 0, 0, [[vS (F.rdB (F.cutT s F.nl) (n + 1)).2.1, vI (F.rdB (F.cutT s F.nl) (n + 1)).2.2.1]]⟩), (0, ⟨false, 44, 7, (F.rdG (F.cutT s F.nl) (n + 1)).entries.map eEnt⟩)], []))
        (.ret (.tup [.agg [vI (F.hdV (F.cutT s F.nl) F.wTg), vI (F.hdV (F.dr 1 (F.cutT s F.nl)) F.wFi), vI 0, .e0, vB false], vB false], [(900, ⟨true, 0, 0, [[vS (F.dr 3 (F.cutT s F.nl)), vI (n + 1 + 1 + 1 + 1)]]⟩)], [])))
        (.ret (.tup [.agg [vI (F.hdV (F.cutT s F.nl) F.wTg), vI 0, vI 0, .e0, vB false], vB false], [(900, ⟨true, 0, 0, [[vS (F.dr 2 (F.cutT s F.nl)), vI (n + 1 + 1 + 1)]]⟩)], [])))
        (.ret (.tup [.agg [vI 0, vI 0, vI 0, .e0, vB false], vB false], [(900, ⟨true, 0, 0, [[vS (F.dr 1 (F.cutT s F.nl)), vI (n + 1 + 1)]]⟩)], [])))
      (.ret (.tup [.agg [vI 0, vI 0, vI 0, .e0, vB false], vB false], [(900, ⟨true, 0, 0, [[vS (F.cutT s F.nl), vI (n + 1)]]⟩)], []))

def preBod1 (s : ByteArray) (n : Int) : Bool := decide (s.size ≤ 500000) && decide (0 ≤ n) && decide (n ≤ 10)

noncomputable def oBod : OrcH := orcT 11 encBod (fun a => preBod1 a.1 a.2) fun a => resBod1 a.1 a.2

theorem okBod : OrcHOK Tryd.prog noG oBod := by
  refine mkT_ok (mv := []) Tryd.f11 (by kernel_rfl) (by kernel_rfl) enBd_ok mixed (two_loops (x0 := loopN Tryd.f11 0) (x1 := loopN Tryd.f11 1) (by kernel_rfl) (lpo_ok ?_) (lpo_ok ?_)) ?_
  · rintro ⟨s, n⟩ hp
    exact lpHh_ok s n hp
  · rintro ⟨s, n, t, f, b⟩ hp
    exact lpBl_ok s n t f b hp
  rintro ⟨s, n⟩ r0 hpre hok hokh hr0
  show (runH enBd [] _ (encBod1 _ _).1 (encBod1 _ _).2).val = some r0
  replace hr0 : (resBod1 _ _).val = some r0 := hr0
  unfold resBod1 at hr0
  unfold encBod1
  rw [evBod]
  simp only [preBod1, Bool.and_eq_true, decide_eq_true_eq] at hpre
  obtain ⟨⟨h1, h2⟩, h3⟩ := hpre
  rw [← hr0]
  have z1 := F.cutT_size s F.nl
  have z2 := F.dr_size 3 (F.cutT s F.nl)
  have q : ((F.cutH s F.nl).toList == (⟨⟨[35, 76, 73, 83, 84]⟩⟩ : ByteArray).toList) = F.seq (F.cutH s F.nl) F.kLst := rfl
  simp only [unMor, unRcl, unTk, unHd, unEnt, preMor1, preRcl1, preTk1, preHd1, preEnt1, unstHh, unstBl, prlHh, prlBl, outHh, outBl, etaEnt, etaLst, etaSnd, etaStrm, etaMas, Option.bind_some, List.length_map, unStrs, unInts, unBools, unEnts, unItms, unTrns, cond_true, cond_false, Bool.and_true, Bool.true_and, decide_eq_true h1, decide_eq_true h2, decide_eq_true (by omega : n ≤ 1000000), q, bne]
  clear hr0 hok hokh
  have un0 : unenc stHh1 (St.mk [(37, vI 0), (36, vI ((3 : Nat) : Int)), (35, .win 35 0 3), (6, .ptr 6 0 0), (4, .ptr 4 0 0), (1, .fn 12 []), (0, .ptr 900 0 0)] [(900, ⟨true, 0, 0, [[vS (F.cutT s F.nl), vI (n + 1)]]⟩), (35, ⟨true, 67, 2, [[vS ⟨⟨[35, 84, 65, 82, 71, 69, 84]⟩⟩, .ptr 6 0 0], [vS ⟨⟨[35, 70, 73, 82, 83, 84]⟩⟩, .ptr 6 0 1], [vS ⟨⟨[35, 66, 82, 69, 65, 75, 83]⟩⟩, .ptr 6 0 2]]⟩), (6, ⟨true, 0, 0, [[vI 0, vI 0, vI 0, .e0, vB false]]⟩), (4, ⟨true, 0, 0, [[vI 0, vI 0, vI 0, .e0, vB false]]⟩)]) = some (F.cutT s F.nl, n + 1) := unenc_of stHh_inj (F.cutT s F.nl, n + 1) rfl
  rw [un0]
  simp only [Option.bind_some, F.rdG, F.rdB]
  rw [decide_eq_true (by omega : (F.cutT s F.nl).size ≤ 500000), decide_eq_true (by omega : 0 ≤ n + 1), decide_eq_true (by omega : n + 1 ≤ 100), decide_eq_true (by omega : (F.dr 3 (F.cutT s F.nl)).size ≤ 500000), decide_eq_true (by omega : 0 ≤ n + 1 + 1 + 1 + 1), decide_eq_true (by omega : n + 1 + 1 + 1 + 1 ≤ 100)]
  generalize F.bdL (F.dr 3 (F.cutT s F.nl)) (n + 1 + 1 + 1 + 1) ⟨⟨[]⟩⟩ [] false = r
  cases F.cutF s F.nl
  · rfl
  cases F.seq (F.cutH s F.nl) F.kLst
  · rfl
  cases F.hdOk (F.cutT s F.nl) F.wTg
  · rfl
  cases F.hdOk (F.dr 1 (F.cutT s F.nl)) F.wFi
  · rfl
  cases F.hdOk (F.dr 2 (F.cutT s F.nl)) F.wBr
  · rfl
  obtain ⟨a, b, c, d, e⟩ := r
  cases a <;> rfl

noncomputable def enRea : Env := envH ty noG lks [oChk] [oBod] [] []

theorem enRea_ok : EnvOK Tryd.prog enRea := by
  refine envH_ok lks_ok ty_ok ?_ ?_
  · simp only [List.forall_mem_cons]
    exact ⟨okChk, by simp⟩
  · simp only [List.forall_mem_cons]
    exact ⟨okBod, by simp⟩

theorem evRea (s : ByteArray) : (runF enRea false Tryd.f5 [vS s]).val =
  bif decide ((500000 : Int) < (↑(ByteArray.size s) : Int)) then some (AV.tup [AV.agg [(vI (0 : Int)), (vI (0 : Int)), (vI (0 : Int)), AV.sl [], (vB false)], (vI (0 : Int)),
  (vI (2 : Int))], []) else Option.bind (unenc encBod ([.ptr 900 0 0, AV.fn (12 : Nat) []], [(900, Blk.mk true 0 0 [[(vS s), (vI (0 : Int))]])])) fun (z : ByteArray × Int)
  => bif decide (ByteArray.size z.fst ≤ (500000 : Nat)) && decide ((0 : Int) ≤ z.snd) && decide (z.snd ≤ (10 : Int)) then bif F.cutF z.fst F.nl && F.seq (F.cutH z.fst F.nl)
  F.kLst then bif F.hdOk (F.cutT z.fst F.nl) F.wTg then bif F.hdOk (F.dr (1 : Nat) (F.cutT z.fst F.nl)) F.wFi then bif F.hdOk (F.dr (2 : Nat) (F.cutT z.fst F.nl)) F.wBr then
  bif !(F.rdB (F.cutT z.fst F.nl) (z.snd + (1 : Int))).fst then some (AV.tup [AV.agg [(vI (0 : Int)), (vI (0 : Int)), (vI (0 : Int)), AV.sl [], (vB false)], (vI (F.rdB
  (F.cutT z.fst F.nl) (z.snd + (1 : Int))).snd.snd.fst), (vI (10 : Int))], []) else Option.bind (unenc encChk [AV.agg [(vI (F.hdV (F.cutT z.fst F.nl) F.wTg)), (vI (F.hdV
  (F.dr (1 : Nat) (F.cutT z.fst F.nl)) F.wFi)), (vI (F.hdV (F.dr (2 : Nat) (F.cutT z.fst F.nl)) F.wBr)), AV.sl (List.map eEnt (F.rdB (F.cutT z.fst F.nl) (z.snd + (1 :
  Int))).snd.snd.snd.fst), (vB (F.rdB (F.cutT z.fst F.nl) (z.snd + (1 : Int))).snd.snd.snd.snd)]]) fun (z_1 : Lst) => bif F.check z_1 != (0 : Int) then some (AV.tup [AV.agg
  [(vI (0 : Int)), (vI (0 : Int)), (vI (0 : Int)), AV.sl [], (vB false)], (vI (0 : Int)), (vI (F.check z_1))], []) else some (AV.tup [AV.agg [(vI (F.hdV (F.cutT z.fst F.nl)
  F.wTg)), (vI (F.hdV (F.dr (1 : Nat) (F.cutT z.fst F.nl)) F.wFi)), (vI (F.hdV (F.dr (2 : Nat) (F.cutT z.fst F.nl)) F.wBr)), AV.sl (List.map eEnt (F.rdB (F.cutT z.fst F.nl)
  (z.snd + (1 : Int))).snd.snd.snd.fst), (vB (F.rdB (F.cutT z.fst F.nl) (z.snd + (1 : Int))).snd.snd.snd.snd)], (vI (0 : Int)), (vI (0 : Int))], []) else some (AV.tup
  [AV.agg [(vI (0 : Int)), (vI (0 : Int)), (vI (0 : Int)), AV.sl [], (vB false)], (vI (z.snd + (1 : Int) + (1 : Int) + (1 : Int) + (1 : Int))), (vI (10 : Int))], []) else
  some (AV.tup [AV.agg [(vI (0 : Int)), (vI (0 : Int)), (vI (0 : Int)), AV.sl [], (vB false)], (vI (z.snd + (1 : Int) + (1 : Int) + (1 : Int))), (vI (10 : Int))], []) else
  some (AV.tup [AV.agg [(vI (0 : Int)), (vI (0 : Int)), (vI (0 : Int)), AV.sl [], (vB false)], (vI (z.snd + (1 : Int) + (1 : Int))), (vI (10 : Int))], []) else some (AV.tup
  [AV.agg [(vI (0 : Int)), (vI (0 : Int)), (vI (0 : Int)), AV.sl [], (vB false)], (vI (z.snd + (1 : Int))), (vI (10 : Int))], []) else none := (runFR_val).symm.trans (by kernel_rfl)

def encRea1 (s : ByteArray) : List AV := [vS s]

def encRea (a : ByteArray) : List AV := encRea1 a

theorem encRea_inj (a a' : ByteArray) (h : encRea a = encRea a') : a = a' := by
  simp only [encRea, encRea1] at h
  try simp [strs_inj, ints_inj, ents_inj, eEnt_iff, eLst_iff, eSnds_inj, eStrms_inj] at h
  grind

theorem unRea (s : ByteArray) : unenc encRea ([(vS s)]) = some (s) := unenc_of encRea_inj (s) rfl

def resRea1 (s : ByteArray) : AV × Heap := (.tup [.agg (eLst (F.rdT s).1), vI (F.rdT s).2.1, vI (F.rdT s).2.2], [])

def preRea1 (s : ByteArray) : Bool := true

noncomputable def oRea : Orc := orc 5 false encRea (fun a => preRea1 a) fun a => resRea1 a

theorem okRea : OrcOK Tryd.prog noG oRea := by
  refine mk_ok Tryd.f5 (keep := false) (by kernel_rfl) (by kernel_rfl) enRea_ok mixed (no_loops (by kernel_rfl)) (by first | exact fun _ _ => ⟨rfl, rfl⟩ | (intro h; cases h)) ?_
  rintro s hpre hok
  show (runF enRea false _ (encRea1 _)).val = some (resRea1 _)
  unfold encRea1 resRea1
  rw [evRea]
  have hsz := okA_str (hok _ (List.mem_cons_self ..))
  simp only [unChk, unBod, unChkw, preChk1, preBod1, etaEnt, etaLst, etaSnd, etaStrm, etaMas, Option.bind_some, List.length_map, unStrs, unInts, unBools, unEnts, unItms, unTrns, cond_true, cond_false, Bool.and_true, Bool.true_and, (by decide : (0 : Int) + 1 = 1)]
  have hG : (⟨F.hdV (F.cutT s F.nl) F.wTg, F.hdV (F.dr 1 (F.cutT s F.nl)) F.wFi, F.hdV (F.dr 2 (F.cutT s F.nl)) F.wBr, (F.rdB (F.cutT s F.nl) 1).2.2.2.1, (F.rdB (F.cutT s F.nl) 1).2.2.2.2⟩ : Lst) = F.rdG (F.cutT s F.nl) 1 := rfl
  have hE : eLst (F.rdG (F.cutT s F.nl) 1) = [vI (F.hdV (F.cutT s F.nl) F.wTg), vI (F.hdV (F.dr 1 (F.cutT s F.nl)) F.wFi), vI (F.hdV (F.dr 2 (F.cutT s F.nl)) F.wBr), .sl (List.map eEnt (F.rdB (F.cutT s F.nl) 1).2.2.2.1), vB (F.rdB (F.cutT s F.nl) 1).2.2.2.2] := rfl
  rw [hG, ← hE]
  unfold F.rdT
  by_cases hb : 500000 < s.size
  · rw [decide_eq_true hb, decide_eq_true (by omega : (500000 : Int) < (s.size : Int))]
    rfl
  · rw [decide_eq_false hb, decide_eq_false (by omega : ¬ (500000 : Int) < (s.size : Int)), decide_eq_true (by omega : s.size ≤ 500000)]
    generalize F.rdG (F.cutT s F.nl) 1 = G
    generalize F.rdB (F.cutT s F.nl) 1 = r
    obtain ⟨a, b, c, d, e⟩ := r
    cases F.cutF s F.nl && F.seq (F.cutH s F.nl) F.kLst
    · rfl
    cases F.hdOk (F.cutT s F.nl) F.wTg
    · rfl
    cases F.hdOk (F.dr 1 (F.cutT s F.nl)) F.wFi
    · rfl
    cases F.hdOk (F.dr 2 (F.cutT s F.nl)) F.wBr
    · rfl
    cases a
    · rfl
    cases F.check G != 0 <;> rfl

end M
end Go.Proofs.YtgkjfochkhiojaaDoor
