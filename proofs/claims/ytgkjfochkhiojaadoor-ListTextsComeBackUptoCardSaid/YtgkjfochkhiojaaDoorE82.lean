/- What is proved here: how the program takes a heading and a line of an entry (no statement of the seat). -/
import Derived.Test.YtgkjfochkhiojaaDoorE81
namespace Go.Proofs.YtgkjfochkhiojaaDoor
open Go Go.RowKit
set_option linter.unusedVariables false
set_option linter.unusedSimpArgs false

namespace M


noncomputable def enCuP0 : Env := envH ty noG lks [oHasPre0] [] [] []

theorem enCuP0_ok : EnvOK Tryd.prog enCuP0 := by
  refine envH_ok lks_ok ty_ok ?_ ?_
  · simp only [List.forall_mem_cons]
    exact ⟨okHasPre0, by simp⟩
  · simp

theorem evCuP0 (s : ByteArray) (p : ByteArray) : (runF enCuP0 false Tryd.f58 [vS s, vS p]).val =
  Option.bind (unenc encHasPre0 [(vS s), (vS p)]) fun (z : ByteArray × ByteArray) => bif !F.hasPrefix z.fst z.snd then some (AV.tup [(vS s), (vB false)], []) else bif
  Nat.ble (ByteArray.size p) (ByteArray.size s) && Nat.ble (ByteArray.size s) (ByteArray.size s) then some (AV.tup [(vS (ByteArray.extract s (ByteArray.size p)
  (ByteArray.size s))), (vB true)], []) else none := (runFR_val).symm.trans (by kernel_rfl)

def encCuP01 (s : ByteArray) (p : ByteArray) : List AV := [vS s, vS p]

def encCuP0 (a : ByteArray × ByteArray) : List AV := encCuP01 a.1 a.2

theorem encCuP0_inj (a a' : ByteArray × ByteArray) (h : encCuP0 a = encCuP0 a') : a = a' := by
  simp only [encCuP0, encCuP01] at h
  try simp [strs_inj, ints_inj, ents_inj, eEnt_iff, eLst_iff, eSnds_inj, eStrms_inj] at h
  grind

theorem unCuP0 (s : ByteArray) (p : ByteArray) : unenc encCuP0 ([(vS s), (vS p)]) = some (s, p) := unenc_of encCuP0_inj (s, p) rfl

def resCuP01 (s : ByteArray) (p : ByteArray) : AV × Heap := (.tup [vS (F.cutP s p), vB (F.hasPrefix s p)], [])

def preCuP01 (s : ByteArray) (p : ByteArray) : Bool := true

noncomputable def oCuP0 : Orc := orc 58 true encCuP0 (fun a => preCuP01 a.1 a.2) fun a => resCuP01 a.1 a.2

theorem okCuP0 : OrcOK Tryd.prog noG oCuP0 := by
  refine mk_ok Tryd.f58 (keep := false) (by kernel_rfl) (by kernel_rfl) enCuP0_ok mixed (no_loops (by kernel_rfl)) (by first | exact fun _ _ => ⟨rfl, rfl⟩ | (intro h; cases h)) ?_
  rintro ⟨s, p⟩ hpre hok
  show (runF enCuP0 false _ (encCuP01 _ _)).val = some (resCuP01 _ _)
  unfold encCuP01 resCuP01
  rw [evCuP0]
  simp only [unHasPre0, preHasPre01, etaEnt, etaLst, etaSnd, etaStrm, etaMas, Option.bind_some, List.length_map, unStrs, unInts, unBools, unEnts, unItms, unTrns, cond_true, cond_false, Bool.and_true, Bool.true_and]
  unfold F.cutP
  cases hc : F.hasPrefix s p
  · rfl
  · have h1 : p.size ≤ s.size := by
      unfold F.hasPrefix at hc
      simp only [Bool.and_eq_true, decide_eq_true_eq] at hc
      exact hc.1
    rw [ble_t h1, ble_t (Nat.le_refl s.size)]
    rfl

noncomputable def enCuP : Env := envH ty noG lks [oCuP0] [] [] []

theorem enCuP_ok : EnvOK Tryd.prog enCuP := by
  refine envH_ok lks_ok ty_ok ?_ ?_
  · simp only [List.forall_mem_cons]
    exact ⟨okCuP0, by simp⟩
  · simp

theorem evCuP (s : ByteArray) (p : ByteArray) : (runF enCuP false Tryd.f44 [vS s, vS p]).val =
  Option.bind (unenc encCuP0 [(vS s), (vS p)]) fun (z : ByteArray × ByteArray) => some (AV.tup [(vS (F.cutP z.fst z.snd)), (vB (F.hasPrefix z.fst z.snd))], []) := (runFR_val).symm.trans (by kernel_rfl)

def encCuP1 (s : ByteArray) (p : ByteArray) : List AV := [vS s, vS p]

def encCuP (a : ByteArray × ByteArray) : List AV := encCuP1 a.1 a.2

theorem encCuP_inj (a a' : ByteArray × ByteArray) (h : encCuP a = encCuP a') : a = a' := by
  simp only [encCuP, encCuP1] at h
  try simp [strs_inj, ints_inj, ents_inj, eEnt_iff, eLst_iff, eSnds_inj, eStrms_inj] at h
  grind

theorem unCuP (s : ByteArray) (p : ByteArray) : unenc encCuP ([(vS s), (vS p)]) = some (s, p) := unenc_of encCuP_inj (s, p) rfl

def resCuP1 (s : ByteArray) (p : ByteArray) : AV × Heap := (.tup [vS (F.cutP s p), vB (F.hasPrefix s p)], [])

def preCuP1 (s : ByteArray) (p : ByteArray) : Bool := true

noncomputable def oCuP : Orc := orc 44 true encCuP (fun a => preCuP1 a.1 a.2) fun a => resCuP1 a.1 a.2

theorem okCuP : OrcOK Tryd.prog noG oCuP := by
  refine mk_ok Tryd.f44 (keep := false) (by kernel_rfl) (by kernel_rfl) enCuP_ok mixed (no_loops (by kernel_rfl)) (by first | exact fun _ _ => ⟨rfl, rfl⟩ | (intro h; cases h)) ?_
  rintro ⟨s, p⟩ hpre hok
  show (runF enCuP false _ (encCuP1 _ _)).val = some (resCuP1 _ _)
  unfold encCuP1 resCuP1
  rw [evCuP]
  simp only [unCuP0, preCuP01, etaEnt, etaLst, etaSnd, etaStrm, etaMas, Option.bind_some, List.length_map, unStrs, unInts, unBools, unEnts, unItms, unTrns, cond_true, cond_false, Bool.and_true, Bool.true_and]
  done

noncomputable def enHd : Env := envH ty noG lks [oCuP, oNum] [oTk] [] []

theorem enHd_ok : EnvOK Tryd.prog enHd := by
  refine envH_ok lks_ok ty_ok ?_ ?_
  · simp only [List.forall_mem_cons]
    exact ⟨okCuP, okNum, by simp⟩
  · simp only [List.forall_mem_cons]
    exact ⟨okTk, by simp⟩

theorem evHd (s : ByteArray) (n : Int) (w : ByteArray) : (runH enHd [] Tryd.f26 [.ptr 900 0 0, vS w] [(900, ⟨true, 0, 0, [[vS s, vI n]]⟩)]).val =
  Option.bind (unenc encTk ([.ptr 900 0 0], [(900, Blk.mk true 0 0 [[(vS s), (vI n)]])])) fun (z : ByteArray × Int) => bif decide (ByteArray.size z.fst ≤ (500000 : Nat)) &&
  decide ((0 : Int) ≤ z.snd) && decide (z.snd ≤ (1000000 : Int)) then bif Nat.ble (ByteArray.size w + ByteArray.size (ByteArray.mk (Array.mk [(32 : UInt8)])))
  (9223372036854775807 : Nat) then Option.bind (unenc encCuP [(vS (F.cutH z.fst F.nl)), (vS (w ++ ByteArray.mk (Array.mk [(32 : UInt8)])))]) fun (z_1 : ByteArray ×
  ByteArray) => Option.bind (unenc encNum [(vS (F.cutP z_1.fst z_1.snd)), (vI (16 : Int))]) fun (z_2 : ByteArray × Int) => bif decide (z_2.snd ≤ (18 : Int)) then some
  (AV.tup [(vI (F.numV z_2.fst z_2.snd)), (vB (bif bif F.cutF z.fst F.nl then F.hasPrefix z_1.fst z_1.snd else false then F.numOk z_2.fst z_2.snd else false))], [(900,
  Blk.mk true 0 0 [[(vS (F.cutT z.fst F.nl)), (vI (z.snd + (1 : Int)))]])], []) else none else none else none := (runHR_val).symm.trans (by kernel_rfl)

def encHd1 (s : ByteArray) (n : Int) (w : ByteArray) : List AV × Heap := ([.ptr 900 0 0, vS w], [(900, ⟨true, 0, 0, [[vS s, vI n]]⟩)])

def encHd (a : ByteArray × Int × ByteArray) : List AV × Heap := encHd1 a.1 a.2.1 a.2.2

theorem encHd_inj (a a' : ByteArray × Int × ByteArray) (h : encHd a = encHd a') : a = a' := by
  simp only [encHd, encHd1] at h
  try simp [strs_inj, ints_inj, ents_inj, eEnt_iff, eLst_iff, eSnds_inj, eStrms_inj] at h
  grind

theorem unHd (s : ByteArray) (n : Int) (w : ByteArray) : unenc encHd (([.ptr 900 0 0, (vS w)], [(900, Blk.mk true 0 0 [[(vS s), (vI n)]])])) = some (s, n, w) := unenc_of encHd_inj (s, n, w) rfl

def resHd1 (s : ByteArray) (n : Int) (w : ByteArray) : AV × Heap × List Nat := (.tup [vI (F.hdV s w), vB (F.hdOk s w)], [(900, ⟨true, 0, 0, [[vS (F.cutT s F.nl), vI (n + 1)]]⟩)], [])

def preHd1 (s : ByteArray) (n : Int) (w : ByteArray) : Bool := decide (s.size ≤ 500000) && decide (0 ≤ n) && decide (n ≤ 1000000) && decide (w.size ≤ 1000)

noncomputable def oHd : OrcH := orcH 26 encHd (fun a => preHd1 a.1 a.2.1 a.2.2) fun a => resHd1 a.1 a.2.1 a.2.2

theorem okHd : OrcHOK Tryd.prog noG oHd := by
  refine mkH_ok (mv := []) Tryd.f26 (by kernel_rfl) (by kernel_rfl) enHd_ok mixed (no_loops (by kernel_rfl)) ?_
  rintro ⟨s, n, w⟩ hpre hok hokh
  show (runH enHd [] _ (encHd1 _ _ _).1 (encHd1 _ _ _).2).val = some (resHd1 _ _ _)
  unfold encHd1 resHd1
  rw [evHd]
  simp only [preHd1, Bool.and_eq_true, decide_eq_true_eq] at hpre
  obtain ⟨⟨⟨h1, h2⟩, h3⟩, h4⟩ := hpre
  simp only [unCuP, unNum, unTk, preCuP1, preNum1, preTk1, etaEnt, etaLst, etaSnd, etaStrm, etaMas, Option.bind_some, List.length_map, unStrs, unInts, unBools, unEnts, unItms, unTrns, cond_true, cond_false, Bool.and_true, Bool.true_and, decide_eq_true h1, decide_eq_true h2, decide_eq_true h3, (by decide : decide ((16 : Int) ≤ 18) = true)]
  have e1 : (⟨⟨[32]⟩⟩ : ByteArray) = F.sp := rfl
  have e2 : F.sp.size = 1 := rfl
  rw [e1, e2, ble_t (by omega : w.size + 1 ≤ 9223372036854775807)]
  unfold F.hdV F.hdOk F.hdW
  cases F.cutF s F.nl <;> cases F.hasPrefix (F.cutH s F.nl) (w ++ F.sp) <;> rfl

noncomputable def enEl : Env := envH ty noG lks [oHasPre, oCut, oDa, oVis, oUnd, oMil] [] [901] []

theorem enEl_ok : EnvOK Tryd.prog enEl := by
  refine envH_ok lks_ok ty_ok ?_ ?_
  · simp only [List.forall_mem_cons]
    exact ⟨okHasPre, okCut, okDa, okVis, okUnd, okMil, by simp⟩
  · simp

theorem evEl (u : ByteArray) (m : Int) (b : Bool) (d : Int) (ky : ByteArray) (g : Bool) (x : List ByteArray) (line : ByteArray) (rank : Int) (key : ByteArray) : (runH enEl [901] Tryd.f46 [.ptr 900 0 0, vS line, vI rank, vS key] [(901, ⟨false, 9, 1, x.map eStr⟩), (900, ⟨true, 0, 0, [[vS u, vI m, vB b, vI d, vS ky, vB g, .own 901]]⟩)]).val =
  Option.bind (unenc encCut [(vS line), (vS (ByteArray.mk (Array.mk [(32 : UInt8)])))]) fun (z : ByteArray × ByteArray) => bif decide (ByteArray.size z.fst ≤ (4294967280 :
  Nat)) then bif rank == (5 : Int) then bif !ByteArray.toList line == ByteArray.toList (ByteArray.mk (Array.mk [])) then Option.bind line[(0 : Nat)]? fun (z : UInt8) => bif
  bif bif !(↑(UInt8.toNat z) : Int) != (35 : Int) then true else decide ((6 : Int) < rank) then true else bif (6 : Int) == rank then (6 : Int) != (0 : Int) else false then
  some ((vI (-1 : Int)), [(901, Blk.mk false 9 1 (List.map eStr x)), (900, Blk.mk true 0 0 [[(vS line), (vI m), (vB b), (vI d), (vS ky), (vB g), .own 901]])], [(901 : Nat)])
  else some ((vI (6 : Int)), [(901, Blk.mk false 9 1 (List.map eStr x)), (900, Blk.mk true 0 0 [[(vS line), (vI m), (vB b), (vI d), (vS ky), (vB g), .own 901]])], [(901 :
  Nat)]) else some ((vI (-1 : Int)), [(901, Blk.mk false 9 1 (List.map eStr x)), (900, Blk.mk true 0 0 [[(vS line), (vI m), (vB b), (vI d), (vS ky), (vB g), .own 901]])],
  [(901 : Nat)]) else Option.bind (unenc encHasPre [(vS line), (vS (ByteArray.mk (Array.mk [(35 : UInt8), (88 : UInt8)])))]) fun (z_1 : ByteArray × ByteArray) => bif
  F.hasPrefix z_1.fst z_1.snd then bif Nat.ble ((List.length (List.map eStr x) + (1 : Nat)) * (16 : Nat)) (140737488355328 : Nat) && true then bif bif decide ((0 : Int) <
  rank) then true else bif (0 : Int) == rank then (0 : Int) != (0 : Int) else false then some ((vI (-1 : Int)), [(901, Blk.mk false 9 1 (List.map eStr x ++ [[(vS line)]])),
  (900, Blk.mk true 0 0 [[(vS u), (vI m), (vB b), (vI d), (vS ky), (vB g), .own 901]])], [(901 : Nat)]) else some ((vI (0 : Int)), [(901, Blk.mk false 9 1 (List.map eStr x
  ++ [[(vS line)]])), (900, Blk.mk true 0 0 [[(vS u), (vI m), (vB b), (vI d), (vS ky), (vB g), .own 901]])], [(901 : Nat)]) else none else bif ByteArray.toList line ==
  ByteArray.toList (ByteArray.mk (Array.mk [(35 : UInt8), (66 : UInt8), (82 : UInt8), (69 : UInt8), (65 : UInt8), (75 : UInt8)])) then bif bif decide ((1 : Int) < rank) then
  true else bif (1 : Int) == rank then (1 : Int) != (0 : Int) else false then some ((vI (-1 : Int)), [(901, Blk.mk false 9 1 (List.map eStr x)), (900, Blk.mk true 0 0 [[(vS
  u), (vI m), (vB true), (vI d), (vS ky), (vB g), .own 901]])], [(901 : Nat)]) else some ((vI (1 : Int)), [(901, Blk.mk false 9 1 (List.map eStr x)), (900, Blk.mk true 0 0
  [[(vS u), (vI m), (vB true), (vI d), (vS ky), (vB g), .own 901]])], [(901 : Nat)]) else bif ByteArray.toList line == ByteArray.toList (ByteArray.mk (Array.mk [(35 :
  UInt8), (71 : UInt8), (65 : UInt8), (80 : UInt8)])) then bif bif decide ((4 : Int) < rank) then true else bif (4 : Int) == rank then (4 : Int) != (0 : Int) else false then
  some ((vI (-1 : Int)), [(901, Blk.mk false 9 1 (List.map eStr x)), (900, Blk.mk true 0 0 [[(vS u), (vI m), (vB b), (vI d), (vS ky), (vB true), .own 901]])], [(901 : Nat)])
  else some ((vI (4 : Int)), [(901, Blk.mk false 9 1 (List.map eStr x)), (900, Blk.mk true 0 0 [[(vS u), (vI m), (vB b), (vI d), (vS ky), (vB true), .own 901]])], [(901 :
  Nat)]) else bif bif ByteArray.toList (F.cutH z.fst z.snd) == ByteArray.toList (ByteArray.mk (Array.mk [(35 : UInt8), (68 : UInt8), (65 : UInt8), (84 : UInt8), (69 :
  UInt8)])) then F.cutF z.fst z.snd else false then Option.bind (unenc encDa [(vS (F.cutT z.fst z.snd))]) fun (z : ByteArray) => bif bif bif !(bif F.dtOk z then (0 : Int)
  else (10 : Int)) == (0 : Int) then true else decide ((2 : Int) < rank) then true else bif (2 : Int) == rank then (2 : Int) != (0 : Int) else false then some ((vI (-1 :
  Int)), [(901, Blk.mk false 9 1 (List.map eStr x)), (900, Blk.mk true 0 0 [[(vS u), (vI m), (vB b), (vI (F.dtV z)), (vS ky), (vB g), .own 901]])], [(901 : Nat)]) else some
  ((vI (2 : Int)), [(901, Blk.mk false 9 1 (List.map eStr x)), (900, Blk.mk true 0 0 [[(vS u), (vI m), (vB b), (vI (F.dtV z)), (vS ky), (vB g), .own 901]])], [(901 : Nat)])
  else bif bif ByteArray.toList (F.cutH z.fst z.snd) == ByteArray.toList (ByteArray.mk (Array.mk [(35 : UInt8), (75 : UInt8), (69 : UInt8), (89 : UInt8)])) then F.cutF z.fst
  z.snd else false then bif !ByteArray.toList (F.cutT z.fst z.snd) == ByteArray.toList (ByteArray.mk (Array.mk [])) then Option.bind (unenc encVis [(vS (F.cutT z.fst
  z.snd)), (vU (33 : Int))]) fun (z_2 : ByteArray × Int) => bif F.vis z_2.fst z_2.snd then Option.bind (unenc encUnd [(vS (F.cutT z.fst z.snd))]) fun (z_3 : ByteArray) =>
  Option.bind (unenc encUnd [(vS (F.cutT z.fst z.snd))]) fun (z : ByteArray) => bif bif bif !!ByteArray.toList (F.undash z_3) == ByteArray.toList key then true else decide
  ((3 : Int) < rank) then true else bif (3 : Int) == rank then (3 : Int) != (0 : Int) else false then some ((vI (-1 : Int)), [(901, Blk.mk false 9 1 (List.map eStr x)),
  (900, Blk.mk true 0 0 [[(vS u), (vI m), (vB b), (vI d), (vS (F.undash z)), (vB g), .own 901]])], [(901 : Nat)]) else some ((vI (3 : Int)), [(901, Blk.mk false 9 1
  (List.map eStr x)), (900, Blk.mk true 0 0 [[(vS u), (vI m), (vB b), (vI d), (vS (F.undash z)), (vB g), .own 901]])], [(901 : Nat)]) else Option.bind (unenc encUnd [(vS
  (F.cutT z.fst z.snd))]) fun (z : ByteArray) => some ((vI (-1 : Int)), [(901, Blk.mk false 9 1 (List.map eStr x)), (900, Blk.mk true 0 0 [[(vS u), (vI m), (vB b), (vI d),
  (vS (F.undash z)), (vB g), .own 901]])], [(901 : Nat)]) else Option.bind (unenc encUnd [(vS (F.cutT z.fst z.snd))]) fun (z : ByteArray) => some ((vI (-1 : Int)), [(901,
  Blk.mk false 9 1 (List.map eStr x)), (900, Blk.mk true 0 0 [[(vS u), (vI m), (vB b), (vI d), (vS (F.undash z)), (vB g), .own 901]])], [(901 : Nat)]) else bif bif
  ByteArray.toList (F.cutH z.fst z.snd) == ByteArray.toList (ByteArray.mk (Array.mk [(35 : UInt8), (84 : UInt8), (73 : UInt8), (77 : UInt8), (69 : UInt8)])) then F.cutF
  z.fst z.snd else false then Option.bind (unenc encMil [(vS (F.cutT z.fst z.snd))]) fun (z : ByteArray) => bif decide (ByteArray.size z ≤ (500000 : Nat)) then bif bif bif
  !F.milOk z then true else decide ((5 : Int) < rank) then true else bif (5 : Int) == rank then (5 : Int) != (0 : Int) else false then some ((vI (-1 : Int)), [(901, Blk.mk
  false 9 1 (List.map eStr x)), (900, Blk.mk true 0 0 [[(vS u), (vI (F.milV z)), (vB b), (vI d), (vS ky), (vB g), .own 901]])], [(901 : Nat)]) else some ((vI (5 : Int)),
  [(901, Blk.mk false 9 1 (List.map eStr x)), (900, Blk.mk true 0 0 [[(vS u), (vI (F.milV z)), (vB b), (vI d), (vS ky), (vB g), .own 901]])], [(901 : Nat)]) else none else
  some ((vI (-1 : Int)), [(901, Blk.mk false 9 1 (List.map eStr x)), (900, Blk.mk true 0 0 [[(vS u), (vI m), (vB b), (vI d), (vS ky), (vB g), .own 901]])], [(901 : Nat)])
  else none := (runHR_val).symm.trans (by kernel_rfl)

def encEl1 (u : ByteArray) (m : Int) (b : Bool) (d : Int) (ky : ByteArray) (g : Bool) (x : List ByteArray) (line : ByteArray) (rank : Int) (key : ByteArray) : List AV × Heap := ([.ptr 900 0 0, vS line, vI rank, vS key], [(901, ⟨false, 9, 1, x.map eStr⟩), (900, ⟨true, 0, 0, [[vS u, vI m, vB b, vI d, vS ky, vB g, .own 901]]⟩)])

def encEl (a : ByteArray × Int × Bool × Int × ByteArray × Bool × (List ByteArray) × ByteArray × Int × ByteArray) : List AV × Heap := encEl1 a.1 a.2.1 a.2.2.1 a.2.2.2.1 a.2.2.2.2.1 a.2.2.2.2.2.1 a.2.2.2.2.2.2.1 a.2.2.2.2.2.2.2.1 a.2.2.2.2.2.2.2.2.1 a.2.2.2.2.2.2.2.2.2

theorem encEl_inj (a a' : ByteArray × Int × Bool × Int × ByteArray × Bool × (List ByteArray) × ByteArray × Int × ByteArray) (h : encEl a = encEl a') : a = a' := by
  simp only [encEl, encEl1] at h
  try simp [strs_inj, ints_inj, ents_inj, eEnt_iff, eLst_iff, eSnds_inj, eStrms_inj] at h
  grind

theorem unEl (u : ByteArray) (m : Int) (b : Bool) (d : Int) (ky : ByteArray) (g : Bool) (x : List ByteArray) (line : ByteArray) (rank : Int) (key : ByteArray) : unenc encEl (([.ptr 900 0 0, (vS line), (vI rank), (vS key)], [(901, Blk.mk false 9 1 (List.map eStr x)), (900, Blk.mk true 0 0 [[(vS u), (vI m), (vB b), (vI d), (vS ky), (vB g), .own
  901]])])) = some (u, m, b, d, ky, g, x, line, rank, key) := unenc_of encEl_inj (u, m, b, d, ky, g, x, line, rank, key) rfl

def resEl1 (u : ByteArray) (m : Int) (b : Bool) (d : Int) (ky : ByteArray) (g : Bool) (x : List ByteArray) (line : ByteArray) (rank : Int) (key : ByteArray) : AV × Heap × List Nat := (vI (F.elR line rank key), [(901, ⟨false, 9, 1, (F.elE ⟨u, m, b, d, ky, g, x⟩ line (F.elK line rank)).extra.map eStr⟩), (900, ⟨true, 0, 0, [[vS (F.elE ⟨u, m, b, d, ky, g, x⟩ line (F.elK line rank)).uri, vI (F.elE ⟨u, m, b, d, ky, g, x⟩ line (F.elK line rank)).milli, vB (F.elE ⟨u, m, b, d, ky, g, x⟩ line (F.elK line rank)).brk, vI (F.elE ⟨u, m, b, d, ky, g, x⟩ line (F.elK line rank)).date, vS (F.elE ⟨u, m, b, d, ky, g, x⟩ line (F.elK line rank)).key, vB (F.elE ⟨u, m, b, d, ky, g, x⟩ line (F.elK line rank)).gap, .own 901]]⟩)], [901])

def preEl1 (u : ByteArray) (m : Int) (b : Bool) (d : Int) (ky : ByteArray) (g : Bool) (x : List ByteArray) (line : ByteArray) (rank : Int) (key : ByteArray) : Bool := decide (line.size ≤ 500000) && decide (x.length ≤ 600000) && decide (0 ≤ rank) && decide (rank ≤ 5)

noncomputable def oEl : OrcH := orcH 46 encEl (fun a => preEl1 a.1 a.2.1 a.2.2.1 a.2.2.2.1 a.2.2.2.2.1 a.2.2.2.2.2.1 a.2.2.2.2.2.2.1 a.2.2.2.2.2.2.2.1 a.2.2.2.2.2.2.2.2.1 a.2.2.2.2.2.2.2.2.2) fun a => resEl1 a.1 a.2.1 a.2.2.1 a.2.2.2.1 a.2.2.2.2.1 a.2.2.2.2.2.1 a.2.2.2.2.2.2.1 a.2.2.2.2.2.2.2.1 a.2.2.2.2.2.2.2.2.1 a.2.2.2.2.2.2.2.2.2

theorem okEl : OrcHOK Tryd.prog noG oEl := by
  refine mkH_ok (mv := [901]) Tryd.f46 (by kernel_rfl) (by kernel_rfl) enEl_ok mixed (no_loops (by kernel_rfl)) ?_
  rintro ⟨u, m, b, d, ky, g, x, line, rank, key⟩ hpre hok hokh
  show (runH enEl [901] _ (encEl1 _ _ _ _ _ _ _ _ _ _).1 (encEl1 _ _ _ _ _ _ _ _ _ _).2).val = some (resEl1 _ _ _ _ _ _ _ _ _ _)
  unfold encEl1 resEl1
  rw [evEl]
  simp only [preEl1, Bool.and_eq_true, decide_eq_true_eq] at hpre
  obtain ⟨⟨⟨h1, h2⟩, h3⟩, h4⟩ := hpre
  have z1 := F.cutT_size line F.sp
  have b1 : Nat.ble ((x.length + 1) * 16) 140737488355328 = true := ble_t (by omega)
  have q1 : (⟨⟨[35, 88]⟩⟩ : ByteArray) = F.kX := rfl
  simp only [unHasPre, unCut, unDa, unVis, unUnd, unMil, preHasPre1, preCut1, preDa1, preVis1, preUnd1, preMil1, etaEnt, etaLst, etaSnd, etaStrm, etaMas, Option.bind_some, List.length_map, unStrs, unInts, unBools, unEnts, unItms, unTrns, cond_true, cond_false, Bool.and_true, Bool.true_and, q1, sp_eq, decide_eq_true (by omega : line.size ≤ 4294967280), decide_eq_true (by omega : (F.cutT line F.sp).size ≤ 500000), b1]
  have c0 : ((0 : Nat) : Int) = 0 := rfl
  have c1 : ((1 : Nat) : Int) = 1 := rfl
  have c2 : ((2 : Nat) : Int) = 2 := rfl
  have c3 : ((3 : Nat) : Int) = 3 := rfl
  have c4 : ((4 : Nat) : Int) = 4 := rfl
  have c5 : ((5 : Nat) : Int) = 5 := rfl
  have c6 : ((6 : Nat) : Int) = 6 := rfl
  have c7 : ((7 : Nat) : Int) = 7 := rfl
  have q2 : (line.toList == (⟨⟨[35, 66, 82, 69, 65, 75]⟩⟩ : ByteArray).toList) = F.seq line F.kBrk := rfl
  have q3 : (line.toList == (⟨⟨[35, 71, 65, 80]⟩⟩ : ByteArray).toList) = F.seq line F.kGap := rfl
  have q4 : ((F.cutH line F.sp).toList == (⟨⟨[35, 68, 65, 84, 69]⟩⟩ : ByteArray).toList) = F.seq (F.cutH line F.sp) F.kDat := rfl
  have q5 : ((F.cutH line F.sp).toList == (⟨⟨[35, 75, 69, 89]⟩⟩ : ByteArray).toList) = F.seq (F.cutH line F.sp) F.kKey := rfl
  have q6 : ((F.cutH line F.sp).toList == (⟨⟨[35, 84, 73, 77, 69]⟩⟩ : ByteArray).toList) = F.seq (F.cutH line F.sp) F.kTim := rfl
  have q7 : ((F.undash (F.cutT line F.sp)).toList == key.toList) = F.seq (F.undash (F.cutT line F.sp)) key := rfl
  rw [q2, q3, q4, q5, q6, q7]
  clear q2 q3 q4 q5 q6 q7 q1 b1
  unfold F.elR F.elE
  cases k5 : (rank == 5)
  case true =>
    have hk : F.elK line rank = 6 := by unfold F.elK; rw [k5]; rfl
    have hr : rank = 5 := by simpa using k5
    rw [hk]
    subst hr
    unfold F.elO F.uriL
    have h0 := F.bs_len line
    rw [F.empty_eq, Bool.not_not]
    by_cases hz : line.size = 0
    · rw [decide_eq_false (by omega : ¬ line.size ≠ 0)]
      rfl
    · rw [decide_eq_true hz]
      have hb : (F.bs line)[0]? = some ((F.bs line)[0]'(by omega)) := List.getElem?_eq_getElem (by omega)
      generalize (F.bs line)[0]'(by omega) = z at hb
      have hb0 : F.b0 line = (z.toNat : Int) := by unfold F.b0; rw [hb]
      have hs0 : line[0]? = some z := by rw [F.bs_get]; exact hb
      have e3 : ((z.toNat : Int) != 35) = !decide ((z.toNat : Int) = 35) := by by_cases h : (z.toNat : Int) = 35 <;> simp [h]
      rw [hs0, hb0]
      simp only [cond_true, Option.bind_some, Bool.true_and, e3]
      cases decide ((z.toNat : Int) = 35) <;> rfl
  cases kx : F.hasPrefix line F.kX
  case true =>
    have hk : F.elK line rank = 0 := by unfold F.elK; rw [k5, kx]; rfl
    have ex : (bif Nat.beq 0 0 then x ++ [line] else x).map eStr = x.map eStr ++ [[vS line]] := by
      show (x ++ [line]).map eStr = _
      simp [eStr]
    simp only [hk, c0, cond_true, cond_false]
    rw [ex]
    cases decide ((0 : Int) < rank) <;> cases ((0 : Int) == rank) <;> rfl
  cases kb : F.seq line F.kBrk
  case true =>
    have hk : F.elK line rank = 1 := by unfold F.elK; rw [k5, kx, kb]; rfl
    simp only [hk, c1, cond_true, cond_false]
    cases decide ((1 : Int) < rank) <;> cases ((1 : Int) == rank) <;> rfl
  cases kg : F.seq line F.kGap
  case true =>
    have hk : F.elK line rank = 4 := by unfold F.elK; rw [k5, kx, kb, kg]; rfl
    simp only [hk, c4, cond_true, cond_false]
    cases decide ((4 : Int) < rank) <;> cases ((4 : Int) == rank) <;> rfl
  have hn : ∀ (a b : Bool), (bif a then b else false) = (a && b) := by decide
  simp only [hn]
  cases kd : (F.seq (F.cutH line F.sp) F.kDat && F.cutF line F.sp)
  case true =>
    have hk : F.elK line rank = 2 := by unfold F.elK; rw [k5, kx, kb, kg, kd]; rfl
    simp only [hk, c2, cond_true, cond_false, F.elO]
    cases F.dtOk (F.cutT line F.sp) <;> cases decide ((2 : Int) < rank) <;> cases ((2 : Int) == rank) <;> rfl
  cases kk : (F.seq (F.cutH line F.sp) F.kKey && F.cutF line F.sp)
  case true =>
    have hk : F.elK line rank = 3 := by unfold F.elK; rw [k5, kx, kb, kg, kd, kk]; rfl
    simp only [hk, c3, cond_true, cond_false, F.elO, F.keyB, F.empty_eq, Bool.not_not]
    cases decide ((F.cutT line F.sp).size ≠ 0) <;> cases F.vis (F.cutT line F.sp) 33 <;> cases F.seq (F.undash (F.cutT line F.sp)) key <;> cases decide ((3 : Int) < rank) <;> cases ((3 : Int) == rank) <;> rfl
  cases kt : (F.seq (F.cutH line F.sp) F.kTim && F.cutF line F.sp)
  case true =>
    have hk : F.elK line rank = 5 := by unfold F.elK; rw [k5, kx, kb, kg, kd, kk, kt]; rfl
    simp only [hk, c5, cond_true, cond_false, F.elO]
    cases F.milOk (F.cutT line F.sp) <;> cases decide ((5 : Int) < rank) <;> cases ((5 : Int) == rank) <;> rfl
  have hk : F.elK line rank = 7 := by unfold F.elK; rw [k5, kx, kb, kg, kd, kk, kt]; rfl
  simp only [hk, c7, cond_true, cond_false, F.elO]
  first | rfl | (cases decide ((7 : Int) < rank) <;> cases ((7 : Int) == rank) <;> rfl)

end M
end Go.Proofs.YtgkjfochkhiojaaDoor
