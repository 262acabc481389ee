/- What is proved here: what the reference's master returns, and the loop of its ReadMaster (no statement of the seat). -/
import Derived.Test.YtipngpndgniagaaGreatDoorE61
namespace Go.Proofs.YtipngpndgniagaaGreatDoor
open Go Go.RowKit
set_option linter.unusedVariables false
set_option linter.unusedSimpArgs false

/-- A list of all renditions, if it is right. -/
def F.okM (m : Mas) : Mas := bif F.chkM m != 0 then F.noMas else m

theorem F.mor_lt {ls : List ByteArray} {op : Bool} {a : Nat} (h : F.mor ls op a = true) : a < ls.length := by
  unfold F.mor at h
  simp only [Bool.and_eq_true, decide_eq_true_eq] at h
  exact h.1

/-- The line cannot be a rendition's first one. -/
def F.rBad (w : List ByteArray) (m : Mas) : Bool := !F.wOk w || !(F.isStr w && F.numsOk w) && (!F.isSnd w || decide (0 < m.streams.length))

def F.rAdd (w : List ByteArray) (u : ByteArray) (m : Mas) : Mas := bif F.isSnd w then ⟨m.streams, m.sounds ++ [F.sndOf w u]⟩ else ⟨m.streams ++ [F.strOf w u], m.sounds⟩

/-- No line is long. -/
def F.smE (ls : List ByteArray) : Bool := ls.all fun y => decide (y.size ≤ 500000)

def F.lW (ls : List ByteArray) (a : Nat) : List ByteArray := F.wds (F.lAt ls a)

/-- The reference's way through lines: whether it ended behind the last one, the line, the renditions. -/
def F.rrS (ls : List ByteArray) (op : Bool) (a : Nat) (m : Mas) : Bool × Nat × Mas :=
  if h : F.mor ls op a = true then
    (if F.rBad (F.lW ls a) m = true then (false, a, m) else
     if F.ruri ls op (a + 1) = false then (false, a + 1, m) else
     if a + 2 = ls.length then (true, a + 2, F.rAdd (F.lW ls a) (F.lAt ls (a + 1)) m) else
     F.rrS ls op (a + 2) (F.rAdd (F.lW ls a) (F.lAt ls (a + 1)) m))
  else (false, a, m)
termination_by ls.length - a
decreasing_by have := F.mor_lt h; omega

namespace M


noncomputable def enRMs : Env := envH ty noG lks [oRM] [] [] []

theorem enRMs_ok : EnvOK Tryz.prog enRMs := by
  refine envH_ok lks_ok ty_ok ?_ ?_
  · simp only [List.forall_mem_cons]
    exact ⟨okRM, by simp⟩
  · simp

theorem evRMs (m : Mas) : (runF enRMs false Tryz.f19 [.agg (eMas m)]).val =
  Option.bind (unenc encRM [AV.agg [AV.sl (List.map eStrm m.streams), AV.sl (List.map eSnd m.sounds)]]) fun (z : Mas) => bif F.chkM z != (0 : Int) then some (AV.tup [AV.agg
  [AV.sl [], AV.sl []], (vI (0 : Int)), (vI (F.chkM z))], []) else some (AV.tup [AV.agg [AV.sl (List.map eStrm m.streams), AV.sl (List.map eSnd m.sounds)], (vI (0 : Int)),
  (vI (0 : Int))], []) := (runFR_val).symm.trans (by kernel_rfl)

def encRMs1 (m : Mas) : List AV := [.agg (eMas m)]

def encRMs (a : Mas) : List AV := encRMs1 a

theorem encRMs_inj (a a' : Mas) (h : encRMs a = encRMs a') : a = a' := by
  simp only [encRMs, encRMs1] at h
  try simp [strs_inj, ints_inj, ents_inj, eEnt_iff, eLst_iff, eSnds_inj, eStrms_inj, eMas_iff] at h
  grind

theorem unRMs (m : Mas) : unenc encRMs ([AV.agg [AV.sl (List.map eStrm m.streams), AV.sl (List.map eSnd m.sounds)]]) = some (m) := unenc_of encRMs_inj (m) rfl

theorem unRMsw (m_streams : List Strm) (m_sounds : List Snd) : unenc encRMs ([AV.agg [AV.sl (List.map eStrm m_streams), AV.sl (List.map eSnd m_sounds)]]) = some ((Mas.mk m_streams m_sounds)) := unenc_of encRMs_inj ((Mas.mk m_streams m_sounds)) rfl

def resRMs1 (m : Mas) : AV × Heap := (.tup [.agg (eMas (F.okM m)), vI 0, vI (F.chkM m)], [])

def preRMs1 (m : Mas) : Bool := true

noncomputable def oRMs : Orc := orc 19 false encRMs (fun a => preRMs1 a) fun a => resRMs1 a

theorem okRMs : OrcOK Tryz.prog noG oRMs := by
  refine mk_ok Tryz.f19 (keep := false) (by kernel_rfl) (by kernel_rfl) enRMs_ok mixed (no_loops (by kernel_rfl)) (by first | exact fun _ _ => ⟨rfl, rfl⟩ | (intro h; cases h)) ?_
  rintro m hpre hok
  show (runF enRMs false _ (encRMs1 _)).val = some (resRMs1 _)
  unfold encRMs1 resRMs1
  rw [evRMs]
  simp only [unRM, unRMw, preRM1, etaEnt, etaLst, etaSnd, etaStrm, etaMas, Option.bind_some, List.length_map, unStrs, unInts, unBools, unEnts, unItms, unTrns, cond_true, cond_false, Bool.and_true, Bool.true_and, F.okM]
  cases h : F.chkM m != 0
  · have : F.chkM m = 0 := by simpa using h
    rw [this]; rfl
  · rfl

def stRr (ls : List ByteArray) (op : Bool) (a : Nat) (ok : Bool) : St := ⟨[(7, vB ok), (6, .ptr 6 0 0), (5, .ptr 22000 0 0), (2, .ptr 2 0 0)], [(22001, ⟨false, 9, 1, ls.map eStr⟩), (22000, ⟨true, 0, 0, [[.own 22001, vI a, vB op]]⟩), (6, ⟨true, 0, 0, [[.e0, .e0]]⟩), (2, ⟨true, 0, 0, [[.e0, .e0]]⟩)]⟩

def stRr1 (a : (List ByteArray) × Bool × Nat × Bool) : St := stRr a.1 a.2.1 a.2.2.1 a.2.2.2

theorem stRr_inj (a a' : (List ByteArray) × Bool × Nat × Bool) (h : stRr1 a = stRr1 a') : a = a' := by
  simp only [stRr1, stRr] at h
  try simp [strs_inj, ints_inj, ents_inj, eEnt_iff, eLst_iff, eSnds_inj, eStrms_inj, eMas_iff] at h
  grind

theorem unstRr (ls : List ByteArray) (op : Bool) (a : Nat) (ok : Bool) : unenc stRr1 (St.mk [(7, (vB ok)), (6, .ptr 6 0 0), (5, .ptr 22000 0 0), (2, .ptr 2 0 0)] [(22001, Blk.mk false 9 1 (List.map eStr ls)), (22000, Blk.mk true 0 0 [[.own 22001, (vI (↑a :
  Int)), (vB op)]]), (6, Blk.mk true 0 0 [[AV.e0, AV.e0]]), (2, Blk.mk true 0 0 [[AV.e0, AV.e0]])]) = some (ls, op, a, ok) := unenc_of stRr_inj (ls, op, a, ok) rfl

def outRr (ls : List ByteArray) (op : Bool) (a : Nat) (ok : Bool) : T (Ex × St) := .ifB (ok && (F.rrS ls op a F.noMas).1)
      (.ret (.ret, ⟨[(4, vI (F.chkM (F.rrS ls op a F.noMas).2.2)), (3, vI 0), (2, .ptr 2 0 0)], [(2, ⟨true, 0, 0, [[.sl ((F.okM (F.rrS ls op a F.noMas).2.2).streams.map eStrm), .sl ((F.okM (F.rrS ls op a F.noMas).2.2).sounds.map eSnd)]]⟩)]⟩))
      (.ret (.exit 0, ⟨[(7, vB ok), (6, .ptr 6 0 0), (5, .ptr 22000 0 0), (2, .ptr 2 0 0)], [(22001, ⟨false, 9, 1, ls.map eStr⟩), (22000, ⟨true, 0, 0, [[.own 22001, vI (bif ok then (F.rrS ls op a F.noMas).2.1 else a : Nat), vB op]]⟩), (891, ⟨false, 48, 5, (bif ok then (F.rrS ls op a F.noMas).2.2 else F.noMas).sounds.map eSnd⟩), (890, ⟨false, 52, 7, (bif ok then (F.rrS ls op a F.noMas).2.2 else F.noMas).streams.map eStrm⟩), (6, ⟨true, 0, 0, [[.own 890, .own 891]]⟩), (2, ⟨true, 0, 0, [[.e0, .e0]]⟩)]⟩))

noncomputable def prlRr (ls : List ByteArray) (op : Bool) (a : Nat) (ok : Bool) : Bool := decide (a ≤ 1) && decide (ls.length ≤ 500000) && F.smE ls

noncomputable def lpRr : Nat × (St → T (Ex × St)) := (6, lpo [7, 6, 5, 2] [22001, 22000, 6, 2] stRr1 (fun a => prlRr a.1 a.2.1 a.2.2.1 a.2.2.2) fun a => outRr a.1 a.2.1 a.2.2.1 a.2.2.2)

noncomputable def enRr : Env := envH ty noG lks [oRMor, oRWds, oRSn, oRSt, oRMs] [oDvd, oRExa, oRUri] [] [lpRr]

theorem enRr_ok : EnvOK Tryz.prog enRr := by
  refine envH_ok lks_ok ty_ok ?_ ?_
  · simp only [List.forall_mem_cons]
    exact ⟨okRMor, okRWds, okRSn, okRSt, okRMs, by simp⟩
  · simp only [List.forall_mem_cons]
    exact ⟨okDvd, okRExa, okRUri, by simp⟩

def stRq (ls : List ByteArray) (op : Bool) (a : Nat) (ok : Bool) (st : List Strm) (so : List Snd) : St := ⟨[(7, vB ok), (6, .ptr 6 0 0), (5, .ptr 22000 0 0), (2, .ptr 2 0 0)], [(22001, ⟨false, 9, 1, ls.map eStr⟩), (22000, ⟨true, 0, 0, [[.own 22001, vI a, vB op]]⟩), (891, ⟨false, 48, 5, so.map eSnd⟩), (890, ⟨false, 52, 7, st.map eStrm⟩), (6, ⟨true, 0, 0, [[.own 890, .own 891]]⟩), (2, ⟨true, 0, 0, [[.e0, .e0]]⟩)]⟩

theorem evRq (ls : List ByteArray) (op : Bool) (a : Nat) (ok : Bool) (st : List Strm) (so : List Snd) : ((exec enRr (loopN Tryz.f5 0) (stRq ls op a ok st so)).bind (lessX ([7, 6, 5, 2], [22001, 22000, 891, 890, 6, 2]) ([7, 6, 5, 2], [22001, 22000, 891, 890, 6, 2]) ([4, 3, 2], [2]))).val =
  bif ok then Option.bind (unenc encRMor [AV.pel [AV.sl (List.map eStr ls), (vI (↑a : Int)), (vB op)] (0 : Nat)]) fun (z : List ByteArray × Nat × Bool) => bif decide
  (z.snd.fst ≤ (600000 : Nat)) && decide (List.length z.fst ≤ (600000 : Nat)) then bif F.mor z.fst z.snd.snd z.snd.fst then bif decide (a < List.length (Blk.mk false 9 1
  (List.map eStr ls)).rows) then Option.bind (unenc (List.map eStr) (List.map eStr ls)) fun (z : List ByteArray) => bif decide (a < List.length z) then Option.bind (unenc
  encRWds [(vS (List.getD z a (ByteArray.mk (Array.mk []))))]) fun (z : ByteArray) => bif decide (ByteArray.size z ≤ (500000 : Nat)) then Option.bind (unenc encRSn [AV.sl
  (List.map eStr (bif F.wOk (F.wds z) then F.wds z else []))]) fun (z_1 : List ByteArray) => Option.bind (unenc encRSt [AV.sl (List.map eStr (bif F.wOk (F.wds z) then F.wds
  z else []))]) fun (z_2 : List ByteArray) => bif bif !F.wOk (F.wds z) then true else bif !(F.isStr z_2 && F.numsOk z_2) then bif !F.isSnd z_1 then true else decide ((0 :
  Int) < (↑(List.length (List.map eStrm st)) : Int)) else false then some (Ex.exit (0 : Nat), St.mk [(7, (vB ok)), (6, .ptr 6 0 0), (5, .ptr 22000 0 0), (2, .ptr 2 0 0)]
  [(22001, Blk.mk false 9 1 (List.map eStr ls)), (22000, Blk.mk true 0 0 [[.own 22001, (vI (↑a : Int)), (vB op)]]), (891, Blk.mk false 48 5 (List.map eSnd so)), (890, Blk.mk
  false 52 7 (List.map eStrm st)), (6, Blk.mk true 0 0 [[.own 890, .own 891]]), (2, Blk.mk true 0 0 [[AV.e0, AV.e0]])]) else Option.bind (unenc encRUri ([.ptr 900 0 0],
  [(901, Blk.mk false 9 1 (List.map eStr ls)), (900, Blk.mk true 0 0 [[.own 901, (vI (IntKind.wrap IntKind.i64 ((↑a : Int) + (1 : Int)))), (vB op)]])])) fun (z : List
  ByteArray × Nat × Bool) => bif decide (z.snd.fst ≤ (600000 : Nat)) && decide (List.length z.fst ≤ (600000 : Nat)) then bif !F.ruri z.fst z.snd.snd z.snd.fst then some
  (Ex.exit (0 : Nat), St.mk [(7, (vB ok)), (6, .ptr 6 0 0), (5, .ptr 22000 0 0), (2, .ptr 2 0 0)] [(22001, Blk.mk false 9 1 (List.map eStr z.fst)), (22000, Blk.mk true 0 0
  [[.own 22001, (vI (↑(z.snd.fst + F.one (F.ruri z.fst z.snd.snd z.snd.fst)) : Int)), (vB z.snd.snd)]]), (891, Blk.mk false 48 5 (List.map eSnd so)), (890, Blk.mk false 52 7
  (List.map eStrm st)), (6, Blk.mk true 0 0 [[.own 890, .own 891]]), (2, Blk.mk true 0 0 [[AV.e0, AV.e0]])]) else bif F.isSnd z_1 then bif Nat.ble ((List.length (List.map
  eSnd so) + (1 : Nat)) * (72 : Nat)) (140737488355328 : Nat) && true then bif (↑(z.snd.fst + F.one (F.ruri z.fst z.snd.snd z.snd.fst)) : Int) == (↑(List.length (List.map
  eStr z.fst)) : Int) then Option.bind (unenc encRMs [AV.agg [AV.sl (List.map eStrm st), AV.sl (List.map eSnd so ++ [[(vS (F.sndR z_1).group), (vS (F.sndR z_1).name), (vS
  (F.sndR z_1).lang), (vB (F.sndR z_1).dflt), (vS (bif F.ruri z.fst z.snd.snd z.snd.fst then F.lAt z.fst z.snd.fst else ByteArray.mk (Array.mk [])))]])]]) fun (z : Mas) =>
  some (Ex.ret, St.mk [(4, (vI (F.chkM z))), (3, (vI (0 : Int))), (2, .ptr 2 0 0)] [(2, Blk.mk true 0 0 [[AV.sl (List.map eStrm (F.okM z).streams), AV.sl (List.map eSnd
  (F.okM z).sounds)]])]) else some (Ex.normal, St.mk [(7, (vB ok)), (6, .ptr 6 0 0), (5, .ptr 22000 0 0), (2, .ptr 2 0 0)] [(22001, Blk.mk false 9 1 (List.map eStr z.fst)),
  (22000, Blk.mk true 0 0 [[.own 22001, (vI (↑(z.snd.fst + F.one (F.ruri z.fst z.snd.snd z.snd.fst)) : Int)), (vB z.snd.snd)]]), (891, Blk.mk false 48 5 (List.map eSnd so ++
  [[(vS (F.sndR z_1).group), (vS (F.sndR z_1).name), (vS (F.sndR z_1).lang), (vB (F.sndR z_1).dflt), (vS (bif F.ruri z.fst z.snd.snd z.snd.fst then F.lAt z.fst z.snd.fst
  else ByteArray.mk (Array.mk [])))]])), (890, Blk.mk false 52 7 (List.map eStrm st)), (6, Blk.mk true 0 0 [[.own 890, .own 891]]), (2, Blk.mk true 0 0 [[AV.e0, AV.e0]])])
  else none else bif Nat.ble ((List.length (List.map eStrm st) + (1 : Nat)) * (80 : Nat)) (140737488355328 : Nat) && true then bif (↑(z.snd.fst + F.one (F.ruri z.fst
  z.snd.snd z.snd.fst)) : Int) == (↑(List.length (List.map eStr z.fst)) : Int) then Option.bind (unenc encRMs [AV.agg [AV.sl (List.map eStrm st ++ [[(vS (F.strR z_2).name),
  (vS (bif F.ruri z.fst z.snd.snd z.snd.fst then F.lAt z.fst z.snd.fst else ByteArray.mk (Array.mk []))), (vI (F.strR z_2).mean), (vI (F.strR z_2).peak), (vI (F.strR
  z_2).width), (vI (F.strR z_2).height), (vS (F.strR z_2).sound)]]), AV.sl (List.map eSnd so)]]) fun (z : Mas) => some (Ex.ret, St.mk [(4, (vI (F.chkM z))), (3, (vI (0 :
  Int))), (2, .ptr 2 0 0)] [(2, Blk.mk true 0 0 [[AV.sl (List.map eStrm (F.okM z).streams), AV.sl (List.map eSnd (F.okM z).sounds)]])]) else some (Ex.normal, St.mk [(7, (vB
  ok)), (6, .ptr 6 0 0), (5, .ptr 22000 0 0), (2, .ptr 2 0 0)] [(22001, Blk.mk false 9 1 (List.map eStr z.fst)), (22000, Blk.mk true 0 0 [[.own 22001, (vI (↑(z.snd.fst +
  F.one (F.ruri z.fst z.snd.snd z.snd.fst)) : Int)), (vB z.snd.snd)]]), (891, Blk.mk false 48 5 (List.map eSnd so)), (890, Blk.mk false 52 7 (List.map eStrm st ++ [[(vS
  (F.strR z_2).name), (vS (bif F.ruri z.fst z.snd.snd z.snd.fst then F.lAt z.fst z.snd.fst else ByteArray.mk (Array.mk []))), (vI (F.strR z_2).mean), (vI (F.strR z_2).peak),
  (vI (F.strR z_2).width), (vI (F.strR z_2).height), (vS (F.strR z_2).sound)]])), (6, Blk.mk true 0 0 [[.own 890, .own 891]]), (2, Blk.mk true 0 0 [[AV.e0, AV.e0]])]) else
  none else none else none else none else none else some (Ex.exit (0 : Nat), St.mk [(7, (vB ok)), (6, .ptr 6 0 0), (5, .ptr 22000 0 0), (2, .ptr 2 0 0)] [(22001, Blk.mk
  false 9 1 (List.map eStr ls)), (22000, Blk.mk true 0 0 [[.own 22001, (vI (↑a : Int)), (vB op)]]), (891, Blk.mk false 48 5 (List.map eSnd so)), (890, Blk.mk false 52 7
  (List.map eStrm st)), (6, Blk.mk true 0 0 [[.own 890, .own 891]]), (2, Blk.mk true 0 0 [[AV.e0, AV.e0]])]) else none else some (Ex.exit (0 : Nat), St.mk [(7, (vB ok)), (6,
  .ptr 6 0 0), (5, .ptr 22000 0 0), (2, .ptr 2 0 0)] [(22001, Blk.mk false 9 1 (List.map eStr ls)), (22000, Blk.mk true 0 0 [[.own 22001, (vI (↑a : Int)), (vB op)]]), (891,
  Blk.mk false 48 5 (List.map eSnd so)), (890, Blk.mk false 52 7 (List.map eStrm st)), (6, Blk.mk true 0 0 [[.own 890, .own 891]]), (2, Blk.mk true 0 0 [[AV.e0, AV.e0]])]) := (execR_bind _ _ _).symm.trans (by kernel_rfl)

end M
end Go.Proofs.YtipngpndgniagaaGreatDoor
