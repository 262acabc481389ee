/- What is proved here: what the checks of sounds, streams and lists of all renditions return on plain data, of the program and of the reference (no statement of the seat). -/
import Derived.Test.YtipngpndgniagaaDoorE32
namespace Go.Proofs.YtipngpndgniagaaDoor
open Go Go.RowKit
set_option linter.unusedVariables false
set_option linter.unusedSimpArgs false

def F.sndsF (l : List Snd) : Int := M.ffI (fun p : Snd × Nat => F.sndF p.1 (l.take p.2)) l.zipIdx

def F.strmsF (l : List Strm) (m : List Snd) : Int := M.ffI (fun p : Strm × Nat => F.strmF p.1 (l.take p.2) m) l.zipIdx

/-- The fault of a list of all renditions. -/
def F.chkM (m : Mas) : Int := bif decide (50 < m.streams.length) || decide (50 < m.sounds.length) then 2 else bif F.sndsF m.sounds != 0 then F.sndsF m.sounds else F.strmsF m.streams m.sounds

theorem F.zipIdx_at {α : Type} {l : List α} {k : Nat} {y : α × Nat} (h : l.zipIdx[k]? = some y) : l[k]? = some y.1 ∧ y.2 = k := by
  rw [List.getElem?_zipIdx] at h
  cases hl : l[k]? with
  | none => rw [hl] at h; cases h
  | some x =>
    rw [hl] at h
    simp only [Option.map_some, Option.some.injEq] at h
    subst h
    simp

theorem F.uri01 (s : ByteArray) : (bif decide (F.uriFault s = 0) then (0 : Int) else 3) = F.uriFault s := by
  unfold F.uriFault
  split <;> rfl

namespace M


def stChM1 (m : Mas) (k : Nat) : St := ⟨[(22, vI k), (21, vI m.sounds.length), (20, .sl (m.sounds.map eSnd)), (1, .ptr 1 0 0)], [(1, ⟨true, 0, 0, [eMas m]⟩)]⟩

def stChM11 (a : Mas × Nat) : St := stChM1 a.1 a.2

theorem stChM1_inj (a a' : Mas × Nat) (h : stChM11 a = stChM11 a') : a = a' := by
  simp only [stChM11, stChM1] at h
  try simp [strs_inj, ents_inj, eEnt_iff, eLst_iff, eSnds_inj, eSnd_iff, eStrms_inj, eStrm_iff, eMas_iff] at h
  grind

theorem unstChM1 (m : Mas) (k : Nat) : unenc stChM11 (St.mk [(22, (vI (↑k : Int))), (21, (vI (↑(List.length m.sounds) : Int))), (20, AV.sl (List.map eSnd m.sounds)), (1, .ptr 1 0 0)] [(1, Blk.mk true 0 0 [[AV.sl (List.map
  eStrm m.streams), AV.sl (List.map eSnd m.sounds)]])]) = some (m, k) := unenc_of stChM1_inj (m, k) rfl

theorem unstChM10 (m : Mas)  : unenc stChM11 (St.mk [(22, (vI (0 : Int))), (21, (vI (↑(List.length m.sounds) : Int))), (20, AV.sl (List.map eSnd m.sounds)), (1, .ptr 1 0 0)] [(1, Blk.mk true 0 0 [[AV.sl (List.map
  eStrm m.streams), AV.sl (List.map eSnd m.sounds)]])]) = some (m, 0) := unenc_of stChM1_inj (m, 0) rfl

def outChM1 (m : Mas) (k : Nat) : T (Ex × St) := .ifB (decide (M.ffI (fun p : Snd × Nat => F.sndF p.1 (m.sounds.take p.2)) (m.sounds.zipIdx.drop k) = 0)) (.ret (.exit 0, ⟨[(1, .ptr 1 0 0)], [(1, ⟨true, 0, 0, [eMas m]⟩)]⟩)) (.ret (.ret, ⟨[(2, vI (M.ffI (fun p : Snd × Nat => F.sndF p.1 (m.sounds.take p.2)) (m.sounds.zipIdx.drop k)))], []⟩))

noncomputable def prlChM1 (m : Mas) (k : Nat) : Bool := decide (m.sounds.length ≤ 9223372036854775807) && decide (k ≤ m.sounds.length)

noncomputable def lpChM1 : Nat × (St → T (Ex × St)) := (4, lpo [22, 21, 20, 1] [1] stChM11 (fun a => prlChM1 a.1 a.2) fun a => outChM1 a.1 a.2)

def stChM2 (m : Mas) (k : Nat) : St := ⟨[(40, vI k), (39, vI m.streams.length), (38, .sl (m.streams.map eStrm)), (1, .ptr 1 0 0)], [(1, ⟨true, 0, 0, [eMas m]⟩)]⟩

def stChM21 (a : Mas × Nat) : St := stChM2 a.1 a.2

theorem stChM2_inj (a a' : Mas × Nat) (h : stChM21 a = stChM21 a') : a = a' := by
  simp only [stChM21, stChM2] at h
  try simp [strs_inj, ents_inj, eEnt_iff, eLst_iff, eSnds_inj, eSnd_iff, eStrms_inj, eStrm_iff, eMas_iff] at h
  grind

theorem unstChM2 (m : Mas) (k : Nat) : unenc stChM21 (St.mk [(40, (vI (↑k : Int))), (39, (vI (↑(List.length m.streams) : Int))), (38, AV.sl (List.map eStrm m.streams)), (1, .ptr 1 0 0)] [(1, Blk.mk true 0 0 [[AV.sl (List.map
  eStrm m.streams), AV.sl (List.map eSnd m.sounds)]])]) = some (m, k) := unenc_of stChM2_inj (m, k) rfl

theorem unstChM20 (m : Mas)  : unenc stChM21 (St.mk [(40, (vI (0 : Int))), (39, (vI (↑(List.length m.streams) : Int))), (38, AV.sl (List.map eStrm m.streams)), (1, .ptr 1 0 0)] [(1, Blk.mk true 0 0 [[AV.sl (List.map
  eStrm m.streams), AV.sl (List.map eSnd m.sounds)]])]) = some (m, 0) := unenc_of stChM2_inj (m, 0) rfl

def outChM2 (m : Mas) (k : Nat) : T (Ex × St) := .ifB (decide (M.ffI (fun p : Strm × Nat => F.strmF p.1 (m.streams.take p.2) m.sounds) (m.streams.zipIdx.drop k) = 0)) (.ret (.exit 2, ⟨[], []⟩)) (.ret (.ret, ⟨[(2, vI (M.ffI (fun p : Strm × Nat => F.strmF p.1 (m.streams.take p.2) m.sounds) (m.streams.zipIdx.drop k)))], []⟩))

noncomputable def prlChM2 (m : Mas) (k : Nat) : Bool := decide (m.streams.length ≤ 9223372036854775807) && decide (k ≤ m.streams.length)

noncomputable def lpChM2 : Nat × (St → T (Ex × St)) := (11, lpo [40, 39, 38, 1] [1] stChM21 (fun a => prlChM2 a.1 a.2) fun a => outChM2 a.1 a.2)

noncomputable def enChM : Env := envH ty noG lksS [oSnF, oStF] [] [] [lpChM1, lpChM2]

theorem enChM_ok : EnvOK Tryd.prog enChM := by
  refine envH_ok lksS_ok ty_ok ?_ ?_
  · simp only [List.forall_mem_cons]
    exact ⟨okSnF, okStF, by simp⟩
  · simp

theorem evChM1L (m : Mas) (k : Nat) : ((exec enChM (loopN Tryd.f15 0) (stChM1 m k)).bind (lessX ([22, 21, 20, 1], [1]) ([1], [1]) ([2], []))).val =
  bif decide ((↑k : Int) < (↑(List.length m.sounds) : Int)) then Option.bind (unenc (List.map eSnd) (List.map eSnd m.sounds)) fun (z : List Snd) => bif decide (k <
  List.length z) then bif Nat.ble (0 : Nat) k && Nat.ble k (List.length (List.map eSnd m.sounds)) && List.all (List.map eSnd m.sounds) fun (r : Row) => Nat.beq (List.length
  r) (5 : Nat) then Option.bind (unenc encSnF [AV.agg [(vS (List.getD z k (Snd.mk (ByteArray.mk (Array.mk [])) (ByteArray.mk (Array.mk [])) (ByteArray.mk (Array.mk []))
  false (ByteArray.mk (Array.mk [])))).group), (vS (List.getD z k (Snd.mk (ByteArray.mk (Array.mk [])) (ByteArray.mk (Array.mk [])) (ByteArray.mk (Array.mk [])) false
  (ByteArray.mk (Array.mk [])))).name), (vS (List.getD z k (Snd.mk (ByteArray.mk (Array.mk [])) (ByteArray.mk (Array.mk [])) (ByteArray.mk (Array.mk [])) false (ByteArray.mk
  (Array.mk [])))).lang), (vB (List.getD z k (Snd.mk (ByteArray.mk (Array.mk [])) (ByteArray.mk (Array.mk [])) (ByteArray.mk (Array.mk [])) false (ByteArray.mk (Array.mk
  [])))).dflt), (vS (List.getD z k (Snd.mk (ByteArray.mk (Array.mk [])) (ByteArray.mk (Array.mk [])) (ByteArray.mk (Array.mk [])) false (ByteArray.mk (Array.mk [])))).uri)],
  AV.sl (List.take k (List.map eSnd m.sounds))]) fun (z : Snd × List Snd) => bif F.sndF z.fst z.snd != (0 : Int) then some (Ex.ret, St.mk [(2, (vI (F.sndF z.fst z.snd)))]
  []) else some (Ex.normal, St.mk [(22, (vI (IntKind.wrap IntKind.i64 ((↑k : Int) + (1 : Int))))), (21, (vI (↑(List.length m.sounds) : Int))), (20, AV.sl (List.map eSnd
  m.sounds)), (1, .ptr 1 0 0)] [(1, Blk.mk true 0 0 [[AV.sl (List.map eStrm m.streams), AV.sl (List.map eSnd m.sounds)]])]) else none else none else some (Ex.exit (0 : Nat),
  St.mk [(1, .ptr 1 0 0)] [(1, Blk.mk true 0 0 [[AV.sl (List.map eStrm m.streams), AV.sl (List.map eSnd m.sounds)]])]) := by kernel_rfl

theorem lpChM1_ok (m : Mas) (k : Nat) (hp : prlChM1 m k = true) : ∀ ex s', (outChM1 m k).val = some (ex, s') → LoopOK enChM (loopN Tryd.f15 0) (stChM1 m k) ex s' := by
  simp only [prlChM1, Bool.and_eq_true, decide_eq_true_eq] at hp
  refine loop_code (xs := m.sounds.zipIdx) (st := stChM1 m) (g := fun p : Snd × Nat => F.sndF p.1 (m.sounds.take p.2)) (o := fun c => (.ret, ⟨[(2, vI c)], []⟩)) (n := ([22, 21, 20, 1], [1])) (e := ([1], [1])) (r := ([2], [])) ?_ ⟨by simp, rfl⟩ (fun _ => ⟨by simp, rfl⟩) (fun _ => rfl) ?_ k (by simp; exact hp.2)
  · rw [evChM1L]; simp [eMas]
  · intro k y hy
    obtain ⟨ha, hk⟩ := F.zipIdx_at hy
    have hlt := lt_at ha
    rw [evChM1L]
    simp only [unSnF, unStF, unSnFw, unStFw, preSnF1, preStF1, unstChM1, unstChM2, unstChM10, unstChM20, prlChM1, prlChM2, outChM1, outChM2, etaEnt, etaLst, etaSnd, etaStrm, etaMas, Option.bind_some, List.length_map, unStrs, unInts, unBools, unEnts, unItms, unTrns, cond_true, cond_false, Bool.and_true, Bool.true_and, unSnds, unStrms, cast_lt hlt, decide_eq_true hlt, next_at hlt hp.1, getD_at ha, stChM1, idx, ble_t (Nat.zero_le k), ble_t (Nat.le_of_lt hlt), all_Snds, Bool.and_self, ← List.map_take, hk, eMas]
    by_cases h : F.sndF y.1 (m.sounds.take k) = 0
    · rw [h]; rfl
    · have hb : (F.sndF y.1 (m.sounds.take k) != 0) = true := by simp [h]
      simp only [hb, cond_true, h, if_false]

theorem evChM2L (m : Mas) (k : Nat) : ((exec enChM (loopN Tryd.f15 1) (stChM2 m k)).bind (lessX ([40, 39, 38, 1], [1]) ([], []) ([2], []))).val =
  bif decide ((↑k : Int) < (↑(List.length m.streams) : Int)) then Option.bind (unenc (List.map eStrm) (List.map eStrm m.streams)) fun (z : List Strm) => bif decide (k <
  List.length z) then bif Nat.ble (0 : Nat) k && Nat.ble k (List.length (List.map eStrm m.streams)) && List.all (List.map eStrm m.streams) fun (r : Row) => Nat.beq
  (List.length r) (7 : Nat) then Option.bind (unenc encStF [AV.agg [(vS (List.getD z k (Strm.mk (ByteArray.mk (Array.mk [])) (ByteArray.mk (Array.mk [])) (0 : Int) (0 : Int)
  (0 : Int) (0 : Int) (ByteArray.mk (Array.mk [])))).name), (vS (List.getD z k (Strm.mk (ByteArray.mk (Array.mk [])) (ByteArray.mk (Array.mk [])) (0 : Int) (0 : Int) (0 :
  Int) (0 : Int) (ByteArray.mk (Array.mk [])))).uri), (vI (List.getD z k (Strm.mk (ByteArray.mk (Array.mk [])) (ByteArray.mk (Array.mk [])) (0 : Int) (0 : Int) (0 : Int) (0
  : Int) (ByteArray.mk (Array.mk [])))).mean), (vI (List.getD z k (Strm.mk (ByteArray.mk (Array.mk [])) (ByteArray.mk (Array.mk [])) (0 : Int) (0 : Int) (0 : Int) (0 : Int)
  (ByteArray.mk (Array.mk [])))).peak), (vI (List.getD z k (Strm.mk (ByteArray.mk (Array.mk [])) (ByteArray.mk (Array.mk [])) (0 : Int) (0 : Int) (0 : Int) (0 : Int)
  (ByteArray.mk (Array.mk [])))).width), (vI (List.getD z k (Strm.mk (ByteArray.mk (Array.mk [])) (ByteArray.mk (Array.mk [])) (0 : Int) (0 : Int) (0 : Int) (0 : Int)
  (ByteArray.mk (Array.mk [])))).height), (vS (List.getD z k (Strm.mk (ByteArray.mk (Array.mk [])) (ByteArray.mk (Array.mk [])) (0 : Int) (0 : Int) (0 : Int) (0 : Int)
  (ByteArray.mk (Array.mk [])))).sound)], AV.sl (List.take k (List.map eStrm m.streams)), AV.sl (List.map eSnd m.sounds)]) fun (z : Strm × List Strm × List Snd) => bif
  F.strmF z.fst z.snd.fst z.snd.snd != (0 : Int) then some (Ex.ret, St.mk [(2, (vI (F.strmF z.fst z.snd.fst z.snd.snd)))] []) else some (Ex.normal, St.mk [(40, (vI
  (IntKind.wrap IntKind.i64 ((↑k : Int) + (1 : Int))))), (39, (vI (↑(List.length m.streams) : Int))), (38, AV.sl (List.map eStrm m.streams)), (1, .ptr 1 0 0)] [(1, Blk.mk
  true 0 0 [[AV.sl (List.map eStrm m.streams), AV.sl (List.map eSnd m.sounds)]])]) else none else none else some (Ex.exit (2 : Nat), St.mk [] []) := by kernel_rfl

theorem lpChM2_ok (m : Mas) (k : Nat) (hp : prlChM2 m k = true) : ∀ ex s', (outChM2 m k).val = some (ex, s') → LoopOK enChM (loopN Tryd.f15 1) (stChM2 m k) ex s' := by
  simp only [prlChM2, Bool.and_eq_true, decide_eq_true_eq] at hp
  refine loop_code (xs := m.streams.zipIdx) (st := stChM2 m) (g := fun p : Strm × Nat => F.strmF p.1 (m.streams.take p.2) m.sounds) (o := fun c => (.ret, ⟨[(2, vI c)], []⟩)) (n := ([40, 39, 38, 1], [1])) (e := ([], [])) (r := ([2], [])) ?_ ⟨by simp, rfl⟩ (fun _ => ⟨by simp, rfl⟩) (fun _ => rfl) ?_ k (by simp; exact hp.2)
  · rw [evChM2L]; simp
  · intro k y hy
    obtain ⟨ha, hk⟩ := F.zipIdx_at hy
    have hlt := lt_at ha
    rw [evChM2L]
    simp only [unSnF, unStF, unSnFw, unStFw, preSnF1, preStF1, unstChM1, unstChM2, unstChM10, unstChM20, prlChM1, prlChM2, outChM1, outChM2, etaEnt, etaLst, etaSnd, etaStrm, etaMas, Option.bind_some, List.length_map, unStrs, unInts, unBools, unEnts, unItms, unTrns, cond_true, cond_false, Bool.and_true, Bool.true_and, unSnds, unStrms, cast_lt hlt, decide_eq_true hlt, next_at hlt hp.1, getD_at ha, stChM2, idx, ble_t (Nat.zero_le k), ble_t (Nat.le_of_lt hlt), all_Strms, Bool.and_self, ← List.map_take, hk, eMas]
    by_cases h : F.strmF y.1 (m.streams.take k) m.sounds = 0
    · rw [h]; rfl
    · have hb : (F.strmF y.1 (m.streams.take k) m.sounds != 0) = true := by simp [h]
      simp only [hb, cond_true, h, if_false]

theorem mas_len {m : Mas} (h : OkA (.agg (eMas m))) : m.streams.length ≤ 9223372036854775807 ∧ m.sounds.length ≤ 9223372036854775807 := by
  have h := okA_agg h
  simp only [eMas, List.forall_mem_cons] at h
  exact ⟨by simpa using (okA_sl h.1).1, by simpa using (okA_sl h.2.1).1⟩

theorem cast_gt (n : Nat) : decide ((50 : Int) < (n : Int)) = decide (50 < n) := by
  by_cases h : 50 < n
  · rw [decide_eq_true h, decide_eq_true (by omega)]
  · rw [decide_eq_false h, decide_eq_false (by omega)]

theorem evChM (m : Mas) : (runF enChM false Tryd.f15 [.agg (eMas m)]).val =
  bif bif decide ((50 : Int) < (↑(List.length (List.map eStrm m.streams)) : Int)) then true else decide ((50 : Int) < (↑(List.length (List.map eSnd m.sounds)) : Int)) then
  some ((vI (2 : Int)), []) else Option.bind (unenc stChM11 (St.mk [(22, (vI (0 : Int))), (21, (vI (↑(List.length (List.map eSnd m.sounds)) : Int))), (20, AV.sl (List.map
  eSnd m.sounds)), (1, .ptr 1 0 0)] [(1, Blk.mk true 0 0 [[AV.sl (List.map eStrm m.streams), AV.sl (List.map eSnd m.sounds)]])])) fun (z : Mas × Nat) => bif decide
  (List.length z.fst.sounds ≤ (9223372036854775807 : Nat)) && decide (z.snd ≤ List.length z.fst.sounds) && true then bif decide (ffI (fun (p : Snd × Nat) => F.sndF p.fst
  (List.take p.snd z.fst.sounds)) (List.drop z.snd (List.zipIdx z.fst.sounds)) = (0 : Int)) then Option.bind (unenc stChM21 (St.mk [(40, (vI (0 : Int))), (39, (vI
  (↑(List.length (List.map eStrm z.fst.streams)) : Int))), (38, AV.sl (List.map eStrm z.fst.streams)), (1, .ptr 1 0 0)] [(1, Blk.mk true 0 0 [[AV.sl (List.map eStrm
  z.fst.streams), AV.sl (List.map eSnd z.fst.sounds)]])])) fun (z : Mas × Nat) => bif decide (List.length z.fst.streams ≤ (9223372036854775807 : Nat)) && decide (z.snd ≤
  List.length z.fst.streams) && true then bif decide (ffI (fun (p : Strm × Nat) => F.strmF p.fst (List.take p.snd z.fst.streams) z.fst.sounds) (List.drop z.snd (List.zipIdx
  z.fst.streams)) = (0 : Int)) then some ((vI (0 : Int)), []) else some ((vI (ffI (fun (p : Strm × Nat) => F.strmF p.fst (List.take p.snd z.fst.streams) z.fst.sounds)
  (List.drop z.snd (List.zipIdx z.fst.streams)))), []) else none else some ((vI (ffI (fun (p : Snd × Nat) => F.sndF p.fst (List.take p.snd z.fst.sounds)) (List.drop z.snd
  (List.zipIdx z.fst.sounds)))), []) else none := by kernel_rfl

def encChM1 (m : Mas) : List AV := [.agg (eMas m)]

def encChM (a : Mas) : List AV := encChM1 a

theorem encChM_inj (a a' : Mas) (h : encChM a = encChM a') : a = a' := by
  simp only [encChM, encChM1] at h
  try simp [strs_inj, ents_inj, eEnt_iff, eLst_iff, eSnds_inj, eSnd_iff, eStrms_inj, eStrm_iff, eMas_iff] at h
  grind

theorem unChM (m : Mas) : unenc encChM ([AV.agg [AV.sl (List.map eStrm m.streams), AV.sl (List.map eSnd m.sounds)]]) = some (m) := unenc_of encChM_inj (m) rfl

theorem unChMw (m_streams : List Strm) (m_sounds : List Snd) : unenc encChM ([AV.agg [AV.sl (List.map eStrm m_streams), AV.sl (List.map eSnd m_sounds)]]) = some ((Mas.mk m_streams m_sounds)) := unenc_of encChM_inj ((Mas.mk m_streams m_sounds)) rfl

def resChM1 (m : Mas) : AV × Heap := (vI (F.chkM m), [])

def preChM1 (m : Mas) : Bool := true

noncomputable def oChM : Orc := orc 15 true encChM (fun a => preChM1 a) fun a => resChM1 a

theorem okChM : OrcOK Tryd.prog noG oChM := by
  refine mk_ok Tryd.f15 (keep := false) (by kernel_rfl) (by kernel_rfl) enChM_ok mixed (two_loops (x0 := loopN Tryd.f15 0) (x1 := loopN Tryd.f15 1) (by kernel_rfl) (lpo_ok ?_) (lpo_ok ?_)) (by first | exact fun _ _ => ⟨rfl, rfl⟩ | (intro h; cases h)) ?_
  · rintro ⟨m, k⟩ hp
    exact lpChM1_ok m k hp
  · rintro ⟨m, k⟩ hp
    exact lpChM2_ok m k hp
  rintro m hpre hok
  show (runF enChM false _ (encChM1 _)).val = some (resChM1 _)
  unfold encChM1 resChM1
  rw [evChM]
  obtain ⟨h1, h2⟩ := mas_len (hok _ (List.mem_cons_self ..))
  simp only [unSnF, unStF, unSnFw, unStFw, preSnF1, preStF1, unstChM1, unstChM2, unstChM10, unstChM20, prlChM1, prlChM2, outChM1, outChM2, etaEnt, etaLst, etaSnd, etaStrm, etaMas, Option.bind_some, List.length_map, unStrs, unInts, unBools, unEnts, unItms, unTrns, cond_true, cond_false, Bool.and_true, Bool.true_and, unSnds, unStrms, h1, h2, List.drop_zero, Nat.zero_le, decide_true, F.chkM, F.sndsF, F.strmsF, cast_gt]
  cases decide (50 < m.streams.length)
  · cases decide (50 < m.sounds.length)
    · generalize M.ffI _ m.sounds.zipIdx = a
      generalize M.ffI _ m.streams.zipIdx = b
      by_cases ha : a = 0
      · simp only [ha, decide_true, cond_true, cond_false, bne_self_eq_false, Bool.or_self]
        by_cases hb : b = 0
        · simp only [hb, decide_true, cond_true]
        · simp only [hb, decide_false, cond_false]
      · have hb : (a != 0) = true := by simp [ha]
        simp only [ha, hb, decide_false, cond_true, cond_false, Bool.or_self]
    · rfl
  · rfl

end M
end Go.Proofs.YtipngpndgniagaaDoor
