/- What is proved here: what list.ReadMaster returns (no statement of the seat). -/
import Derived.Test.YtipngpndgniagaaDoorE54
namespace Go.Proofs.YtipngpndgniagaaDoor
open Go Go.RowKit
set_option linter.unusedVariables false
set_option linter.unusedSimpArgs false

theorem F.rdS_end {s : ByteArray} (h : s.size = 0) (n : Int) (m : Mas) : F.rdS s n m = (true, n, m) := by rw [F.rdS, dif_pos h]

theorem F.rdS_go {s : ByteArray} (h : s.size ≠ 0) {m : Mas} (ho : F.ptOk s m = true) (n : Int) : F.rdS s n m = F.rdS (F.ptR s m) (n + (F.ptN s m : Int)) (F.ptM s m) := by rw [F.rdS, dif_neg h, if_pos ho]

theorem F.rdS_bad {s : ByteArray} (h : s.size ≠ 0) {m : Mas} (ho : F.ptOk s m = false) (n : Int) : F.rdS s n m = (false, n + (F.ptN s m : Int), m) := by rw [F.rdS, dif_neg h, if_neg (by rw [ho]; decide)]

theorem F.pt_dec {s : ByteArray} (h : s.size ≠ 0) {m : Mas} (ho : F.ptOk s m = true) : (F.ptR s m).size + 2 ≤ s.size ∧ F.ptN s m = 2 := by
  unfold F.ptOk F.ptU F.uriL at ho
  simp only [Bool.and_eq_true, decide_eq_true_eq] at ho
  obtain ⟨h1, _, h2, _⟩ := ho
  have z1 := F.cutH_size (F.cutT s F.nl) F.nl
  have z2 := F.cutT_lt (p := F.nl) (by decide) h
  have z3 := F.cutT_lt (s := F.cutT s F.nl) (p := F.nl) (by decide) (by omega)
  unfold F.ptR F.ptN
  rw [decide_eq_false h1]
  exact ⟨by rw [cond_false]; omega, rfl⟩

theorem F.pt_len (s : ByteArray) (m : Mas) : (F.ptSt s m).length + (F.ptSo s m).length ≤ m.streams.length + m.sounds.length + 1 := by
  unfold F.ptSt F.ptSo
  cases F.ptOk s m
  · simp only [Bool.false_and, cond_false]; omega
  · by_cases h1 : F.ptK s m = 1
    · simp [h1]; try omega
    · by_cases h2 : F.ptK s m = 2
      · simp [h2]; try omega
      · simp [h1, h2]; try omega

theorem F.ptN_le (s : ByteArray) (m : Mas) : 1 ≤ F.ptN s m ∧ F.ptN s m ≤ 2 := by
  unfold F.ptN
  cases decide (F.ptK s m = 0) <;> simp

namespace M


def stRd (s : ByteArray) (n : Int) : St := ⟨[(6, .ptr 6 0 0), (5, .ptr 16 0 0), (2, .ptr 2 0 0)], [(16, ⟨true, 0, 0, [[vS s, vI n]]⟩), (6, ⟨true, 0, 0, [[.e0, .e0]]⟩), (2, ⟨true, 0, 0, [[.e0, .e0]]⟩)]⟩

def stRd1 (a : ByteArray × Int) : St := stRd a.1 a.2

theorem stRd_inj (a a' : ByteArray × Int) (h : stRd1 a = stRd1 a') : a = a' := by
  simp only [stRd1, stRd] at h
  try simp [strs_inj, ents_inj, eEnt_iff, eLst_iff, eSnds_inj, eStrms_inj] at h
  grind

theorem unstRd (s : ByteArray) (n : Int) : unenc stRd1 (St.mk [(6, .ptr 6 0 0), (5, .ptr 16 0 0), (2, .ptr 2 0 0)] [(16, Blk.mk true 0 0 [[(vS s), (vI n)]]), (6, Blk.mk true 0 0 [[AV.e0, AV.e0]]), (2, Blk.mk true 0 0 [[AV.e0,
  AV.e0]])]) = some (s, n) := unenc_of stRd_inj (s, n) rfl

def outRd (s : ByteArray) (n : Int) : T (Ex × St) := .ifB (F.rdS s n F.noMas).1
      (.ret (.exit 0, ⟨[(6, .ptr 6 0 0), (2, .ptr 2 0 0)], [(891, ⟨false, 47, 5, (F.rdS s n F.noMas).2.2.sounds.map eSnd⟩), (890, ⟨false, 49, 7, (F.rdS s n F.noMas).2.2.streams.map eStrm⟩), (6, ⟨true, 0, 0, [[.own 890, .own 891]]⟩), (2, ⟨true, 0, 0, [[.e0, .e0]]⟩)]⟩))
      (.ret (.ret, ⟨[(4, vI 10), (3, vI (F.rdS s n F.noMas).2.1), (2, .ptr 2 0 0)], [(2, ⟨true, 0, 0, [[.e0, .e0]]⟩)]⟩))

noncomputable def prlRd (s : ByteArray) (n : Int) : Bool := decide (0 ≤ n) && decide (n ≤ 1) && decide (s.size ≤ 500000)

noncomputable def lpRd : Nat × (St → T (Ex × St)) := (8, lpo [6, 5, 2] [16, 6, 2] stRd1 (fun a => prlRd a.1 a.2) fun a => outRd a.1 a.2)

noncomputable def enRd : Env := envH ty noG lks [oMor, oChM] [oTk, oPrt] [] [lpRd]

theorem enRd_ok : EnvOK Tryd.prog enRd := by
  refine envH_ok lks_ok ty_ok ?_ ?_
  · simp only [List.forall_mem_cons]
    exact ⟨okMor, okChM, by simp⟩
  · simp only [List.forall_mem_cons]
    exact ⟨okTk, okPrt, by simp⟩

def stRo (s : ByteArray) (n : Int) (st : List Strm) (so : List Snd) : St := ⟨[(6, .ptr 6 0 0), (5, .ptr 16 0 0), (2, .ptr 2 0 0)], [(891, ⟨false, 47, 5, so.map eSnd⟩), (890, ⟨false, 49, 7, st.map eStrm⟩), (16, ⟨true, 0, 0, [[vS s, vI n]]⟩), (6, ⟨true, 0, 0, [[.own 890, .own 891]]⟩), (2, ⟨true, 0, 0, [[.e0, .e0]]⟩)]⟩

theorem evRo (s : ByteArray) (n : Int) (st : List Strm) (so : List Snd) : ((exec enRd (loopN Tryd.f7 0) (stRo s n st so)).bind (lessX ([6, 5, 2], [891, 890, 16, 6, 2]) ([6, 2], [891, 890, 6, 2]) ([4, 3, 2], [2]))).val =
  Option.bind (unenc encMor [AV.pel [(vS s), (vI n)] (0 : Nat)]) fun (z : ByteArray × Int) => bif decide (ByteArray.size z.fst ≠ (0 : Nat)) then Option.bind (unenc encPrt
  ([.ptr 900 0 0, .ptr 901 0 0], [(903, Blk.mk false 47 5 (List.map eSnd so)), (902, Blk.mk false 49 7 (List.map eStrm st)), (901, Blk.mk true 0 0 [[.own 902, .own 903]]),
  (900, Blk.mk true 0 0 [[(vS s), (vI n)]])])) fun (z : ByteArray × Int × List Strm × List Snd) => bif decide (ByteArray.size z.fst ≤ (500000 : Nat)) && decide ((0 : Int) ≤
  z.snd.fst) && decide (z.snd.fst ≤ (900000 : Int)) && decide (List.length z.snd.snd.fst ≤ (500000 : Nat)) && decide (List.length z.snd.snd.snd ≤ (500000 : Nat)) then bif
  !F.ptOk z.fst (Mas.mk z.snd.snd.fst z.snd.snd.snd) then some (Ex.ret, St.mk [(4, (vI (10 : Int))), (3, (vI (z.snd.fst + (↑(F.ptN z.fst (Mas.mk z.snd.snd.fst
  z.snd.snd.snd)) : Int)))), (2, .ptr 2 0 0)] [(2, Blk.mk true 0 0 [[AV.e0, AV.e0]])]) else some (Ex.normal, St.mk [(6, .ptr 6 0 0), (5, .ptr 16 0 0), (2, .ptr 2 0 0)]
  [(891, Blk.mk false 47 5 (List.map eSnd (F.ptSo z.fst (Mas.mk z.snd.snd.fst z.snd.snd.snd)))), (890, Blk.mk false 49 7 (List.map eStrm (F.ptSt z.fst (Mas.mk z.snd.snd.fst
  z.snd.snd.snd)))), (16, Blk.mk true 0 0 [[(vS (F.ptR z.fst (Mas.mk z.snd.snd.fst z.snd.snd.snd))), (vI (z.snd.fst + (↑(F.ptN z.fst (Mas.mk z.snd.snd.fst z.snd.snd.snd)) :
  Int)))]]), (6, Blk.mk true 0 0 [[.own 890, .own 891]]), (2, Blk.mk true 0 0 [[AV.e0, AV.e0]])]) else none else some (Ex.exit (0 : Nat), St.mk [(6, .ptr 6 0 0), (2, .ptr 2
  0 0)] [(891, Blk.mk false 47 5 (List.map eSnd so)), (890, Blk.mk false 49 7 (List.map eStrm st)), (6, Blk.mk true 0 0 [[.own 890, .own 891]]), (2, Blk.mk true 0 0 [[AV.e0,
  AV.e0]])]) := (execR_bind _ _ _).symm.trans (by kernel_rfl)

def outRo (s : ByteArray) (n : Int) (m : Mas) : T (Ex × St) :=
  .ifB (F.rdS s n m).1
      (.ret (.exit 0, ⟨[(6, .ptr 6 0 0), (2, .ptr 2 0 0)], [(891, ⟨false, 47, 5, (F.rdS s n m).2.2.sounds.map eSnd⟩), (890, ⟨false, 49, 7, (F.rdS s n m).2.2.streams.map eStrm⟩), (6, ⟨true, 0, 0, [[.own 890, .own 891]]⟩), (2, ⟨true, 0, 0, [[.e0, .e0]]⟩)]⟩))
      (.ret (.ret, ⟨[(4, vI 10), (3, vI (F.rdS s n m).2.1), (2, .ptr 2 0 0)], [(2, ⟨true, 0, 0, [[.e0, .e0]]⟩)]⟩))

theorem lpRo_ok (s : ByteArray) (n : Int) (m : Mas) (h1 : 0 ≤ n) (h2 : n + s.size ≤ 600000) (h3 : m.streams.length + m.sounds.length + s.size ≤ 500000) : ∀ ex s', (outRo s n m).val = some (ex, s') → LoopOK enRd (loopN Tryd.f7 0) (stRo s n m.streams m.sounds) ex s' := by
  refine loop_gen (st := fun p : ByteArray × Int × Mas => stRo p.1 p.2.1 p.2.2.streams p.2.2.sounds) (out := fun p => outRo p.1 p.2.1 p.2.2) (I := fun p => 0 ≤ p.2.1 ∧ p.2.1 + p.1.size ≤ 600000 ∧ p.2.2.streams.length + p.2.2.sounds.length + p.1.size ≤ 500000) (n := ([6, 5, 2], [891, 890, 16, 6, 2])) (e := ([6, 2], [891, 890, 6, 2])) (r := ([4, 3, 2], [2])) (fun p => p.1.size) ?_ (s, n, m) ⟨h1, h2, h3⟩
  clear h1 h2 h3
  rintro ⟨s, n, m⟩ ⟨h1, h2, h3⟩
  simp only at h1 h2 h3
  obtain ⟨st, so⟩ := m
  simp only at h3
  have p1 : decide (s.size ≤ 500000) = true := decide_eq_true (by omega)
  have p2 : decide (0 ≤ n) = true := decide_eq_true h1
  have p3 : decide (n ≤ 900000) = true := decide_eq_true (by omega)
  have p4 : decide (st.length ≤ 500000) = true := decide_eq_true (by omega)
  have p5 : decide (so.length ≤ 500000) = true := decide_eq_true (by omega)
  by_cases hz : s.size = 0
  · left
    refine ⟨(.exit 0, ⟨[(6, .ptr 6 0 0), (2, .ptr 2 0 0)], [(891, ⟨false, 47, 5, so.map eSnd⟩), (890, ⟨false, 49, 7, st.map eStrm⟩), (6, ⟨true, 0, 0, [[.own 890, .own 891]]⟩), (2, ⟨true, 0, 0, [[.e0, .e0]]⟩)]⟩), ?_, ?_, by simp, rfl⟩
    · show ((exec enRd (loopN Tryd.f7 0) (stRo s n st so)).bind _).val = _
      rw [evRo]
      simp only [unMor, unChM, unTk, unPrt, unChMw, preMor1, preChM1, preTk1, prePrt1, unstRd, prlRd, outRd, etaEnt, etaLst, etaSnd, etaStrm, etaMas, Option.bind_some, List.length_map, unStrs, unInts, unBools, unEnts, unItms, unTrns, cond_true, cond_false, Bool.and_true, Bool.true_and, decide_eq_false (by omega : ¬ s.size ≠ 0)]
    · simp only [outRo, F.rdS_end hz]
      rfl
  · cases ho : F.ptOk s ⟨st, so⟩
    · left
      refine ⟨(.ret, ⟨[(4, vI 10), (3, vI (n + (F.ptN s ⟨st, so⟩ : Int))), (2, .ptr 2 0 0)], [(2, ⟨true, 0, 0, [[.e0, .e0]]⟩)]⟩), ?_, ?_, by simp, rfl⟩
      · show ((exec enRd (loopN Tryd.f7 0) (stRo s n st so)).bind _).val = _
        rw [evRo]
        simp only [unMor, unChM, unTk, unPrt, unChMw, preMor1, preChM1, preTk1, prePrt1, unstRd, prlRd, outRd, etaEnt, etaLst, etaSnd, etaStrm, etaMas, Option.bind_some, List.length_map, unStrs, unInts, unBools, unEnts, unItms, unTrns, cond_true, cond_false, Bool.and_true, Bool.true_and, decide_eq_true hz, p1, p2, p3, p4, p5, ho]
        rfl
      · simp only [outRo, F.rdS_bad hz ho]
        rfl
    · right
      obtain ⟨k1, k2⟩ := F.pt_dec hz ho
      have k3 := F.pt_len s ⟨st, so⟩
      refine ⟨(F.ptR s ⟨st, so⟩, n + (F.ptN s ⟨st, so⟩ : Int), F.ptM s ⟨st, so⟩), ?_, rfl, ⟨by simp only; omega, by simp only; omega, by simp only [F.ptM] at k3 ⊢; omega⟩, by simp only; omega, ?_⟩
      · show ((exec enRd (loopN Tryd.f7 0) (stRo s n st so)).bind _).val = _
        rw [evRo]
        simp only [unMor, unChM, unTk, unPrt, unChMw, preMor1, preChM1, preTk1, prePrt1, unstRd, prlRd, outRd, etaEnt, etaLst, etaSnd, etaStrm, etaMas, Option.bind_some, List.length_map, unStrs, unInts, unBools, unEnts, unItms, unTrns, cond_true, cond_false, Bool.and_true, Bool.true_and, decide_eq_true hz, p1, p2, p3, p4, p5, ho, stRo]
        rfl
      · simp only [outRo, F.rdS_go hz ho]

theorem lpRd_ok (s : ByteArray) (n : Int) (hp : prlRd s n = true) : ∀ ex s', (outRd s n).val = some (ex, s') → LoopOK enRd (loopN Tryd.f7 0) (stRd s n) ex s' := by
  simp only [prlRd, Bool.and_eq_true, decide_eq_true_eq] at hp
  intro ex s' h
  refine .own 6 0 890 49 7 rfl (.own 6 1 891 47 5 rfl ?_)
  exact lpRo_ok s n F.noMas hp.1.1 (by omega) (by show 0 + 0 + s.size ≤ _; omega) ex s' h

theorem evRd (s : ByteArray) : (runF enRd false Tryd.f7 [vS s]).val =
  bif decide ((500000 : Int) < (↑(ByteArray.size s) : Int)) then some (AV.tup [AV.agg [AV.sl [], AV.sl []], (vI (0 : Int)), (vI (2 : Int))], []) else Option.bind (unenc
  encTk ([.ptr 900 0 0], [(900, Blk.mk true 0 0 [[(vS s), (vI (0 : Int))]])])) fun (z : ByteArray × Int) => bif decide (ByteArray.size z.fst ≤ (500000 : Nat)) && decide ((0
  : Int) ≤ z.snd) && decide (z.snd ≤ (1000000 : Int)) then bif bif !F.cutF z.fst F.nl then true else !ByteArray.toList (F.cutH z.fst F.nl) == ByteArray.toList (ByteArray.mk
  (Array.mk [(35 : UInt8), (77 : UInt8), (65 : UInt8), (83 : UInt8), (84 : UInt8), (69 : UInt8), (82 : UInt8)])) then some (AV.tup [AV.agg [AV.sl [], AV.sl []], (vI (z.snd +
  (1 : Int))), (vI (10 : Int))], []) else Option.bind (unenc stRd1 (St.mk [(6, .ptr 6 0 0), (5, .ptr 16 0 0), (2, .ptr 2 0 0)] [(16, Blk.mk true 0 0 [[(vS (F.cutT z.fst
  F.nl)), (vI (z.snd + (1 : Int)))]]), (6, Blk.mk true 0 0 [[AV.e0, AV.e0]]), (2, Blk.mk true 0 0 [[AV.e0, AV.e0]])])) fun (z : ByteArray × Int) => bif decide ((0 : Int) ≤
  z.snd) && decide (z.snd ≤ (1 : Int)) && decide (ByteArray.size z.fst ≤ (500000 : Nat)) && true then bif (F.rdS z.fst z.snd F.noMas).fst then Option.bind (unenc encChM
  [AV.agg [AV.sl (List.map eStrm (F.rdS z.fst z.snd F.noMas).snd.snd.streams), AV.sl (List.map eSnd (F.rdS z.fst z.snd F.noMas).snd.snd.sounds)]]) fun (z_1 : Mas) => bif
  F.chkM z_1 != (0 : Int) then some (AV.tup [AV.agg [AV.sl [], AV.sl []], (vI (0 : Int)), (vI (F.chkM z_1))], []) else some (AV.tup [AV.agg [AV.sl (List.map eStrm (F.rdS
  z.fst z.snd F.noMas).snd.snd.streams), AV.sl (List.map eSnd (F.rdS z.fst z.snd F.noMas).snd.snd.sounds)], (vI (0 : Int)), (vI (0 : Int))], []) else some (AV.tup [AV.agg
  [AV.sl [], AV.sl []], (vI (F.rdS z.fst z.snd F.noMas).snd.fst), (vI (10 : Int))], []) else none else none := (runFR_val).symm.trans (by kernel_rfl)

def encRd1 (s : ByteArray) : List AV := [vS s]

def encRd (a : ByteArray) : List AV := encRd1 a

theorem encRd_inj (a a' : ByteArray) (h : encRd a = encRd a') : a = a' := by
  simp only [encRd, encRd1] at h
  try simp [strs_inj, ents_inj, eEnt_iff, eLst_iff, eSnds_inj, eStrms_inj] at h
  grind

theorem unRd (s : ByteArray) : unenc encRd ([(vS s)]) = some (s) := unenc_of encRd_inj (s) rfl

def resRd1 (s : ByteArray) : AV × Heap := (.tup [.agg (eMas (F.rdMas s).1), vI (F.rdMas s).2.1, vI (F.rdMas s).2.2], [])

def preRd1 (s : ByteArray) : Bool := true

noncomputable def oRd : Orc := orc 7 false encRd (fun a => preRd1 a) fun a => resRd1 a

theorem okRd : OrcOK Tryd.prog noG oRd := by
  refine mk_ok Tryd.f7 (keep := false) (by kernel_rfl) (by kernel_rfl) enRd_ok mixed (one_loop (x0 := loopN Tryd.f7 0) (by kernel_rfl) (lpo_ok ?_)) (by first | exact fun _ _ => ⟨rfl, rfl⟩ | (intro h; cases h)) ?_
  · rintro ⟨s, n⟩ hp
    exact lpRd_ok s n hp
  rintro s hpre hok
  show (runF enRd false _ (encRd1 _)).val = some (resRd1 _)
  unfold encRd1 resRd1
  rw [evRd]
  have hsz := okA_str (hok _ (List.mem_cons_self ..))
  have z2 := F.cutT_size s F.nl
  have q : ((F.cutH s F.nl).toList == (⟨⟨[35, 77, 65, 83, 84, 69, 82]⟩⟩ : ByteArray).toList) = F.seq (F.cutH s F.nl) F.kMas := rfl
  simp only [unMor, unChM, unTk, unPrt, unChMw, preMor1, preChM1, preTk1, prePrt1, unstRd, prlRd, outRd, etaEnt, etaLst, etaSnd, etaStrm, etaMas, Option.bind_some, List.length_map, unStrs, unInts, unBools, unEnts, unItms, unTrns, cond_true, cond_false, Bool.and_true, Bool.true_and, F.rdMas, q, (by decide : (0 : Int) + 1 = 1)]
  by_cases hb : 500000 < s.size
  · rw [decide_eq_true hb, decide_eq_true (by omega : (500000 : Int) < (s.size : Int))]
    rfl
  · rw [decide_eq_false hb, decide_eq_false (by omega : ¬ (500000 : Int) < (s.size : Int)), decide_eq_true (by omega : s.size ≤ 500000), decide_eq_true (by omega : (F.cutT s F.nl).size ≤ 500000)]
    generalize F.seq (F.cutH s F.nl) F.kMas = q
    generalize F.cutF s F.nl = e
    generalize F.rdS (F.cutT s F.nl) 1 F.noMas = P
    obtain ⟨a, b, c⟩ := P
    cases e
    · rfl
    cases q
    · rfl
    cases a
    · rfl
    simp only [decide_true, Bool.and_self, cond_true, cond_false, Bool.not_true, (by decide : decide ((0 : Int) ≤ 0) = true), (by decide : decide ((0 : Int) ≤ 1000000) = true), (by decide : decide ((0 : Int) ≤ 1) = true), (by decide : decide ((1 : Int) ≤ 1) = true)]
    cases F.chkM c != 0 <;> rfl

end M
end Go.Proofs.YtipngpndgniagaaDoor
