/- What is proved here: how the reference takes an entry (no statement of the seat). -/
import Derived.Test.YtllagmepnmdeoaaDoorE87
namespace Go.Proofs.YtllagmepnmdeoaaDoor
open Go Go.RowKit
set_option linter.unusedVariables false
set_option linter.unusedSimpArgs false
set_option maxHeartbeats 2000000

theorem F.xs_len (ls : List ByteArray) (op : Bool) : ∀ (k a : Nat), ls.length - a ≤ k → a ≤ ls.length → a + (F.xs ls op a).length ≤ ls.length := by
  intro k
  induction k with
  | zero =>
    intro a h1 h2
    cases hb : F.beh ls op a F.kX
    · rw [F.xs_no hb]; exact h2
    · have := (F.beh_lt hb).1; omega
  | succ k ih =>
    intro a h1 h2
    cases hb : F.beh ls op a F.kX
    · rw [F.xs_no hb]; exact h2
    · have := (F.beh_lt hb).1
      have := ih (a + 1) (by omega) (by omega)
      rw [F.xs_go hb, List.length_cons]
      omega

theorem F.one_t : F.one true = 1 := rfl

theorem F.one_f : F.one false = 0 := rfl

theorem F.one_b (b : Bool) : F.one b ≤ 1 := by cases b <;> decide

theorem F.s1_eq (key : ByteArray) (ls : List ByteArray) (op : Bool) (a : Nat) (e : Ent) (h : e.brk = false) : F.s1 key ls op a e = F.s2 key ls op (a + F.one (F.exa ls op a F.kBrk)) { e with brk := F.exa ls op a F.kBrk } := by
  unfold F.s1
  cases F.exa ls op a F.kBrk
  · rw [F.one_f, Nat.add_zero, cond_false]
    obtain ⟨e1, e2, e3, e4, e5, e6, e7⟩ := e
    have h : e3 = false := h
    rw [h]
    rfl
  · rfl

theorem F.s4_eq (ls : List ByteArray) (op : Bool) (a : Nat) (e : Ent) (h : e.gap = false) : F.s4 ls op a e = F.s5 ls op (a + F.one (F.exa ls op a F.kGap)) { e with gap := F.exa ls op a F.kGap } := by
  unfold F.s4
  cases F.exa ls op a F.kGap
  · rw [F.one_f, Nat.add_zero, cond_false]
    obtain ⟨e1, e2, e3, e4, e5, e6, e7⟩ := e
    have h : e6 = false := h
    rw [h]
    rfl
  · rfl

theorem F.undash_eq (v : ByteArray) : F.undash v = bif F.seq v F.dash then ⟨⟨[]⟩⟩ else v := rfl

theorem F.wsub {n : Nat} (h : n ≤ 600000) : IntKind.i64.wrap (((n + 1 : Nat) : Int) - 1) = (n : Int) := by
  rw [M.wrap_id (by omega) (by omega)]; omega

namespace M


def stRn (ls : List ByteArray) (a : Nat) (op : Bool) (key : ByteArray) : St := ⟨[(6, .ptr 6 0 0), (4, .ptr 4 0 0), (1, vS key), (0, .ptr 900 0 0)], [(901, ⟨false, 9, 1, ls.map eStr⟩), (900, ⟨true, 0, 0, [[.own 901, vI a, vB op]]⟩), (6, ⟨true, 0, 0, [[vS ⟨⟨[]⟩⟩, vI 0, vB false, vI (-1), vS key, vB false, .e0]]⟩), (4, ⟨true, 0, 0, [[vS ⟨⟨[]⟩⟩, vI 0, vB false, vI 0, vS ⟨⟨[]⟩⟩, vB false, .e0]]⟩)]⟩

def stRn1 (a : (List ByteArray) × Nat × Bool × ByteArray) : St := stRn a.1 a.2.1 a.2.2.1 a.2.2.2

theorem stRn_inj (a a' : (List ByteArray) × Nat × Bool × ByteArray) (h : stRn1 a = stRn1 a') : a = a' := by
  simp only [stRn1, stRn] at h
  try simp [strs_inj, ints_inj, ents_inj, eEnt_iff, eLst_iff, eSnds_inj, eStrms_inj] at h
  grind

theorem unstRn (ls : List ByteArray) (a : Nat) (op : Bool) (key : ByteArray) : unenc stRn1 (St.mk [(6, .ptr 6 0 0), (4, .ptr 4 0 0), (1, (vS key)), (0, .ptr 900 0 0)] [(901, Blk.mk false 9 1 (List.map eStr ls)), (900, Blk.mk true 0 0 [[.own 901, (vI (↑a : Int)),
  (vB op)]]), (6, Blk.mk true 0 0 [[(vS (ByteArray.mk (Array.mk []))), (vI (0 : Int)), (vB false), (vI (-1 : Int)), (vS key), (vB false), AV.e0]]), (4, Blk.mk true 0 0 [[(vS
  (ByteArray.mk (Array.mk []))), (vI (0 : Int)), (vB false), (vI (0 : Int)), (vS (ByteArray.mk (Array.mk []))), (vB false), AV.e0]])]) = some (ls, a, op, key) := unenc_of stRn_inj (ls, a, op, key) rfl

def outRn (ls : List ByteArray) (a : Nat) (op : Bool) (key : ByteArray) : T (Ex × St) := .ret (.exit 0, ⟨[(6, .ptr 6 0 0), (4, .ptr 4 0 0), (1, vS key), (0, .ptr 900 0 0)], [(901, ⟨false, 9, 1, ls.map eStr⟩), (900, ⟨true, 0, 0, [[.own 901, vI (a + (F.xs ls op a).length : Nat), vB op]]⟩), (890, ⟨false, 9, 1, (F.xs ls op a).map eStr⟩), (6, ⟨true, 0, 0, [[vS ⟨⟨[]⟩⟩, vI 0, vB false, vI (-1), vS key, vB false, .own 890]]⟩), (4, ⟨true, 0, 0, [[vS ⟨⟨[]⟩⟩, vI 0, vB false, vI 0, vS ⟨⟨[]⟩⟩, vB false, .e0]]⟩)]⟩)

noncomputable def prlRn (ls : List ByteArray) (a : Nat) (op : Bool) (key : ByteArray) : Bool := decide (a ≤ ls.length) && F.lsOk ls

noncomputable def lpRn : Nat × (St → T (Ex × St)) := (2, lpo [6, 4, 1, 0] [901, 900, 6, 4] stRn1 (fun a => prlRn a.1 a.2.1 a.2.2.1 a.2.2.2) fun a => outRn a.1 a.2.1 a.2.2.1 a.2.2.2)

noncomputable def enRn : Env := envH ty noG lks [oRMor, oHasPre, oRDa, oPrn] [oRExa, oBeh, oTim, oRUri] [890] [lpRn]

theorem enRn_ok : EnvOK Tryd.prog enRn := by
  refine envH_ok lks_ok ty_ok ?_ ?_
  · simp only [List.forall_mem_cons]
    exact ⟨okRMor, okHasPre, okRDa, okPrn, by simp⟩
  · simp only [List.forall_mem_cons]
    exact ⟨okRExa, okBeh, okTim, okRUri, by simp⟩

def stRq (ls : List ByteArray) (a : Nat) (op : Bool) (key : ByteArray) (x : List ByteArray) : St := ⟨[(6, .ptr 6 0 0), (4, .ptr 4 0 0), (1, vS key), (0, .ptr 900 0 0)], [(901, ⟨false, 9, 1, ls.map eStr⟩), (900, ⟨true, 0, 0, [[.own 901, vI a, vB op]]⟩), (890, ⟨false, 9, 1, x.map eStr⟩), (6, ⟨true, 0, 0, [[vS ⟨⟨[]⟩⟩, vI 0, vB false, vI (-1), vS key, vB false, .own 890]]⟩), (4, ⟨true, 0, 0, [[vS ⟨⟨[]⟩⟩, vI 0, vB false, vI 0, vS ⟨⟨[]⟩⟩, vB false, .e0]]⟩)]⟩

theorem evRq (ls : List ByteArray) (a : Nat) (op : Bool) (key : ByteArray) (x : List ByteArray) : ((exec enRn (loopN Tryd.f28 0) (stRq ls a op key x)).bind (lessX ([6, 4, 1, 0], [901, 900, 890, 6, 4]) ([6, 4, 1, 0], [901, 900, 890, 6, 4]) ([], []))).val =
  Option.bind (unenc encRMor [AV.pel [AV.sl (List.map eStr ls), (vI (↑a : Int)), (vB op)] (0 : Nat)]) fun (z : List ByteArray × Nat × Bool) => bif decide (z.snd.fst ≤
  (600000 : Nat)) && decide (List.length z.fst ≤ (600000 : Nat)) then bif F.mor z.fst z.snd.snd z.snd.fst then bif decide (a < List.length (Blk.mk false 9 1 (List.map eStr
  ls)).rows) then Option.bind (unenc (List.map eStr) (List.map eStr ls)) fun (z : List ByteArray) => bif decide (a < List.length z) then Option.bind (unenc encHasPre [(vS
  (List.getD z a (ByteArray.mk (Array.mk [])))), (vS (ByteArray.mk (Array.mk [(35 : UInt8), (88 : UInt8)])))]) fun (z : ByteArray × ByteArray) => bif F.hasPrefix z.fst z.snd
  then bif decide (a < List.length (Blk.mk false 9 1 (List.map eStr ls)).rows) then Option.bind (unenc (List.map eStr) (List.map eStr ls)) fun (z : List ByteArray) => bif
  decide (a < List.length z) then bif Nat.ble ((List.length (List.map eStr x) + (1 : Nat)) * (16 : Nat)) (140737488355328 : Nat) && true then some (Ex.normal, St.mk [(6,
  .ptr 6 0 0), (4, .ptr 4 0 0), (1, (vS key)), (0, .ptr 900 0 0)] [(901, Blk.mk false 9 1 (List.map eStr ls)), (900, Blk.mk true 0 0 [[.own 901, (vI (IntKind.wrap
  IntKind.i64 ((↑a : Int) + (1 : Int)))), (vB op)]]), (890, Blk.mk false 9 1 (List.map eStr x ++ [[(vS (List.getD z a (ByteArray.mk (Array.mk []))))]])), (6, Blk.mk true 0 0
  [[(vS (ByteArray.mk (Array.mk []))), (vI (0 : Int)), (vB false), (vI (-1 : Int)), (vS key), (vB false), .own 890]]), (4, Blk.mk true 0 0 [[(vS (ByteArray.mk (Array.mk
  []))), (vI (0 : Int)), (vB false), (vI (0 : Int)), (vS (ByteArray.mk (Array.mk []))), (vB false), AV.e0]])]) else none else none else none else some (Ex.exit (0 : Nat),
  St.mk [(6, .ptr 6 0 0), (4, .ptr 4 0 0), (1, (vS key)), (0, .ptr 900 0 0)] [(901, Blk.mk false 9 1 (List.map eStr ls)), (900, Blk.mk true 0 0 [[.own 901, (vI (↑a : Int)),
  (vB op)]]), (890, Blk.mk false 9 1 (List.map eStr x)), (6, Blk.mk true 0 0 [[(vS (ByteArray.mk (Array.mk []))), (vI (0 : Int)), (vB false), (vI (-1 : Int)), (vS key), (vB
  false), .own 890]]), (4, Blk.mk true 0 0 [[(vS (ByteArray.mk (Array.mk []))), (vI (0 : Int)), (vB false), (vI (0 : Int)), (vS (ByteArray.mk (Array.mk []))), (vB false),
  AV.e0]])]) else none else none else some (Ex.exit (0 : Nat), St.mk [(6, .ptr 6 0 0), (4, .ptr 4 0 0), (1, (vS key)), (0, .ptr 900 0 0)] [(901, Blk.mk false 9 1 (List.map
  eStr ls)), (900, Blk.mk true 0 0 [[.own 901, (vI (↑a : Int)), (vB op)]]), (890, Blk.mk false 9 1 (List.map eStr x)), (6, Blk.mk true 0 0 [[(vS (ByteArray.mk (Array.mk
  []))), (vI (0 : Int)), (vB false), (vI (-1 : Int)), (vS key), (vB false), .own 890]]), (4, Blk.mk true 0 0 [[(vS (ByteArray.mk (Array.mk []))), (vI (0 : Int)), (vB false),
  (vI (0 : Int)), (vS (ByteArray.mk (Array.mk []))), (vB false), AV.e0]])]) else none := (execR_bind _ _ _).symm.trans (by kernel_rfl)

def outRq (ls : List ByteArray) (op : Bool) (key : ByteArray) (a : Nat) (x : List ByteArray) : T (Ex × St) := .ret (.exit 0, stRq ls (a + (F.xs ls op a).length) op key (x ++ F.xs ls op a))

theorem lpRq_ok (ls : List ByteArray) (op : Bool) (key : ByteArray) (hls : F.lsOk ls = true) (a : Nat) (x : List ByteArray) (h1 : a ≤ ls.length) (h2 : x.length ≤ a) :
    ∀ ex s', (outRq ls op key a x).val = some (ex, s') → LoopOK enRn (loopN Tryd.f28 0) (stRq ls a op key x) ex s' := by
  have hl := F.lsOk_len hls
  refine loop_gen (st := fun p : Nat × List ByteArray => stRq ls p.1 op key p.2) (out := fun p => outRq ls op key p.1 p.2) (I := fun p => p.1 ≤ ls.length ∧ p.2.length ≤ p.1) (n := ([6, 4, 1, 0], [901, 900, 890, 6, 4])) (e := ([6, 4, 1, 0], [901, 900, 890, 6, 4])) (r := ([], [])) (fun p => ls.length - p.1) ?_ (a, x) ⟨h1, h2⟩
  clear h1 h2
  rintro ⟨a, x⟩ ⟨h1, h2⟩
  simp only at h1 h2
  have p1 : decide (a ≤ 600000) = true := decide_eq_true (by omega)
  have p2 : decide (ls.length ≤ 600000) = true := decide_eq_true (by omega)
  have q : ls.getD a (⟨⟨[]⟩⟩ : ByteArray) = F.lAt ls a := rfl
  have qx : (⟨⟨[35, 88]⟩⟩ : ByteArray) = F.kX := rfl
  have hi : idx (a : Int) = some a := rfl
  have hw : IntKind.i64.wrap ((a : Int) + 1) = ((a + 1 : Nat) : Int) := by rw [wrap_id (by omega) (by omega)]; rfl
  have hb : Nat.ble ((x.length + 1) * 16) 140737488355328 = true := ble_t (by omega)
  cases hb2 : F.beh ls op a F.kX
  · left
    refine ⟨(.exit 0, stRq ls a op key x), ?_, ?_, by simp, rfl⟩
    · show ((exec enRn (loopN Tryd.f28 0) (stRq ls a op key x)).bind _).val = _
      rw [evRq]
      simp only [unRMor, unHasPre, unRDa, unPrn, unRExa, unBeh, unTim, unRUri, preRMor1, preHasPre1, preRDa1, prePrn1, preRExa1, preBeh1, preTim1, preRUri1, unstRn, prlRn, outRn, etaEnt, etaLst, etaSnd, etaStrm, etaMas, Option.bind_some, List.length_map, unStrs, unInts, unBools, unEnts, unItms, unTrns, cond_true, cond_false, Bool.and_true, Bool.true_and, p1, p2, q, qx, hi]
      unfold F.beh at hb2
      cases hm : F.mor ls op a
      · rfl
      · rw [hm] at hb2
        have hlt : a < ls.length := by unfold F.mor at hm; simp only [Bool.and_eq_true, decide_eq_true_eq] at hm; exact hm.1
        rw [decide_eq_true hlt, (by simpa using hb2 : F.hasPrefix (F.lAt ls a) F.kX = false)]
        rfl
    · simp only [outRq, F.xs_no hb2, List.append_nil, List.length_nil, Nat.add_zero]
      rfl
  · right
    have hlt := (F.beh_lt hb2).1
    refine ⟨(a + 1, x ++ [F.lAt ls a]), ?_, rfl, ⟨hlt, by simp only [List.length_append, List.length_singleton]; omega⟩, by simp only; omega, ?_⟩
    · show ((exec enRn (loopN Tryd.f28 0) (stRq ls a op key x)).bind _).val = _
      rw [evRq]
      unfold F.beh at hb2
      rw [Bool.and_eq_true] at hb2
      simp only [unRMor, unHasPre, unRDa, unPrn, unRExa, unBeh, unTim, unRUri, preRMor1, preHasPre1, preRDa1, prePrn1, preRExa1, preBeh1, preTim1, preRUri1, unstRn, prlRn, outRn, etaEnt, etaLst, etaSnd, etaStrm, etaMas, Option.bind_some, List.length_map, unStrs, unInts, unBools, unEnts, unItms, unTrns, cond_true, cond_false, Bool.and_true, Bool.true_and, p1, p2, q, qx, hi, hw, hb, decide_eq_true hlt, hb2.1, hb2.2, stRq]
      rw [List.map_append]
      rfl
    · simp only [outRq, F.xs_go hb2, List.length_cons, List.append_assoc, List.singleton_append]
      rw [show a + 1 + (F.xs ls op (a + 1)).length = a + ((F.xs ls op (a + 1)).length + 1) by omega]

theorem lpRn_ok (ls : List ByteArray) (a : Nat) (op : Bool) (key : ByteArray) (hp : prlRn ls a op key = true) : ∀ ex s', (outRn ls a op key).val = some (ex, s') → LoopOK enRn (loopN Tryd.f28 0) (stRn ls a op key) ex s' := by
  simp only [prlRn, Bool.and_eq_true, decide_eq_true_eq] at hp
  intro ex s' h
  refine .own 6 6 890 9 1 rfl ?_
  exact lpRq_ok ls op key hp.2 a [] hp.1 (by simp) ex s' h

theorem evREn (ls : List ByteArray) (a : Nat) (op : Bool) (key : ByteArray) : (runH enRn [] Tryd.f28 [.ptr 900 0 0, vS key] [(901, ⟨false, 9, 1, ls.map eStr⟩), (900, ⟨true, 0, 0, [[.own 901, vI a, vB op]]⟩)]).val =
  Option.bind (unenc stRn1 (St.mk [(6, .ptr 6 0 0), (4, .ptr 4 0 0), (1, (vS key)), (0, .ptr 900 0 0)] [(901, Blk.mk false 9 1 (List.map eStr ls)), (900, Blk.mk true 0 0
  [[.own 901, (vI (↑a : Int)), (vB op)]]), (6, Blk.mk true 0 0 [[(vS (ByteArray.mk (Array.mk []))), (vI (0 : Int)), (vB false), (vI (-1 : Int)), (vS key), (vB false),
  AV.e0]]), (4, Blk.mk true 0 0 [[(vS (ByteArray.mk (Array.mk []))), (vI (0 : Int)), (vB false), (vI (0 : Int)), (vS (ByteArray.mk (Array.mk []))), (vB false), AV.e0]])]))
  fun (z : List ByteArray × Nat × Bool × ByteArray) => bif decide (z.snd.fst ≤ List.length z.fst) && F.lsOk z.fst && true then Option.bind (unenc encRExa ([.ptr 900 0 0, (vS
  (ByteArray.mk (Array.mk [(35 : UInt8), (66 : UInt8), (82 : UInt8), (69 : UInt8), (65 : UInt8), (75 : UInt8)])))], [(901, Blk.mk false 9 1 (List.map eStr z.fst)), (900,
  Blk.mk true 0 0 [[.own 901, (vI (↑(z.snd.fst + List.length (F.xs z.fst z.snd.snd.fst z.snd.fst)) : Int)), (vB z.snd.snd.fst)]])])) fun (z_1 : List ByteArray × Nat × Bool ×
  ByteArray) => bif decide (z_1.snd.fst ≤ (600000 : Nat)) && decide (List.length z_1.fst ≤ (600000 : Nat)) then Option.bind (unenc encBeh ([.ptr 900 0 0, (vS (ByteArray.mk
  (Array.mk [(35 : UInt8), (68 : UInt8), (65 : UInt8), (84 : UInt8), (69 : UInt8), (32 : UInt8)])))], [(901, Blk.mk false 9 1 (List.map eStr z_1.fst)), (900, Blk.mk true 0 0
  [[.own 901, (vI (↑(z_1.snd.fst + F.one (F.exa z_1.fst z_1.snd.snd.fst z_1.snd.fst z_1.snd.snd.snd)) : Int)), (vB z_1.snd.snd.fst)]])])) fun (z_2 : List ByteArray × Nat ×
  Bool × ByteArray) => bif decide (z_2.snd.fst ≤ (600000 : Nat)) && F.lsOk z_2.fst then bif F.beh z_2.fst z_2.snd.snd.fst z_2.snd.fst z_2.snd.snd.snd then Option.bind (unenc
  encRDa [(vS (bif F.beh z_2.fst z_2.snd.snd.fst z_2.snd.fst z_2.snd.snd.snd then F.behV z_2.fst z_2.snd.fst z_2.snd.snd.snd else ByteArray.mk (Array.mk [])))]) fun (z_3 :
  ByteArray) => bif (bif F.dtOk z_3 then (0 : Int) else (10 : Int)) != (0 : Int) then some (AV.tup [AV.agg [(vS (ByteArray.mk (Array.mk []))), (vI (0 : Int)), (vB (F.exa
  z_1.fst z_1.snd.snd.fst z_1.snd.fst z_1.snd.snd.snd)), (vI (-1 : Int)), (vS z.snd.snd.snd), (vB false), .own 0], (vB false)], [(901, Blk.mk false 9 1 (List.map eStr
  z_2.fst)), (900, Blk.mk true 0 0 [[.own 901, (vI (IntKind.wrap IntKind.i64 ((↑(z_2.snd.fst + F.one (F.beh z_2.fst z_2.snd.snd.fst z_2.snd.fst z_2.snd.snd.snd)) : Int) - (1
  : Int)))), (vB z_2.snd.snd.fst)]]), (0, Blk.mk false 9 1 (List.map eStr (F.xs z.fst z.snd.snd.fst z.snd.fst)))], []) else Option.bind (unenc encBeh ([.ptr 900 0 0, (vS
  (ByteArray.mk (Array.mk [(35 : UInt8), (75 : UInt8), (69 : UInt8), (89 : UInt8), (32 : UInt8)])))], [(901, Blk.mk false 9 1 (List.map eStr z_2.fst)), (900, Blk.mk true 0 0
  [[.own 901, (vI (↑(z_2.snd.fst + F.one (F.beh z_2.fst z_2.snd.snd.fst z_2.snd.fst z_2.snd.snd.snd)) : Int)), (vB z_2.snd.snd.fst)]])])) fun (z_4 : List ByteArray × Nat ×
  Bool × ByteArray) => bif decide (z_4.snd.fst ≤ (600000 : Nat)) && F.lsOk z_4.fst then bif F.beh z_4.fst z_4.snd.snd.fst z_4.snd.fst z_4.snd.snd.snd then bif
  ByteArray.toList (bif F.beh z_4.fst z_4.snd.snd.fst z_4.snd.fst z_4.snd.snd.snd then F.behV z_4.fst z_4.snd.fst z_4.snd.snd.snd else ByteArray.mk (Array.mk [])) ==
  ByteArray.toList (ByteArray.mk (Array.mk [(45 : UInt8)])) then bif !ByteArray.toList (bif F.beh z_4.fst z_4.snd.snd.fst z_4.snd.fst z_4.snd.snd.snd then F.behV z_4.fst
  z_4.snd.fst z_4.snd.snd.snd else ByteArray.mk (Array.mk [])) == ByteArray.toList (ByteArray.mk (Array.mk [])) then Option.bind (unenc encPrn [(vS (bif F.beh z_4.fst
  z_4.snd.snd.fst z_4.snd.fst z_4.snd.snd.snd then F.behV z_4.fst z_4.snd.fst z_4.snd.snd.snd else ByteArray.mk (Array.mk []))), (vU (33 : Int))]) fun (z_5 : ByteArray ×
  Int) => bif bif !F.vis z_5.fst z_5.snd then true else ByteArray.toList (ByteArray.mk (Array.mk [])) == ByteArray.toList z.snd.snd.snd then some (AV.tup [AV.agg [(vS
  (ByteArray.mk (Array.mk []))), (vI (0 : Int)), (vB (F.exa z_1.fst z_1.snd.snd.fst z_1.snd.fst z_1.snd.snd.snd)), (vI (F.dtV z_3)), (vS z.snd.snd.snd), (vB false), .own 0],
  (vB false)], [(901, Blk.mk false 9 1 (List.map eStr z_4.fst)), (900, Blk.mk true 0 0 [[.own 901, (vI (IntKind.wrap IntKind.i64 ((↑(z_4.snd.fst + F.one (F.beh z_4.fst
  z_4.snd.snd.fst z_4.snd.fst z_4.snd.snd.snd)) : Int) - (1 : Int)))), (vB z_4.snd.snd.fst)]]), (0, Blk.mk false 9 1 (List.map eStr (F.xs z.fst z.snd.snd.fst z.snd.fst)))],
  []) else Option.bind (unenc encRExa ([.ptr 900 0 0, (vS (ByteArray.mk (Array.mk [(35 : UInt8), (71 : UInt8), (65 : UInt8), (80 : UInt8)])))], [(901, Blk.mk false 9 1
  (List.map eStr z_4.fst)), (900, Blk.mk true 0 0 [[.own 901, (vI (↑(z_4.snd.fst + F.one (F.beh z_4.fst z_4.snd.snd.fst z_4.snd.fst z_4.snd.snd.snd)) : Int)), (vB
  z_4.snd.snd.fst)]])])) fun (z_6 : List ByteArray × Nat × Bool × ByteArray) => bif decide (z_6.snd.fst ≤ (600000 : Nat)) && decide (List.length z_6.fst ≤ (600000 : Nat))
  then Option.bind (unenc encTim ([.ptr 900 0 0], [(901, Blk.mk false 9 1 (List.map eStr z_6.fst)), (900, Blk.mk true 0 0 [[.own 901, (vI (↑(z_6.snd.fst + F.one (F.exa
  z_6.fst z_6.snd.snd.fst z_6.snd.fst z_6.snd.snd.snd)) : Int)), (vB z_6.snd.snd.fst)]])])) fun (z_7 : List ByteArray × Nat × Bool) => bif decide (z_7.snd.fst ≤ (600000 :
  Nat)) && F.lsOk z_7.fst then bif !F.rtm z_7.fst z_7.snd.snd z_7.snd.fst then some (AV.tup [AV.agg [(vS (ByteArray.mk (Array.mk []))), (vI (bif F.rtm z_7.fst z_7.snd.snd
  z_7.snd.fst then F.rmV (F.behV z_7.fst z_7.snd.fst F.kTimS) else (0 : Int))), (vB (F.exa z_1.fst z_1.snd.snd.fst z_1.snd.fst z_1.snd.snd.snd)), (vI (F.dtV z_3)), (vS
  (ByteArray.mk (Array.mk []))), (vB (F.exa z_6.fst z_6.snd.snd.fst z_6.snd.fst z_6.snd.snd.snd)), .own 0], (vB false)], [(901, Blk.mk false 9 1 (List.map eStr z_7.fst)),
  (900, Blk.mk true 0 0 [[.own 901, (vI (↑(z_7.snd.fst + F.one (F.rtm z_7.fst z_7.snd.snd z_7.snd.fst)) : Int)), (vB z_7.snd.snd)]]), (0, Blk.mk false 9 1 (List.map eStr
  (F.xs z.fst z.snd.snd.fst z.snd.fst)))], []) else Option.bind (unenc encRUri ([.ptr 900 0 0], [(901, Blk.mk false 9 1 (List.map eStr z_7.fst)), (900, Blk.mk true 0 0
  [[.own 901, (vI (↑(z_7.snd.fst + F.one (F.rtm z_7.fst z_7.snd.snd z_7.snd.fst)) : Int)), (vB z_7.snd.snd)]])])) fun (z_8 : List ByteArray × Nat × Bool) => bif decide
  (z_8.snd.fst ≤ (600000 : Nat)) && decide (List.length z_8.fst ≤ (600000 : Nat)) then some (AV.tup [AV.agg [(vS (bif F.ruri z_8.fst z_8.snd.snd z_8.snd.fst then F.lAt
  z_8.fst z_8.snd.fst else ByteArray.mk (Array.mk []))), (vI (bif F.rtm z_7.fst z_7.snd.snd z_7.snd.fst then F.rmV (F.behV z_7.fst z_7.snd.fst F.kTimS) else (0 : Int))), (vB
  (F.exa z_1.fst z_1.snd.snd.fst z_1.snd.fst z_1.snd.snd.snd)), (vI (F.dtV z_3)), (vS (ByteArray.mk (Array.mk []))), (vB (F.exa z_6.fst z_6.snd.snd.fst z_6.snd.fst
  z_6.snd.snd.snd)), .own 0], (vB (F.ruri z_8.fst z_8.snd.snd z_8.snd.fst))], [(901, Blk.mk false 9 1 (List.map eStr z_8.fst)), (900, Blk.mk true 0 0 [[.own 901, (vI
  (↑(z_8.snd.fst + F.one (F.ruri z_8.fst z_8.snd.snd z_8.snd.fst)) : Int)), (vB z_8.snd.snd)]]), (0, Blk.mk false 9 1 (List.map eStr (F.xs z.fst z.snd.snd.fst z.snd.fst)))],
  []) else none else none else none else some (AV.tup [AV.agg [(vS (ByteArray.mk (Array.mk []))), (vI (0 : Int)), (vB (F.exa z_1.fst z_1.snd.snd.fst z_1.snd.fst
  z_1.snd.snd.snd)), (vI (F.dtV z_3)), (vS z.snd.snd.snd), (vB false), .own 0], (vB false)], [(901, Blk.mk false 9 1 (List.map eStr z_4.fst)), (900, Blk.mk true 0 0 [[.own
  901, (vI (IntKind.wrap IntKind.i64 ((↑(z_4.snd.fst + F.one (F.beh z_4.fst z_4.snd.snd.fst z_4.snd.fst z_4.snd.snd.snd)) : Int) - (1 : Int)))), (vB z_4.snd.snd.fst)]]), (0,
  Blk.mk false 9 1 (List.map eStr (F.xs z.fst z.snd.snd.fst z.snd.fst)))], []) else bif !ByteArray.toList (bif F.beh z_4.fst z_4.snd.snd.fst z_4.snd.fst z_4.snd.snd.snd then
  F.behV z_4.fst z_4.snd.fst z_4.snd.snd.snd else ByteArray.mk (Array.mk [])) == ByteArray.toList (ByteArray.mk (Array.mk [])) then Option.bind (unenc encPrn [(vS (bif F.beh
  z_4.fst z_4.snd.snd.fst z_4.snd.fst z_4.snd.snd.snd then F.behV z_4.fst z_4.snd.fst z_4.snd.snd.snd else ByteArray.mk (Array.mk []))), (vU (33 : Int))]) fun (z_5 :
  ByteArray × Int) => bif bif !F.vis z_5.fst z_5.snd then true else ByteArray.toList (bif F.beh z_4.fst z_4.snd.snd.fst z_4.snd.fst z_4.snd.snd.snd then F.behV z_4.fst
  z_4.snd.fst z_4.snd.snd.snd else ByteArray.mk (Array.mk [])) == ByteArray.toList z.snd.snd.snd then some (AV.tup [AV.agg [(vS (ByteArray.mk (Array.mk []))), (vI (0 :
  Int)), (vB (F.exa z_1.fst z_1.snd.snd.fst z_1.snd.fst z_1.snd.snd.snd)), (vI (F.dtV z_3)), (vS z.snd.snd.snd), (vB false), .own 0], (vB false)], [(901, Blk.mk false 9 1
  (List.map eStr z_4.fst)), (900, Blk.mk true 0 0 [[.own 901, (vI (IntKind.wrap IntKind.i64 ((↑(z_4.snd.fst + F.one (F.beh z_4.fst z_4.snd.snd.fst z_4.snd.fst
  z_4.snd.snd.snd)) : Int) - (1 : Int)))), (vB z_4.snd.snd.fst)]]), (0, Blk.mk false 9 1 (List.map eStr (F.xs z.fst z.snd.snd.fst z.snd.fst)))], []) else Option.bind (unenc
  encRExa ([.ptr 900 0 0, (vS (ByteArray.mk (Array.mk [(35 : UInt8), (71 : UInt8), (65 : UInt8), (80 : UInt8)])))], [(901, Blk.mk false 9 1 (List.map eStr z_4.fst)), (900,
  Blk.mk true 0 0 [[.own 901, (vI (↑(z_4.snd.fst + F.one (F.beh z_4.fst z_4.snd.snd.fst z_4.snd.fst z_4.snd.snd.snd)) : Int)), (vB z_4.snd.snd.fst)]])])) fun (z_6 : List
  ByteArray × Nat × Bool × ByteArray) => bif decide (z_6.snd.fst ≤ (600000 : Nat)) && decide (List.length z_6.fst ≤ (600000 : Nat)) then Option.bind (unenc encTim ([.ptr 900
  0 0], [(901, Blk.mk false 9 1 (List.map eStr z_6.fst)), (900, Blk.mk true 0 0 [[.own 901, (vI (↑(z_6.snd.fst + F.one (F.exa z_6.fst z_6.snd.snd.fst z_6.snd.fst
  z_6.snd.snd.snd)) : Int)), (vB z_6.snd.snd.fst)]])])) fun (z_7 : List ByteArray × Nat × Bool) => bif decide (z_7.snd.fst ≤ (600000 : Nat)) && F.lsOk z_7.fst then bif
  !F.rtm z_7.fst z_7.snd.snd z_7.snd.fst then some (AV.tup [AV.agg [(vS (ByteArray.mk (Array.mk []))), (vI (bif F.rtm z_7.fst z_7.snd.snd z_7.snd.fst then F.rmV (F.behV
  z_7.fst z_7.snd.fst F.kTimS) else (0 : Int))), (vB (F.exa z_1.fst z_1.snd.snd.fst z_1.snd.fst z_1.snd.snd.snd)), (vI (F.dtV z_3)), (vS (bif F.beh z_4.fst z_4.snd.snd.fst
  z_4.snd.fst z_4.snd.snd.snd then F.behV z_4.fst z_4.snd.fst z_4.snd.snd.snd else ByteArray.mk (Array.mk []))), (vB (F.exa z_6.fst z_6.snd.snd.fst z_6.snd.fst
  z_6.snd.snd.snd)), .own 0], (vB false)], [(901, Blk.mk false 9 1 (List.map eStr z_7.fst)), (900, Blk.mk true 0 0 [[.own 901, (vI (↑(z_7.snd.fst + F.one (F.rtm z_7.fst
  z_7.snd.snd z_7.snd.fst)) : Int)), (vB z_7.snd.snd)]]), (0, Blk.mk false 9 1 (List.map eStr (F.xs z.fst z.snd.snd.fst z.snd.fst)))], []) else Option.bind (unenc encRUri
  ([.ptr 900 0 0], [(901, Blk.mk false 9 1 (List.map eStr z_7.fst)), (900, Blk.mk true 0 0 [[.own 901, (vI (↑(z_7.snd.fst + F.one (F.rtm z_7.fst z_7.snd.snd z_7.snd.fst)) :
  Int)), (vB z_7.snd.snd)]])])) fun (z_8 : List ByteArray × Nat × Bool) => bif decide (z_8.snd.fst ≤ (600000 : Nat)) && decide (List.length z_8.fst ≤ (600000 : Nat)) then
  some (AV.tup [AV.agg [(vS (bif F.ruri z_8.fst z_8.snd.snd z_8.snd.fst then F.lAt z_8.fst z_8.snd.fst else ByteArray.mk (Array.mk []))), (vI (bif F.rtm z_7.fst z_7.snd.snd
  z_7.snd.fst then F.rmV (F.behV z_7.fst z_7.snd.fst F.kTimS) else (0 : Int))), (vB (F.exa z_1.fst z_1.snd.snd.fst z_1.snd.fst z_1.snd.snd.snd)), (vI (F.dtV z_3)), (vS (bif
  F.beh z_4.fst z_4.snd.snd.fst z_4.snd.fst z_4.snd.snd.snd then F.behV z_4.fst z_4.snd.fst z_4.snd.snd.snd else ByteArray.mk (Array.mk []))), (vB (F.exa z_6.fst
  z_6.snd.snd.fst z_6.snd.fst z_6.snd.snd.snd)), .own 0], (vB (F.ruri z_8.fst z_8.snd.snd z_8.snd.fst))], [(901, Blk.mk false 9 1 (List.map eStr z_8.fst)), (900, Blk.mk true
  0 0 [[.own 901, (vI (↑(z_8.snd.fst + F.one (F.ruri z_8.fst z_8.snd.snd z_8.snd.fst)) : Int)), (vB z_8.snd.snd)]]), (0, Blk.mk false 9 1 (List.map eStr (F.xs z.fst
  z.snd.snd.fst z.snd.fst)))], []) else none else none else none else some (AV.tup [AV.agg [(vS (ByteArray.mk (Array.mk []))), (vI (0 : Int)), (vB (F.exa z_1.fst
  z_1.snd.snd.fst z_1.snd.fst z_1.snd.snd.snd)), (vI (F.dtV z_3)), (vS z.snd.snd.snd), (vB false), .own 0], (vB false)], [(901, Blk.mk false 9 1 (List.map eStr z_4.fst)),
  (900, Blk.mk true 0 0 [[.own 901, (vI (IntKind.wrap IntKind.i64 ((↑(z_4.snd.fst + F.one (F.beh z_4.fst z_4.snd.snd.fst z_4.snd.fst z_4.snd.snd.snd)) : Int) - (1 : Int)))),
  (vB z_4.snd.snd.fst)]]), (0, Blk.mk false 9 1 (List.map eStr (F.xs z.fst z.snd.snd.fst z.snd.fst)))], []) else Option.bind (unenc encRExa ([.ptr 900 0 0, (vS (ByteArray.mk
  (Array.mk [(35 : UInt8), (71 : UInt8), (65 : UInt8), (80 : UInt8)])))], [(901, Blk.mk false 9 1 (List.map eStr z_4.fst)), (900, Blk.mk true 0 0 [[.own 901, (vI
  (↑(z_4.snd.fst + F.one (F.beh z_4.fst z_4.snd.snd.fst z_4.snd.fst z_4.snd.snd.snd)) : Int)), (vB z_4.snd.snd.fst)]])])) fun (z_5 : List ByteArray × Nat × Bool × ByteArray)
  => bif decide (z_5.snd.fst ≤ (600000 : Nat)) && decide (List.length z_5.fst ≤ (600000 : Nat)) then Option.bind (unenc encTim ([.ptr 900 0 0], [(901, Blk.mk false 9 1
  (List.map eStr z_5.fst)), (900, Blk.mk true 0 0 [[.own 901, (vI (↑(z_5.snd.fst + F.one (F.exa z_5.fst z_5.snd.snd.fst z_5.snd.fst z_5.snd.snd.snd)) : Int)), (vB
  z_5.snd.snd.fst)]])])) fun (z_6 : List ByteArray × Nat × Bool) => bif decide (z_6.snd.fst ≤ (600000 : Nat)) && F.lsOk z_6.fst then bif !F.rtm z_6.fst z_6.snd.snd
  z_6.snd.fst then some (AV.tup [AV.agg [(vS (ByteArray.mk (Array.mk []))), (vI (bif F.rtm z_6.fst z_6.snd.snd z_6.snd.fst then F.rmV (F.behV z_6.fst z_6.snd.fst F.kTimS)
  else (0 : Int))), (vB (F.exa z_1.fst z_1.snd.snd.fst z_1.snd.fst z_1.snd.snd.snd)), (vI (F.dtV z_3)), (vS z.snd.snd.snd), (vB (F.exa z_5.fst z_5.snd.snd.fst z_5.snd.fst
  z_5.snd.snd.snd)), .own 0], (vB false)], [(901, Blk.mk false 9 1 (List.map eStr z_6.fst)), (900, Blk.mk true 0 0 [[.own 901, (vI (↑(z_6.snd.fst + F.one (F.rtm z_6.fst
  z_6.snd.snd z_6.snd.fst)) : Int)), (vB z_6.snd.snd)]]), (0, Blk.mk false 9 1 (List.map eStr (F.xs z.fst z.snd.snd.fst z.snd.fst)))], []) else Option.bind (unenc encRUri
  ([.ptr 900 0 0], [(901, Blk.mk false 9 1 (List.map eStr z_6.fst)), (900, Blk.mk true 0 0 [[.own 901, (vI (↑(z_6.snd.fst + F.one (F.rtm z_6.fst z_6.snd.snd z_6.snd.fst)) :
  Int)), (vB z_6.snd.snd)]])])) fun (z_7 : List ByteArray × Nat × Bool) => bif decide (z_7.snd.fst ≤ (600000 : Nat)) && decide (List.length z_7.fst ≤ (600000 : Nat)) then
  some (AV.tup [AV.agg [(vS (bif F.ruri z_7.fst z_7.snd.snd z_7.snd.fst then F.lAt z_7.fst z_7.snd.fst else ByteArray.mk (Array.mk []))), (vI (bif F.rtm z_6.fst z_6.snd.snd
  z_6.snd.fst then F.rmV (F.behV z_6.fst z_6.snd.fst F.kTimS) else (0 : Int))), (vB (F.exa z_1.fst z_1.snd.snd.fst z_1.snd.fst z_1.snd.snd.snd)), (vI (F.dtV z_3)), (vS
  z.snd.snd.snd), (vB (F.exa z_5.fst z_5.snd.snd.fst z_5.snd.fst z_5.snd.snd.snd)), .own 0], (vB (F.ruri z_7.fst z_7.snd.snd z_7.snd.fst))], [(901, Blk.mk false 9 1
  (List.map eStr z_7.fst)), (900, Blk.mk true 0 0 [[.own 901, (vI (↑(z_7.snd.fst + F.one (F.ruri z_7.fst z_7.snd.snd z_7.snd.fst)) : Int)), (vB z_7.snd.snd)]]), (0, Blk.mk
  false 9 1 (List.map eStr (F.xs z.fst z.snd.snd.fst z.snd.fst)))], []) else none else none else none else none else Option.bind (unenc encBeh ([.ptr 900 0 0, (vS
  (ByteArray.mk (Array.mk [(35 : UInt8), (75 : UInt8), (69 : UInt8), (89 : UInt8), (32 : UInt8)])))], [(901, Blk.mk false 9 1 (List.map eStr z_2.fst)), (900, Blk.mk true 0 0
  [[.own 901, (vI (↑(z_2.snd.fst + F.one (F.beh z_2.fst z_2.snd.snd.fst z_2.snd.fst z_2.snd.snd.snd)) : Int)), (vB z_2.snd.snd.fst)]])])) fun (z_3 : List ByteArray × Nat ×
  Bool × ByteArray) => bif decide (z_3.snd.fst ≤ (600000 : Nat)) && F.lsOk z_3.fst then bif F.beh z_3.fst z_3.snd.snd.fst z_3.snd.fst z_3.snd.snd.snd then bif
  ByteArray.toList (bif F.beh z_3.fst z_3.snd.snd.fst z_3.snd.fst z_3.snd.snd.snd then F.behV z_3.fst z_3.snd.fst z_3.snd.snd.snd else ByteArray.mk (Array.mk [])) ==
  ByteArray.toList (ByteArray.mk (Array.mk [(45 : UInt8)])) then bif !ByteArray.toList (bif F.beh z_3.fst z_3.snd.snd.fst z_3.snd.fst z_3.snd.snd.snd then F.behV z_3.fst
  z_3.snd.fst z_3.snd.snd.snd else ByteArray.mk (Array.mk [])) == ByteArray.toList (ByteArray.mk (Array.mk [])) then Option.bind (unenc encPrn [(vS (bif F.beh z_3.fst
  z_3.snd.snd.fst z_3.snd.fst z_3.snd.snd.snd then F.behV z_3.fst z_3.snd.fst z_3.snd.snd.snd else ByteArray.mk (Array.mk []))), (vU (33 : Int))]) fun (z_4 : ByteArray ×
  Int) => bif bif !F.vis z_4.fst z_4.snd then true else ByteArray.toList (ByteArray.mk (Array.mk [])) == ByteArray.toList z.snd.snd.snd then some (AV.tup [AV.agg [(vS
  (ByteArray.mk (Array.mk []))), (vI (0 : Int)), (vB (F.exa z_1.fst z_1.snd.snd.fst z_1.snd.fst z_1.snd.snd.snd)), (vI (-1 : Int)), (vS z.snd.snd.snd), (vB false), .own 0],
  (vB false)], [(901, Blk.mk false 9 1 (List.map eStr z_3.fst)), (900, Blk.mk true 0 0 [[.own 901, (vI (IntKind.wrap IntKind.i64 ((↑(z_3.snd.fst + F.one (F.beh z_3.fst
  z_3.snd.snd.fst z_3.snd.fst z_3.snd.snd.snd)) : Int) - (1 : Int)))), (vB z_3.snd.snd.fst)]]), (0, Blk.mk false 9 1 (List.map eStr (F.xs z.fst z.snd.snd.fst z.snd.fst)))],
  []) else Option.bind (unenc encRExa ([.ptr 900 0 0, (vS (ByteArray.mk (Array.mk [(35 : UInt8), (71 : UInt8), (65 : UInt8), (80 : UInt8)])))], [(901, Blk.mk false 9 1
  (List.map eStr z_3.fst)), (900, Blk.mk true 0 0 [[.own 901, (vI (↑(z_3.snd.fst + F.one (F.beh z_3.fst z_3.snd.snd.fst z_3.snd.fst z_3.snd.snd.snd)) : Int)), (vB
  z_3.snd.snd.fst)]])])) fun (z_5 : List ByteArray × Nat × Bool × ByteArray) => bif decide (z_5.snd.fst ≤ (600000 : Nat)) && decide (List.length z_5.fst ≤ (600000 : Nat))
  then Option.bind (unenc encTim ([.ptr 900 0 0], [(901, Blk.mk false 9 1 (List.map eStr z_5.fst)), (900, Blk.mk true 0 0 [[.own 901, (vI (↑(z_5.snd.fst + F.one (F.exa
  z_5.fst z_5.snd.snd.fst z_5.snd.fst z_5.snd.snd.snd)) : Int)), (vB z_5.snd.snd.fst)]])])) fun (z_6 : List ByteArray × Nat × Bool) => bif decide (z_6.snd.fst ≤ (600000 :
  Nat)) && F.lsOk z_6.fst then bif !F.rtm z_6.fst z_6.snd.snd z_6.snd.fst then some (AV.tup [AV.agg [(vS (ByteArray.mk (Array.mk []))), (vI (bif F.rtm z_6.fst z_6.snd.snd
  z_6.snd.fst then F.rmV (F.behV z_6.fst z_6.snd.fst F.kTimS) else (0 : Int))), (vB (F.exa z_1.fst z_1.snd.snd.fst z_1.snd.fst z_1.snd.snd.snd)), (vI (-1 : Int)), (vS
  (ByteArray.mk (Array.mk []))), (vB (F.exa z_5.fst z_5.snd.snd.fst z_5.snd.fst z_5.snd.snd.snd)), .own 0], (vB false)], [(901, Blk.mk false 9 1 (List.map eStr z_6.fst)),
  (900, Blk.mk true 0 0 [[.own 901, (vI (↑(z_6.snd.fst + F.one (F.rtm z_6.fst z_6.snd.snd z_6.snd.fst)) : Int)), (vB z_6.snd.snd)]]), (0, Blk.mk false 9 1 (List.map eStr
  (F.xs z.fst z.snd.snd.fst z.snd.fst)))], []) else Option.bind (unenc encRUri ([.ptr 900 0 0], [(901, Blk.mk false 9 1 (List.map eStr z_6.fst)), (900, Blk.mk true 0 0
  [[.own 901, (vI (↑(z_6.snd.fst + F.one (F.rtm z_6.fst z_6.snd.snd z_6.snd.fst)) : Int)), (vB z_6.snd.snd)]])])) fun (z_7 : List ByteArray × Nat × Bool) => bif decide
  (z_7.snd.fst ≤ (600000 : Nat)) && decide (List.length z_7.fst ≤ (600000 : Nat)) then some (AV.tup [AV.agg [(vS (bif F.ruri z_7.fst z_7.snd.snd z_7.snd.fst then F.lAt
  z_7.fst z_7.snd.fst else ByteArray.mk (Array.mk []))), (vI (bif F.rtm z_6.fst z_6.snd.snd z_6.snd.fst then F.rmV (F.behV z_6.fst z_6.snd.fst F.kTimS) else (0 : Int))), (vB
  (F.exa z_1.fst z_1.snd.snd.fst z_1.snd.fst z_1.snd.snd.snd)), (vI (-1 : Int)), (vS (ByteArray.mk (Array.mk []))), (vB (F.exa z_5.fst z_5.snd.snd.fst z_5.snd.fst
  z_5.snd.snd.snd)), .own 0], (vB (F.ruri z_7.fst z_7.snd.snd z_7.snd.fst))], [(901, Blk.mk false 9 1 (List.map eStr z_7.fst)), (900, Blk.mk true 0 0 [[.own 901, (vI
  (↑(z_7.snd.fst + F.one (F.ruri z_7.fst z_7.snd.snd z_7.snd.fst)) : Int)), (vB z_7.snd.snd)]]), (0, Blk.mk false 9 1 (List.map eStr (F.xs z.fst z.snd.snd.fst z.snd.fst)))],
  []) else none else none else none else some (AV.tup [AV.agg [(vS (ByteArray.mk (Array.mk []))), (vI (0 : Int)), (vB (F.exa z_1.fst z_1.snd.snd.fst z_1.snd.fst
  z_1.snd.snd.snd)), (vI (-1 : Int)), (vS z.snd.snd.snd), (vB false), .own 0], (vB false)], [(901, Blk.mk false 9 1 (List.map eStr z_3.fst)), (900, Blk.mk true 0 0 [[.own
  901, (vI (IntKind.wrap IntKind.i64 ((↑(z_3.snd.fst + F.one (F.beh z_3.fst z_3.snd.snd.fst z_3.snd.fst z_3.snd.snd.snd)) : Int) - (1 : Int)))), (vB z_3.snd.snd.fst)]]), (0,
  Blk.mk false 9 1 (List.map eStr (F.xs z.fst z.snd.snd.fst z.snd.fst)))], []) else bif !ByteArray.toList (bif F.beh z_3.fst z_3.snd.snd.fst z_3.snd.fst z_3.snd.snd.snd then
  F.behV z_3.fst z_3.snd.fst z_3.snd.snd.snd else ByteArray.mk (Array.mk [])) == ByteArray.toList (ByteArray.mk (Array.mk [])) then Option.bind (unenc encPrn [(vS (bif F.beh
  z_3.fst z_3.snd.snd.fst z_3.snd.fst z_3.snd.snd.snd then F.behV z_3.fst z_3.snd.fst z_3.snd.snd.snd else ByteArray.mk (Array.mk []))), (vU (33 : Int))]) fun (z_4 :
  ByteArray × Int) => bif bif !F.vis z_4.fst z_4.snd then true else ByteArray.toList (bif F.beh z_3.fst z_3.snd.snd.fst z_3.snd.fst z_3.snd.snd.snd then F.behV z_3.fst
  z_3.snd.fst z_3.snd.snd.snd else ByteArray.mk (Array.mk [])) == ByteArray.toList z.snd.snd.snd then some (AV.tup [AV.agg [(vS (ByteArray.mk (Array.mk []))), (vI (0 :
  Int)), (vB (F.exa z_1.fst z_1.snd.snd.fst z_1.snd.fst z_1.snd.snd.snd)), (vI (-1 : Int)), (vS z.snd.snd.snd), (vB false), .own 0], (vB false)], [(901, Blk.mk false 9 1
  (List.map eStr z_3.fst)), (900, Blk.mk true 0 0 [[.own 901, (vI (IntKind.wrap IntKind.i64 ((↑(z_3.snd.fst + F.one (F.beh z_3.fst z_3.snd.snd.fst z_3.snd.fst
  z_3.snd.snd.snd)) : Int) - (1 : Int)))), (vB z_3.snd.snd.fst)]]), (0, Blk.mk false 9 1 (List.map eStr (F.xs z.fst z.snd.snd.fst z.snd.fst)))], []) else Option.bind (unenc
  encRExa ([.ptr 900 0 0, (vS (ByteArray.mk (Array.mk [(35 : UInt8), (71 : UInt8), (65 : UInt8), (80 : UInt8)])))], [(901, Blk.mk false 9 1 (List.map eStr z_3.fst)), (900,
  Blk.mk true 0 0 [[.own 901, (vI (↑(z_3.snd.fst + F.one (F.beh z_3.fst z_3.snd.snd.fst z_3.snd.fst z_3.snd.snd.snd)) : Int)), (vB z_3.snd.snd.fst)]])])) fun (z_5 : List
  ByteArray × Nat × Bool × ByteArray) => bif decide (z_5.snd.fst ≤ (600000 : Nat)) && decide (List.length z_5.fst ≤ (600000 : Nat)) then Option.bind (unenc encTim ([.ptr 900
  0 0], [(901, Blk.mk false 9 1 (List.map eStr z_5.fst)), (900, Blk.mk true 0 0 [[.own 901, (vI (↑(z_5.snd.fst + F.one (F.exa z_5.fst z_5.snd.snd.fst z_5.snd.fst
  z_5.snd.snd.snd)) : Int)), (vB z_5.snd.snd.fst)]])])) fun (z_6 : List ByteArray × Nat × Bool) => bif decide (z_6.snd.fst ≤ (600000 : Nat)) && F.lsOk z_6.fst then bif
  !F.rtm z_6.fst z_6.snd.snd z_6.snd.fst then some (AV.tup [AV.agg [(vS (ByteArray.mk (Array.mk []))), (vI (bif F.rtm z_6.fst z_6.snd.snd z_6.snd.fst then F.rmV (F.behV
  z_6.fst z_6.snd.fst F.kTimS) else (0 : Int))), (vB (F.exa z_1.fst z_1.snd.snd.fst z_1.snd.fst z_1.snd.snd.snd)), (vI (-1 : Int)), (vS (bif F.beh z_3.fst z_3.snd.snd.fst
  z_3.snd.fst z_3.snd.snd.snd then F.behV z_3.fst z_3.snd.fst z_3.snd.snd.snd else ByteArray.mk (Array.mk []))), (vB (F.exa z_5.fst z_5.snd.snd.fst z_5.snd.fst
  z_5.snd.snd.snd)), .own 0], (vB false)], [(901, Blk.mk false 9 1 (List.map eStr z_6.fst)), (900, Blk.mk true 0 0 [[.own 901, (vI (↑(z_6.snd.fst + F.one (F.rtm z_6.fst
  z_6.snd.snd z_6.snd.fst)) : Int)), (vB z_6.snd.snd)]]), (0, Blk.mk false 9 1 (List.map eStr (F.xs z.fst z.snd.snd.fst z.snd.fst)))], []) else Option.bind (unenc encRUri
  ([.ptr 900 0 0], [(901, Blk.mk false 9 1 (List.map eStr z_6.fst)), (900, Blk.mk true 0 0 [[.own 901, (vI (↑(z_6.snd.fst + F.one (F.rtm z_6.fst z_6.snd.snd z_6.snd.fst)) :
  Int)), (vB z_6.snd.snd)]])])) fun (z_7 : List ByteArray × Nat × Bool) => bif decide (z_7.snd.fst ≤ (600000 : Nat)) && decide (List.length z_7.fst ≤ (600000 : Nat)) then
  some (AV.tup [AV.agg [(vS (bif F.ruri z_7.fst z_7.snd.snd z_7.snd.fst then F.lAt z_7.fst z_7.snd.fst else ByteArray.mk (Array.mk []))), (vI (bif F.rtm z_6.fst z_6.snd.snd
  z_6.snd.fst then F.rmV (F.behV z_6.fst z_6.snd.fst F.kTimS) else (0 : Int))), (vB (F.exa z_1.fst z_1.snd.snd.fst z_1.snd.fst z_1.snd.snd.snd)), (vI (-1 : Int)), (vS (bif
  F.beh z_3.fst z_3.snd.snd.fst z_3.snd.fst z_3.snd.snd.snd then F.behV z_3.fst z_3.snd.fst z_3.snd.snd.snd else ByteArray.mk (Array.mk []))), (vB (F.exa z_5.fst
  z_5.snd.snd.fst z_5.snd.fst z_5.snd.snd.snd)), .own 0], (vB (F.ruri z_7.fst z_7.snd.snd z_7.snd.fst))], [(901, Blk.mk false 9 1 (List.map eStr z_7.fst)), (900, Blk.mk true
  0 0 [[.own 901, (vI (↑(z_7.snd.fst + F.one (F.ruri z_7.fst z_7.snd.snd z_7.snd.fst)) : Int)), (vB z_7.snd.snd)]]), (0, Blk.mk false 9 1 (List.map eStr (F.xs z.fst
  z.snd.snd.fst z.snd.fst)))], []) else none else none else none else some (AV.tup [AV.agg [(vS (ByteArray.mk (Array.mk []))), (vI (0 : Int)), (vB (F.exa z_1.fst
  z_1.snd.snd.fst z_1.snd.fst z_1.snd.snd.snd)), (vI (-1 : Int)), (vS z.snd.snd.snd), (vB false), .own 0], (vB false)], [(901, Blk.mk false 9 1 (List.map eStr z_3.fst)),
  (900, Blk.mk true 0 0 [[.own 901, (vI (IntKind.wrap IntKind.i64 ((↑(z_3.snd.fst + F.one (F.beh z_3.fst z_3.snd.snd.fst z_3.snd.fst z_3.snd.snd.snd)) : Int) - (1 : Int)))),
  (vB z_3.snd.snd.fst)]]), (0, Blk.mk false 9 1 (List.map eStr (F.xs z.fst z.snd.snd.fst z.snd.fst)))], []) else Option.bind (unenc encRExa ([.ptr 900 0 0, (vS (ByteArray.mk
  (Array.mk [(35 : UInt8), (71 : UInt8), (65 : UInt8), (80 : UInt8)])))], [(901, Blk.mk false 9 1 (List.map eStr z_3.fst)), (900, Blk.mk true 0 0 [[.own 901, (vI
  (↑(z_3.snd.fst + F.one (F.beh z_3.fst z_3.snd.snd.fst z_3.snd.fst z_3.snd.snd.snd)) : Int)), (vB z_3.snd.snd.fst)]])])) fun (z_4 : List ByteArray × Nat × Bool × ByteArray)
  => bif decide (z_4.snd.fst ≤ (600000 : Nat)) && decide (List.length z_4.fst ≤ (600000 : Nat)) then Option.bind (unenc encTim ([.ptr 900 0 0], [(901, Blk.mk false 9 1
  (List.map eStr z_4.fst)), (900, Blk.mk true 0 0 [[.own 901, (vI (↑(z_4.snd.fst + F.one (F.exa z_4.fst z_4.snd.snd.fst z_4.snd.fst z_4.snd.snd.snd)) : Int)), (vB
  z_4.snd.snd.fst)]])])) fun (z_5 : List ByteArray × Nat × Bool) => bif decide (z_5.snd.fst ≤ (600000 : Nat)) && F.lsOk z_5.fst then bif !F.rtm z_5.fst z_5.snd.snd
  z_5.snd.fst then some (AV.tup [AV.agg [(vS (ByteArray.mk (Array.mk []))), (vI (bif F.rtm z_5.fst z_5.snd.snd z_5.snd.fst then F.rmV (F.behV z_5.fst z_5.snd.fst F.kTimS)
  else (0 : Int))), (vB (F.exa z_1.fst z_1.snd.snd.fst z_1.snd.fst z_1.snd.snd.snd)), (vI (-1 : Int)), (vS z.snd.snd.snd), (vB (F.exa z_4.fst z_4.snd.snd.fst z_4.snd.fst
  z_4.snd.snd.snd)), .own 0], (vB false)], [(901, Blk.mk false 9 1 (List.map eStr z_5.fst)), (900, Blk.mk true 0 0 [[.own 901, (vI (↑(z_5.snd.fst + F.one (F.rtm z_5.fst
  z_5.snd.snd z_5.snd.fst)) : Int)), (vB z_5.snd.snd)]]), (0, Blk.mk false 9 1 (List.map eStr (F.xs z.fst z.snd.snd.fst z.snd.fst)))], []) else Option.bind (unenc encRUri
  ([.ptr 900 0 0], [(901, Blk.mk false 9 1 (List.map eStr z_5.fst)), (900, Blk.mk true 0 0 [[.own 901, (vI (↑(z_5.snd.fst + F.one (F.rtm z_5.fst z_5.snd.snd z_5.snd.fst)) :
  Int)), (vB z_5.snd.snd)]])])) fun (z_6 : List ByteArray × Nat × Bool) => bif decide (z_6.snd.fst ≤ (600000 : Nat)) && decide (List.length z_6.fst ≤ (600000 : Nat)) then
  some (AV.tup [AV.agg [(vS (bif F.ruri z_6.fst z_6.snd.snd z_6.snd.fst then F.lAt z_6.fst z_6.snd.fst else ByteArray.mk (Array.mk []))), (vI (bif F.rtm z_5.fst z_5.snd.snd
  z_5.snd.fst then F.rmV (F.behV z_5.fst z_5.snd.fst F.kTimS) else (0 : Int))), (vB (F.exa z_1.fst z_1.snd.snd.fst z_1.snd.fst z_1.snd.snd.snd)), (vI (-1 : Int)), (vS
  z.snd.snd.snd), (vB (F.exa z_4.fst z_4.snd.snd.fst z_4.snd.fst z_4.snd.snd.snd)), .own 0], (vB (F.ruri z_6.fst z_6.snd.snd z_6.snd.fst))], [(901, Blk.mk false 9 1
  (List.map eStr z_6.fst)), (900, Blk.mk true 0 0 [[.own 901, (vI (↑(z_6.snd.fst + F.one (F.ruri z_6.fst z_6.snd.snd z_6.snd.fst)) : Int)), (vB z_6.snd.snd)]]), (0, Blk.mk
  false 9 1 (List.map eStr (F.xs z.fst z.snd.snd.fst z.snd.fst)))], []) else none else none else none else none else none else none else none := (runHR_val).symm.trans (by kernel_rfl)

def encREn1 (ls : List ByteArray) (a : Nat) (op : Bool) (key : ByteArray) : List AV × Heap := ([.ptr 900 0 0, vS key], [(901, ⟨false, 9, 1, ls.map eStr⟩), (900, ⟨true, 0, 0, [[.own 901, vI a, vB op]]⟩)])

def encREn (a : (List ByteArray) × Nat × Bool × ByteArray) : List AV × Heap := encREn1 a.1 a.2.1 a.2.2.1 a.2.2.2

theorem encREn_inj (a a' : (List ByteArray) × Nat × Bool × ByteArray) (h : encREn a = encREn a') : a = a' := by
  simp only [encREn, encREn1] at h
  try simp [strs_inj, ints_inj, ents_inj, eEnt_iff, eLst_iff, eSnds_inj, eStrms_inj] at h
  grind

theorem unREn (ls : List ByteArray) (a : Nat) (op : Bool) (key : ByteArray) : unenc encREn (([.ptr 900 0 0, (vS key)], [(901, Blk.mk false 9 1 (List.map eStr ls)), (900, Blk.mk true 0 0 [[.own 901, (vI (↑a : Int)), (vB op)]])])) = some (ls, a, op, key) := unenc_of encREn_inj (ls, a, op, key) rfl

def resREn1 (ls : List ByteArray) (a : Nat) (op : Bool) (key : ByteArray) : AV × Heap × List Nat := (.tup [.agg [vS (F.s0 key ls op a (F.noE key)).2.2.uri, vI (F.s0 key ls op a (F.noE key)).2.2.milli, vB (F.s0 key ls op a (F.noE key)).2.2.brk, vI (F.s0 key ls op a (F.noE key)).2.2.date, vS (F.s0 key ls op a (F.noE key)).2.2.key, vB (F.s0 key ls op a (F.noE key)).2.2.gap, .own 0], vB (F.s0 key ls op a (F.noE key)).1], [(901, ⟨false, 9, 1, ls.map eStr⟩), (900, ⟨true, 0, 0, [[.own 901, vI ((F.s0 key ls op a (F.noE key)).2.1 : Nat), vB op]]⟩), (0, ⟨false, 9, 1, (F.s0 key ls op a (F.noE key)).2.2.extra.map eStr⟩)], [])

def preREn1 (ls : List ByteArray) (a : Nat) (op : Bool) (key : ByteArray) : Bool := decide (a ≤ ls.length) && F.lsOk ls

noncomputable def oREn : OrcH := orcH 28 encREn (fun a => preREn1 a.1 a.2.1 a.2.2.1 a.2.2.2) fun a => resREn1 a.1 a.2.1 a.2.2.1 a.2.2.2

theorem okREn : OrcHOK Tryd.prog noG oREn := by
  refine mkH_ok (mv := []) Tryd.f28 (by kernel_rfl) (by kernel_rfl) enRn_ok mixed (one_loop (x0 := loopN Tryd.f28 0) (by kernel_rfl) (lpo_ok ?_)) ?_
  · rintro ⟨ls, a, op, key⟩ hp
    exact lpRn_ok ls a op key hp
  rintro ⟨ls, a, op, key⟩ hpre hok hokh
  show (runH enRn [] _ (encREn1 _ _ _ _).1 (encREn1 _ _ _ _).2).val = some (resREn1 _ _ _ _)
  unfold encREn1 resREn1
  rw [evREn]
  simp only [preREn1, Bool.and_eq_true, decide_eq_true_eq] at hpre
  obtain ⟨h1, h2⟩ := hpre
  have hl := F.lsOk_len h2
  have hx := F.xs_len ls op _ a (Nat.le_refl _) h1
  simp only [unRMor, unHasPre, unRDa, unPrn, unRExa, unBeh, unTim, unRUri, preRMor1, preHasPre1, preRDa1, prePrn1, preRExa1, preBeh1, preTim1, preRUri1, unstRn, prlRn, outRn, etaEnt, etaLst, etaSnd, etaStrm, etaMas, Option.bind_some, List.length_map, unStrs, unInts, unBools, unEnts, unItms, unTrns, cond_true, cond_false, Bool.and_true, Bool.true_and, decide_eq_true h1, h2]
  have qB : (⟨⟨[35, 66, 82, 69, 65, 75]⟩⟩ : ByteArray) = F.kBrk := rfl
  have qD : (⟨⟨[35, 68, 65, 84, 69, 32]⟩⟩ : ByteArray) = F.kDatS := rfl
  have qK : (⟨⟨[35, 75, 69, 89, 32]⟩⟩ : ByteArray) = F.kKeyS := rfl
  have qG : (⟨⟨[35, 71, 65, 80]⟩⟩ : ByteArray) = F.kGap := rfl
  have qm : (⟨⟨[45]⟩⟩ : ByteArray) = F.dash := rfl
  have qs : ∀ x y : ByteArray, (x.toList == y.toList) = F.seq x y := fun _ _ => rfl
  have qe : ∀ x : ByteArray, F.seq x ⟨⟨[]⟩⟩ = !decide (x.size ≠ 0) := fun x => by rw [← F.empty_eq]; rfl
  unfold F.s0
  generalize hx1 : a + (F.xs ls op a).length = a1 at *
  generalize F.xs ls op a = X at *
  rw [qB, qD, qK, qG, qm, F.s1_eq _ _ _ _ _ rfl]
  clear qB qD qK qG qm hok hokh
  generalize F.exa ls op a1 F.kBrk = B
  have hB := F.one_b B
  generalize ha2 : a1 + F.one B = a2
  have b2 : a2 ≤ 500001 := by omega
  rw [decide_eq_true (by omega : a1 ≤ 600000), decide_eq_true (by omega : ls.length ≤ 600000), decide_eq_true (by omega : a2 ≤ 600000)]
  unfold F.s2
  cases hD : F.beh ls op a2 F.kDatS
  · rw [F.one_f, Nat.add_zero]
    simp only [cond_false, cond_true, qs, Bool.true_and, Bool.and_true]
    generalize ha3 : a2 = a3
    have b3 : a3 ≤ 600000 := by omega
    have b3' : a3 ≤ 500002 := by omega
    rw [decide_eq_true b3]
    unfold F.s3
    cases hK : F.beh ls op a3 F.kKeyS
    · rw [F.one_f, Nat.add_zero]
      simp only [cond_false]
      generalize ha4 : a3 = a4
      have b4 : a4 ≤ 500003 := by omega
      rw [F.s4_eq _ _ _ _ rfl]
      generalize F.exa ls op a4 F.kGap = G
      have hG := F.one_b G
      generalize ha5 : a4 + F.one G = a5
      rw [decide_eq_true (by omega : a4 ≤ 600000), decide_eq_true (by omega : a5 ≤ 600000)]
      unfold F.s5
      cases F.rtm ls op a5
      · rfl
      rw [F.one_t]
      simp only [cond_true, Bool.not_true, cond_false, Bool.true_and]
      rw [decide_eq_true (by omega : a5 + 1 ≤ 600000)]
      unfold F.s6
      cases F.ruri ls op (a5 + 1) <;> rfl
    · rw [F.one_t]
      simp only [cond_true]
      have hv := F.undash_eq (F.behV ls a3 F.kKeyS)
      unfold F.keyB
      rw [qe, F.wsub b3, hv]
      generalize F.behV ls a3 F.kKeyS = v
      generalize ha4 : a3 + 1 = a4
      have b4 : a4 ≤ 500003 := by omega
      cases decide (v.size ≠ 0)
      · cases F.seq v F.dash <;> rfl
      cases F.vis v 33
      · cases F.seq v F.dash <;> rfl
      cases hm : F.seq v F.dash
      · simp only [cond_false, Bool.not_true, Bool.not_false, Bool.true_and, cond_true]
        cases F.seq v key
        · simp only [cond_false, Bool.not_false, cond_true]
          rw [F.s4_eq _ _ _ _ rfl]
          generalize F.exa ls op a4 F.kGap = G
          have hG := F.one_b G
          generalize ha5 : a4 + F.one G = a5
          rw [decide_eq_true (by omega : a4 ≤ 600000), decide_eq_true (by omega : a5 ≤ 600000)]
          unfold F.s5
          cases F.rtm ls op a5
          · rfl
          rw [F.one_t]
          simp only [cond_true, Bool.not_true, cond_false, Bool.true_and]
          rw [decide_eq_true (by omega : a5 + 1 ≤ 600000)]
          unfold F.s6
          cases F.ruri ls op (a5 + 1) <;> rfl
        · rfl
      · simp only [cond_false, Bool.not_true, Bool.not_false, Bool.true_and, cond_true]
        cases F.seq ⟨⟨[]⟩⟩ key
        · simp only [cond_false, Bool.not_false, cond_true]
          rw [F.s4_eq _ _ _ _ rfl]
          generalize F.exa ls op a4 F.kGap = G
          have hG := F.one_b G
          generalize ha5 : a4 + F.one G = a5
          rw [decide_eq_true (by omega : a4 ≤ 600000), decide_eq_true (by omega : a5 ≤ 600000)]
          unfold F.s5
          cases F.rtm ls op a5
          · rfl
          rw [F.one_t]
          simp only [cond_true, Bool.not_true, cond_false, Bool.true_and]
          rw [decide_eq_true (by omega : a5 + 1 ≤ 600000)]
          unfold F.s6
          cases F.ruri ls op (a5 + 1) <;> rfl
        · rfl
  · rw [F.one_t]
    simp only [cond_true, qs, Bool.true_and, Bool.and_true]
    cases F.dtOk (F.behV ls a2 F.kDatS)
    · rw [F.wsub (by omega : a2 ≤ 600000)]
      rfl
    generalize F.dtV (F.behV ls a2 F.kDatS) = dd
    generalize ha3 : a2 + 1 = a3
    have b3 : a3 ≤ 600000 := by omega
    have b3' : a3 ≤ 500002 := by omega
    rw [decide_eq_true b3]
    unfold F.s3
    cases hK : F.beh ls op a3 F.kKeyS
    · rw [F.one_f, Nat.add_zero]
      simp only [cond_false]
      generalize ha4 : a3 = a4
      have b4 : a4 ≤ 500003 := by omega
      rw [F.s4_eq _ _ _ _ rfl]
      generalize F.exa ls op a4 F.kGap = G
      have hG := F.one_b G
      generalize ha5 : a4 + F.one G = a5
      rw [decide_eq_true (by omega : a4 ≤ 600000), decide_eq_true (by omega : a5 ≤ 600000)]
      unfold F.s5
      cases F.rtm ls op a5
      · rfl
      rw [F.one_t]
      simp only [cond_true, Bool.not_true, cond_false, Bool.true_and]
      rw [decide_eq_true (by omega : a5 + 1 ≤ 600000)]
      unfold F.s6
      cases F.ruri ls op (a5 + 1) <;> rfl
    · rw [F.one_t]
      simp only [cond_true]
      have hv := F.undash_eq (F.behV ls a3 F.kKeyS)
      unfold F.keyB
      rw [qe, F.wsub b3, hv]
      generalize F.behV ls a3 F.kKeyS = v
      generalize ha4 : a3 + 1 = a4
      have b4 : a4 ≤ 500003 := by omega
      cases decide (v.size ≠ 0)
      · cases F.seq v F.dash <;> rfl
      cases F.vis v 33
      · cases F.seq v F.dash <;> rfl
      cases hm : F.seq v F.dash
      · simp only [cond_false, Bool.not_true, Bool.not_false, Bool.true_and, cond_true]
        cases F.seq v key
        · simp only [cond_false, Bool.not_false, cond_true]
          rw [F.s4_eq _ _ _ _ rfl]
          generalize F.exa ls op a4 F.kGap = G
          have hG := F.one_b G
          generalize ha5 : a4 + F.one G = a5
          rw [decide_eq_true (by omega : a4 ≤ 600000), decide_eq_true (by omega : a5 ≤ 600000)]
          unfold F.s5
          cases F.rtm ls op a5
          · rfl
          rw [F.one_t]
          simp only [cond_true, Bool.not_true, cond_false, Bool.true_and]
          rw [decide_eq_true (by omega : a5 + 1 ≤ 600000)]
          unfold F.s6
          cases F.ruri ls op (a5 + 1) <;> rfl
        · rfl
      · simp only [cond_false, Bool.not_true, Bool.not_false, Bool.true_and, cond_true]
        cases F.seq ⟨⟨[]⟩⟩ key
        · simp only [cond_false, Bool.not_false, cond_true]
          rw [F.s4_eq _ _ _ _ rfl]
          generalize F.exa ls op a4 F.kGap = G
          have hG := F.one_b G
          generalize ha5 : a4 + F.one G = a5
          rw [decide_eq_true (by omega : a4 ≤ 600000), decide_eq_true (by omega : a5 ≤ 600000)]
          unfold F.s5
          cases F.rtm ls op a5
          · rfl
          rw [F.one_t]
          simp only [cond_true, Bool.not_true, cond_false, Bool.true_and]
          rw [decide_eq_true (by omega : a5 + 1 ≤ 600000)]
          unfold F.s6
          cases F.ruri ls op (a5 + 1) <;> rfl
        · rfl

end M
end Go.Proofs.YtllagmepnmdeoaaDoor
