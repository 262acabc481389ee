/- What is proved here: the loop of Short of the program (no statement of the seat). -/
import Derived.Test.YthcfbeckhgngiaaDoorC145
namespace Go.Proofs.YthcfbeckhgngiaaDoor
open Go Go.RowKit
set_option linter.unusedVariables false
set_option linter.unusedSimpArgs false

/-- What a builder holds at last. -/
def F.shO (o : Option ByteArray) : List Cap → Nat → Option ByteArray
  | [], _ => o
  | c :: r, i => F.shO (some (M.bldS o ++ F.shT i c)) r (i + 1)

def F.isN (o : Option ByteArray) : Bool := o.isNone

theorem F.shO_some : ∀ (m : List Cap) (s : ByteArray) (i : Nat), F.shO (some s) m i = some (F.shW m i s)
  | [], s, i => rfl
  | c :: r, s, i => by
    rw [F.shO, F.shO_some r, F.shW]
    rfl

theorem F.shW_size : ∀ {m : List Cap} {s : ByteArray} {i : Nat}, (∀ c ∈ m, F.capW c = true) → i + m.length ≤ 500 → (F.shW m i s).size ≤ s.size + 4000 * m.length
  | [], s, i, _, _ => by rw [F.shW]; exact Nat.le_add_right _ _
  | c :: r, s, i, h, hl => by
    rw [List.length_cons] at hl
    have h1 := F.shT_size (i := i) (h c (List.mem_cons_self ..)) (by omega)
    have h2 := F.shW_size (m := r) (s := s ++ F.shT i c) (i := i + 1) (fun d hd => h d (List.mem_cons_of_mem _ hd)) (by omega)
    rw [F.shW, List.length_cons]
    rw [ByteArray.size_append] at h2
    omega

namespace M

def hB (o : Option ByteArray) : Heap := match o with
  | none => [(5, ⟨true, 52, 0, [[.v (.pointer none), .v (.slice none 0 0)]]⟩)]
  | some s => [(45000, ⟨false, 5, 1, eUs s⟩), (5, ⟨true, 52, 0, [[.ptr 5 0 0, .own 45000]]⟩)]

def stShp (l : List Cap) (k : Nat) : St := ⟨[(15, vI k), (14, vI l.length), (13, .sl (l.map eCap)), (5, .ptr 5 0 0)], [(5, ⟨true, 52, 0, [[.v (.pointer none), .v (.slice none 0 0)]]⟩)]⟩

def stShp1 (a : (List Cap) × Nat) : St := stShp a.1 a.2

theorem stShp_inj (a a' : (List Cap) × Nat) (h : stShp1 a = stShp1 a') : a = a' := by
  simp only [stShp1, stShp] at h
  try simp [strs_inj, ints_inj, bools_inj, eL_eIs_inj, eCaps_inj, eCap_iff, eL_eCaps_inj, eMchs_inj, eMch_iff, eWrds_inj, eWrd_iff, eFnds_inj, eFnd_iff, eRatios_inj, eRatio_iff, eWays_inj, eWay_iff] at h
  grind

theorem unstShp (l : List Cap) (k : Nat) : unenc stShp1 (St.mk [(15, (vI (↑k : Int))), (14, (vI (↑(List.length l) : Int))), (13, AV.sl (List.map eCap l)), (5, .ptr 5 0 0)] [(5, Blk.mk true 52 0 [[AV.v (Value.pointer none), AV.v
  (Value.slice none (0 : Nat) (0 : Nat))]])]) = some (l, k) := unenc_of stShp_inj (l, k) rfl

theorem unstShp0 (l : List Cap)  : unenc stShp1 (St.mk [(15, (vI (0 : Int))), (14, (vI (↑(List.length l) : Int))), (13, AV.sl (List.map eCap l)), (5, .ptr 5 0 0)] [(5, Blk.mk true 52 0 [[AV.v (Value.pointer none), AV.v
  (Value.slice none (0 : Nat) (0 : Nat))]])]) = some (l, 0) := unenc_of stShp_inj (l, 0) rfl

def outShp (l : List Cap) (k : Nat) : T (Ex × St) := .ifB (F.shS (l.drop k) k)
      (.ifB (F.isN (F.shO none (l.drop k) k))
        (.ret (.exit 0, ⟨[(5, .ptr 5 0 0)], [(5, ⟨true, 52, 0, [[.v (.pointer none), .v (.slice none 0 0)]]⟩)]⟩))
        (.ret (.exit 0, ⟨[(5, .ptr 5 0 0)], [(45000, ⟨false, 5, 1, eUs (bldS (F.shO none (l.drop k) k))⟩), (5, ⟨true, 52, 0, [[.ptr 5 0 0, .own 45000]]⟩)]⟩)))
      (.ret (.ret, ⟨[(3, vI 3), (2, vS ⟨⟨[]⟩⟩)], []⟩))

noncomputable def prlShp (l : List Cap) (k : Nat) : Bool := l.all F.capW && decide (l.length ≤ 500) && decide (k ≤ l.length)

noncomputable def lpShp : Nat × (St → T (Ex × St)) := (6, lpo [15, 14, 13, 5] [5] stShp1 (fun a => prlShp a.1 a.2) fun a => outShp a.1 a.2)

def outSx (l : List Cap) (o : Option ByteArray) (k : Nat) : T (Ex × St) := .ifB (F.shS (l.drop k) k)
      (.ifB (F.isN (F.shO o (l.drop k) k))
        (.ret (.exit 0, ⟨[(5, .ptr 5 0 0)], [(5, ⟨true, 52, 0, [[.v (.pointer none), .v (.slice none 0 0)]]⟩)]⟩))
        (.ret (.exit 0, ⟨[(5, .ptr 5 0 0)], [(45000, ⟨false, 5, 1, eUs (bldS (F.shO o (l.drop k) k))⟩), (5, ⟨true, 52, 0, [[.ptr 5 0 0, .own 45000]]⟩)]⟩)))
      (.ret (.ret, ⟨[(3, vI 3), (2, vS ⟨⟨[]⟩⟩)], []⟩))

def stSx (l : List Cap) (o : Option ByteArray) (k : Nat) : St := ⟨[(15, vI k), (14, vI l.length), (13, .sl (l.map eCap)), (5, .ptr 5 0 0)], hB o⟩

def stSn (l : List Cap) (k : Nat) : St := ⟨[(15, vI k), (14, vI l.length), (13, .sl (l.map eCap)), (5, .ptr 5 0 0)], [(5, ⟨true, 52, 0, [[.v (.pointer none), .v (.slice none 0 0)]]⟩)]⟩

def stSs (l : List Cap) (s : ByteArray) (k : Nat) : St := ⟨[(15, vI k), (14, vI l.length), (13, .sl (l.map eCap)), (5, .ptr 5 0 0)], [(45000, ⟨false, 5, 1, eUs s⟩), (5, ⟨true, 52, 0, [[.ptr 5 0 0, .own 45000]]⟩)]⟩

noncomputable def enShp : Env := envH ty noG lks [oChC, oIta, oTms, oJoi, oBnd] [oWst, oBst] [] [lpShp]

theorem enShp_ok : EnvOK Tryd.prog enShp := by
  refine envH_ok lks_ok ty_ok ?_ ?_
  · simp only [List.forall_mem_cons]
    exact ⟨okChC, okIta, okTms, okJoi, okBnd, by simp⟩
  · simp only [List.forall_mem_cons]
    exact ⟨okWst, okBst, by simp⟩

theorem evShpN (l : List Cap) (k : Nat) : ((exec enShp (loopN Tryd.f9 0) (stSn l k)).bind (lessX ([15, 14, 13, 5], [45000, 5]) ([5], [45000, 5]) ([3, 2], []))).val =
  bif decide ((↑k : Int) < (↑(List.length l) : Int)) then Option.bind (unenc (List.map eCap) (List.map eCap l)) fun (z : List Cap) => bif decide (k < List.length z) then bif bif bif (List.getD z k (Cap.mk (0 : Int) (0 : Int) [] (0 : Int) false false)).row != (0 : Int) then true else (List.getD z k (Cap.mk (0 : Int) (0 : Int) [] (0 : Int) false false)).bef then true else (List.getD z k (Cap.mk (0 : Int) (0 : Int) [] (0 : Int) false false)).aft then some (Ex.ret, St.mk [(3, (vI (3 : Int))), (2, (vS (ByteArray.mk (Array.mk []))))] []) else Option.bind (unenc encIta [(vI (IntKind.wrap IntKind.i64 ((↑k : Int) + (1 : Int))))]) fun (z_1 : Int) => bif decide ((-9223372036854775808 : Int) ≤ z_1) && decide (z_1 ≤ (9223372036854775807 : Int)) then bif Nat.ble (ByteArray.size (F.itoa z_1) + ByteArray.size (ByteArray.mk (Array.mk [(10 : UInt8)]))) (9223372036854775807 : Nat) then Option.bind (unenc encTms [AV.agg [(vI (List.getD z k (Cap.mk (0 : Int) (0 : Int) [] (0 : Int) false false)).fr), (vI (List.getD z k (Cap.mk (0 : Int) (0 : Int) [] (0 : Int) false false)).to), AV.sl (List.map eStr (List.getD z k (Cap.mk (0 : Int) (0 : Int) [] (0 : Int) false false)).lines), (vI (List.getD z k (Cap.mk (0 : Int) (0 : Int) [] (0 : Int) false false)).row), (vB (List.getD z k (Cap.mk (0 : Int) (0 : Int) [] (0 : Int) false false)).bef), (vB (List.getD z k (Cap.mk (0 : Int) (0 : Int) [] (0 : Int) false false)).aft)], (vS (ByteArray.mk (Array.mk [(44 : UInt8)])))]) fun (z_2 : Cap × ByteArray) => bif decide ((0 : Int) ≤ z_2.fst.fr) && decide (z_2.fst.fr ≤ (359999999 : Int)) && decide ((0 : Int) ≤ z_2.fst.to) && decide (z_2.fst.to ≤ (359999999 : Int)) && decide (ByteArray.size z_2.snd = (1 : Nat)) then bif Nat.ble (ByteArray.size (F.itoa z_1 ++ ByteArray.mk (Array.mk [(10 : UInt8)])) + ByteArray.size (F.tms z_2.fst z_2.snd)) (9223372036854775807 : Nat) then bif Nat.ble (ByteArray.size (F.itoa z_1 ++ ByteArray.mk (Array.mk [(10 : UInt8)]) ++ F.tms z_2.fst z_2.snd) + ByteArray.size (ByteArray.mk (Array.mk [(10 : UInt8)]))) (9223372036854775807 : Nat) then Option.bind (unenc encJoi [AV.sl (List.map eStr (List.getD z k (Cap.mk (0 : Int) (0 : Int) [] (0 : Int) false false)).lines), (vS (ByteArray.mk (Array.mk [(10 : UInt8)])))]) fun (z : List ByteArray × ByteArray) => bif decide (ByteArray.size (F.join z.fst z.snd) ≤ (140737488355328 : Nat)) && decide (List.length z.fst ≤ (140737488355328 : Nat)) then bif Nat.ble (ByteArray.size (F.itoa z_1 ++ ByteArray.mk (Array.mk [(10 : UInt8)]) ++ F.tms z_2.fst z_2.snd ++ ByteArray.mk (Array.mk [(10 : UInt8)])) + ByteArray.size (F.join z.fst z.snd)) (9223372036854775807 : Nat) then bif Nat.ble (ByteArray.size (F.itoa z_1 ++ ByteArray.mk (Array.mk [(10 : UInt8)]) ++ F.tms z_2.fst z_2.snd ++ ByteArray.mk (Array.mk [(10 : UInt8)]) ++ F.join z.fst z.snd) + ByteArray.size (ByteArray.mk (Array.mk [(10 : UInt8), (10 : UInt8)]))) (9223372036854775807 : Nat) then Option.bind (unenc encWst ([.ptr 900 0 0, (vS (F.itoa z_1 ++ ByteArray.mk (Array.mk [(10 : UInt8)]) ++ F.tms z_2.fst z_2.snd ++ ByteArray.mk (Array.mk [(10 : UInt8)]) ++ F.join z.fst z.snd ++ ByteArray.mk (Array.mk [(10 : UInt8), (10 : UInt8)])))], [(900, Blk.mk true 52 0 [[AV.v (Value.pointer none), AV.v (Value.slice none (0 : Nat) (0 : Nat))]])])) fun (z : Option ByteArray × ByteArray) => bif decide (bldLen z.fst + ByteArray.size z.snd ≤ (140737488355328 : Nat)) then bif match z.fst with | some val => false | none => true then some (Ex.normal, St.mk [(15, (vI (IntKind.wrap IntKind.i64 ((↑k : Int) + (1 : Int))))), (14, (vI (↑(List.length l) : Int))), (13, AV.sl (List.map eCap l)), (5, .ptr 5 0 0)] [(45000, Blk.mk false 5 1 (List.map eU z.snd.data.1)), (5, Blk.mk true 52 0 [[AV.ptr ((5 : Nat)) (0 : Nat) (0 : Nat), .own 45000]])]) else none else none else none else none else none else none else none else none else none else none else none else some (Ex.exit (0 : Nat), St.mk [(5, .ptr 5 0 0)] [(5, Blk.mk true 52 0 [[AV.v (Value.pointer none), AV.v (Value.slice none (0 : Nat) (0 : Nat))]])]) := (execR_bind _ _ _).symm.trans (by kernel_rfl)

theorem evShpS (l : List Cap) (s : ByteArray) (k : Nat) : ((exec enShp (loopN Tryd.f9 0) (stSs l s k)).bind (lessX ([15, 14, 13, 5], [45000, 5]) ([5], [45000, 5]) ([3, 2], []))).val =
  bif decide ((↑k : Int) < (↑(List.length l) : Int)) then Option.bind (unenc (List.map eCap) (List.map eCap l)) fun (z : List Cap) => bif decide (k < List.length z) then bif bif bif (List.getD z k (Cap.mk (0 : Int) (0 : Int) [] (0 : Int) false false)).row != (0 : Int) then true else (List.getD z k (Cap.mk (0 : Int) (0 : Int) [] (0 : Int) false false)).bef then true else (List.getD z k (Cap.mk (0 : Int) (0 : Int) [] (0 : Int) false false)).aft then some (Ex.ret, St.mk [(3, (vI (3 : Int))), (2, (vS (ByteArray.mk (Array.mk []))))] []) else Option.bind (unenc encIta [(vI (IntKind.wrap IntKind.i64 ((↑k : Int) + (1 : Int))))]) fun (z_1 : Int) => bif decide ((-9223372036854775808 : Int) ≤ z_1) && decide (z_1 ≤ (9223372036854775807 : Int)) then bif Nat.ble (ByteArray.size (F.itoa z_1) + ByteArray.size (ByteArray.mk (Array.mk [(10 : UInt8)]))) (9223372036854775807 : Nat) then Option.bind (unenc encTms [AV.agg [(vI (List.getD z k (Cap.mk (0 : Int) (0 : Int) [] (0 : Int) false false)).fr), (vI (List.getD z k (Cap.mk (0 : Int) (0 : Int) [] (0 : Int) false false)).to), AV.sl (List.map eStr (List.getD z k (Cap.mk (0 : Int) (0 : Int) [] (0 : Int) false false)).lines), (vI (List.getD z k (Cap.mk (0 : Int) (0 : Int) [] (0 : Int) false false)).row), (vB (List.getD z k (Cap.mk (0 : Int) (0 : Int) [] (0 : Int) false false)).bef), (vB (List.getD z k (Cap.mk (0 : Int) (0 : Int) [] (0 : Int) false false)).aft)], (vS (ByteArray.mk (Array.mk [(44 : UInt8)])))]) fun (z_2 : Cap × ByteArray) => bif decide ((0 : Int) ≤ z_2.fst.fr) && decide (z_2.fst.fr ≤ (359999999 : Int)) && decide ((0 : Int) ≤ z_2.fst.to) && decide (z_2.fst.to ≤ (359999999 : Int)) && decide (ByteArray.size z_2.snd = (1 : Nat)) then bif Nat.ble (ByteArray.size (F.itoa z_1 ++ ByteArray.mk (Array.mk [(10 : UInt8)])) + ByteArray.size (F.tms z_2.fst z_2.snd)) (9223372036854775807 : Nat) then bif Nat.ble (ByteArray.size (F.itoa z_1 ++ ByteArray.mk (Array.mk [(10 : UInt8)]) ++ F.tms z_2.fst z_2.snd) + ByteArray.size (ByteArray.mk (Array.mk [(10 : UInt8)]))) (9223372036854775807 : Nat) then Option.bind (unenc encJoi [AV.sl (List.map eStr (List.getD z k (Cap.mk (0 : Int) (0 : Int) [] (0 : Int) false false)).lines), (vS (ByteArray.mk (Array.mk [(10 : UInt8)])))]) fun (z : List ByteArray × ByteArray) => bif decide (ByteArray.size (F.join z.fst z.snd) ≤ (140737488355328 : Nat)) && decide (List.length z.fst ≤ (140737488355328 : Nat)) then bif Nat.ble (ByteArray.size (F.itoa z_1 ++ ByteArray.mk (Array.mk [(10 : UInt8)]) ++ F.tms z_2.fst z_2.snd ++ ByteArray.mk (Array.mk [(10 : UInt8)])) + ByteArray.size (F.join z.fst z.snd)) (9223372036854775807 : Nat) then bif Nat.ble (ByteArray.size (F.itoa z_1 ++ ByteArray.mk (Array.mk [(10 : UInt8)]) ++ F.tms z_2.fst z_2.snd ++ ByteArray.mk (Array.mk [(10 : UInt8)]) ++ F.join z.fst z.snd) + ByteArray.size (ByteArray.mk (Array.mk [(10 : UInt8), (10 : UInt8)]))) (9223372036854775807 : Nat) then Option.bind (unenc encWst ([.ptr 900 0 0, (vS (F.itoa z_1 ++ ByteArray.mk (Array.mk [(10 : UInt8)]) ++ F.tms z_2.fst z_2.snd ++ ByteArray.mk (Array.mk [(10 : UInt8)]) ++ F.join z.fst z.snd ++ ByteArray.mk (Array.mk [(10 : UInt8), (10 : UInt8)])))], [(901, Blk.mk false 5 1 (List.map eU s.data.1)), (900, Blk.mk true 52 0 [[.ptr 900 0 0, .own 901]])])) fun (z : Option ByteArray × ByteArray) => bif decide (bldLen z.fst + ByteArray.size z.snd ≤ (140737488355328 : Nat)) then bif match z.fst with | some val => false | none => true then none else some (Ex.normal, St.mk [(15, (vI (IntKind.wrap IntKind.i64 ((↑k : Int) + (1 : Int))))), (14, (vI (↑(List.length l) : Int))), (13, AV.sl (List.map eCap l)), (5, .ptr 5 0 0)] [(45000, Blk.mk false 5 1 (List.map eU ((match z.fst with | none => ByteArray.mk (Array.mk []) | some s => s).data.1 ++ z.snd.data.1))), (5, Blk.mk true 52 0 [[AV.ptr ((5 : Nat)) (0 : Nat) (0 : Nat), AV.own ((45000 : Nat))]])]) else none else none else none else none else none else none else none else none else none else none else some (Ex.exit (0 : Nat), St.mk [(5, .ptr 5 0 0)] [(45000, Blk.mk false 5 1 (List.map eU s.data.1)), (5, Blk.mk true 52 0 [[.ptr 5 0 0, .own 45000]])]) := (execR_bind _ _ _).symm.trans (by kernel_rfl)

theorem lpShp_ok (l : List Cap) (k : Nat) (hp : prlShp l k = true) : ∀ ex s', (outShp l k).val = some (ex, s') → LoopOK enShp (loopN Tryd.f9 0) (stShp l k) ex s' := by
  simp only [prlShp, Bool.and_eq_true, decide_eq_true_eq] at hp
  obtain ⟨⟨h1, h2⟩, h3⟩ := hp
  have hw := List.all_eq_true.1 h1
  have hx : l.length ≤ 9223372036854775807 := by omega
  refine loop_gen (st := fun b : Option ByteArray × Nat => stSx l b.1 b.2) (out := fun b => outSx l b.1 b.2) (I := fun b => b.2 ≤ l.length ∧ bldLen b.1 ≤ 4000 * b.2) (n := ([15, 14, 13, 5], [45000, 5])) (e := ([5], [45000, 5])) (r := ([3, 2], [])) (fun b => l.length - b.2) ?_ (none, k) ⟨h3, Nat.zero_le _⟩
  rintro ⟨o, k⟩ ⟨i1, i2⟩
  simp only at i1 i2
  by_cases hlt : k < l.length
  · have hy : l[k]? = some l[k] := List.getElem?_eq_getElem hlt
    generalize l[k] = y at hy
    have hd := drop_q hy
    have hc := hw y (List.mem_of_getElem? hy)
    obtain ⟨c1, c2, c3, c4, c5, c6, c7, c8, c9⟩ := F.capW_spec hc
    have eb : (bif bif y.row != 0 then true else y.bef then true else y.aft) = F.shB y := by
      unfold F.shB
      cases (y.row != 0) <;> cases y.bef <;> rfl
    obtain ⟨m, hm⟩ : ∃ m : Int, m = ((k + 1 : Nat) : Int) := ⟨_, rfl⟩
    have w1 : IntKind.i64.wrap ((k : Int) + 1) = m := by rw [wrap_id (by omega) (by omega), hm]; rfl
    have z1 := F.itoa_size (n := m) (by omega) (by omega)
    have z2 := F.tms_size hc (show (ByteArray.mk (Array.mk [44])).size = 1 from rfl)
    have z3 : (F.join y.lines (ByteArray.mk (Array.mk [10]))).size ≤ 3015 := F.join_nl_size c8 c7 fun x hx => F.line_size (c9 x hx)
    have z4 : (ByteArray.mk (Array.mk [10])).size = 1 := rfl
    have z5 : (ByteArray.mk (Array.mk [10, 10])).size = 2 := rfl
    have z6 : decide ((ByteArray.mk (Array.mk [44])).size = 1) = true := rfl
    have hT : F.itoa m ++ ByteArray.mk (Array.mk [10]) ++ F.tms y (ByteArray.mk (Array.mk [44])) ++ ByteArray.mk (Array.mk [10]) ++ F.join y.lines (ByteArray.mk (Array.mk [10])) ++ ByteArray.mk (Array.mk [10, 10]) = F.shT k y := by rw [hm]; rfl
    obtain ⟨s1, s2⟩ := F.shT_size (i := k) hc (by omega)
    cases hB : F.shB y
    · right
      refine ⟨(some (bldS o ++ F.shT k y), k + 1), ?_, rfl, ⟨by simp only; omega, ?_⟩, by simp only; omega, ?_⟩
      · cases o with
        | none =>
          have e0 : bldS none ++ F.shT k y = F.shT k y := F.bsx (by rw [F.bs_app]; rfl)
          rw [e0]
          show ((exec enShp (loopN Tryd.f9 0) (stSn l k)).bind _).val = some (_, stSs l (F.shT k y) (k + 1))
          rw [evShpN]
          simp only [unChC, unIta, unTms, unJoi, unBnd, unWst, unBst, unTmsw, preChC1, preIta1, preTms1, preJoi1, preBnd1, preWst1, preBst1, unstShp, unstShp0, prlShp, outShp, etaCap, etaMch, etaWrd, etaFnd, etaRatio, etaWay, Option.bind_some, List.length_map, unStrs, unInts, unBools, uneL_eIs, unCaps, uneL_eCaps, unMchs, unWrds, unFnds, unRatios, unWays, F.lt, F.le, cond_true, cond_false, Bool.and_true, Bool.true_and, unWstU, unBstU, cast_lt hlt, decide_eq_true hlt, getD_at hy, eb, hB, w1, decide_eq_true c1, decide_eq_true c2, decide_eq_true c3, decide_eq_true c4, z6, ByteArray.size_append]
          simp only [← ByteArray.size_append, hT]
          simp only [ByteArray.size_append, z2, z4, z5]
          rw [decide_eq_true (show -9223372036854775808 ≤ m by omega), decide_eq_true (show m ≤ 9223372036854775807 by omega), ble_t (by omega), ble_t (by omega), ble_t (by omega), ble_t (by omega), ble_t (by omega), decide_eq_true (show (F.join y.lines (ByteArray.mk (Array.mk [10]))).size ≤ 140737488355328 by omega), decide_eq_true (show y.lines.length ≤ 140737488355328 by omega), decide_eq_true (show bldLen none + (F.shT k y).size ≤ 140737488355328 by simp only [bldLen] at i2 ⊢; omega)]
          rw [hm]
          rfl
        | some s =>
          show ((exec enShp (loopN Tryd.f9 0) (stSs l s k)).bind _).val = some (_, stSs l (s ++ F.shT k y) (k + 1))
          rw [evShpS]
          simp only [unChC, unIta, unTms, unJoi, unBnd, unWst, unBst, unTmsw, preChC1, preIta1, preTms1, preJoi1, preBnd1, preWst1, preBst1, unstShp, unstShp0, prlShp, outShp, etaCap, etaMch, etaWrd, etaFnd, etaRatio, etaWay, Option.bind_some, List.length_map, unStrs, unInts, unBools, uneL_eIs, unCaps, uneL_eCaps, unMchs, unWrds, unFnds, unRatios, unWays, F.lt, F.le, cond_true, cond_false, Bool.and_true, Bool.true_and, unWstU, unBstU, cast_lt hlt, decide_eq_true hlt, getD_at hy, eb, hB, w1, decide_eq_true c1, decide_eq_true c2, decide_eq_true c3, decide_eq_true c4, z6, ByteArray.size_append]
          simp only [← ByteArray.size_append, hT]
          simp only [ByteArray.size_append, z2, z4, z5]
          rw [decide_eq_true (show -9223372036854775808 ≤ m by omega), decide_eq_true (show m ≤ 9223372036854775807 by omega), ble_t (by omega), ble_t (by omega), ble_t (by omega), ble_t (by omega), ble_t (by omega), decide_eq_true (show (F.join y.lines (ByteArray.mk (Array.mk [10]))).size ≤ 140737488355328 by omega), decide_eq_true (show y.lines.length ≤ 140737488355328 by omega), decide_eq_true (show bldLen (some s) + (F.shT k y).size ≤ 140737488355328 by simp only [bldLen] at i2 ⊢; omega)]
          rw [hm]
          rfl
      · simp only [bldLen, ByteArray.size_append]
        have : (bldS o).size = bldLen o := by cases o <;> rfl
        omega
      · simp only [outSx, hd, F.shS, hB, F.shO, Bool.not_false, Bool.true_and]
    · left
      refine ⟨(.ret, ⟨[(3, vI 3), (2, vS ⟨⟨[]⟩⟩)], []⟩), ?_, ?_, by simp, rfl⟩
      · cases o with
        | none =>
          show ((exec enShp (loopN Tryd.f9 0) (stSn l k)).bind _).val = _
          rw [evShpN]
          simp only [unChC, unIta, unTms, unJoi, unBnd, unWst, unBst, unTmsw, preChC1, preIta1, preTms1, preJoi1, preBnd1, preWst1, preBst1, unstShp, unstShp0, prlShp, outShp, etaCap, etaMch, etaWrd, etaFnd, etaRatio, etaWay, Option.bind_some, List.length_map, unStrs, unInts, unBools, uneL_eIs, unCaps, uneL_eCaps, unMchs, unWrds, unFnds, unRatios, unWays, F.lt, F.le, cond_true, cond_false, Bool.and_true, Bool.true_and, unWstU, unBstU, cast_lt hlt, decide_eq_true hlt, getD_at hy, eb, hB]
        | some s =>
          show ((exec enShp (loopN Tryd.f9 0) (stSs l s k)).bind _).val = _
          rw [evShpS]
          simp only [unChC, unIta, unTms, unJoi, unBnd, unWst, unBst, unTmsw, preChC1, preIta1, preTms1, preJoi1, preBnd1, preWst1, preBst1, unstShp, unstShp0, prlShp, outShp, etaCap, etaMch, etaWrd, etaFnd, etaRatio, etaWay, Option.bind_some, List.length_map, unStrs, unInts, unBools, uneL_eIs, unCaps, uneL_eCaps, unMchs, unWrds, unFnds, unRatios, unWays, F.lt, F.le, cond_true, cond_false, Bool.and_true, Bool.true_and, unWstU, unBstU, cast_lt hlt, decide_eq_true hlt, getD_at hy, eb, hB]
      · simp only [outSx, hd, F.shS, hB, Bool.not_true, Bool.false_and]
        rfl
  · have hd : l.drop k = [] := List.drop_eq_nil_of_le (by omega)
    left
    refine ⟨(.exit 0, ⟨[(5, .ptr 5 0 0)], hB o⟩), ?_, ?_, by simp, by cases o <;> rfl⟩
    · cases o with
      | none =>
        show ((exec enShp (loopN Tryd.f9 0) (stSn l k)).bind _).val = _
        rw [evShpN]
        simp only [unChC, unIta, unTms, unJoi, unBnd, unWst, unBst, unTmsw, preChC1, preIta1, preTms1, preJoi1, preBnd1, preWst1, preBst1, unstShp, unstShp0, prlShp, outShp, etaCap, etaMch, etaWrd, etaFnd, etaRatio, etaWay, Option.bind_some, List.length_map, unStrs, unInts, unBools, uneL_eIs, unCaps, uneL_eCaps, unMchs, unWrds, unFnds, unRatios, unWays, F.lt, F.le, cond_true, cond_false, Bool.and_true, Bool.true_and, unWstU, unBstU, decide_eq_false (show ¬ (k : Int) < (l.length : Int) by omega)]
        rfl
      | some s =>
        show ((exec enShp (loopN Tryd.f9 0) (stSs l s k)).bind _).val = _
        rw [evShpS]
        simp only [unChC, unIta, unTms, unJoi, unBnd, unWst, unBst, unTmsw, preChC1, preIta1, preTms1, preJoi1, preBnd1, preWst1, preBst1, unstShp, unstShp0, prlShp, outShp, etaCap, etaMch, etaWrd, etaFnd, etaRatio, etaWay, Option.bind_some, List.length_map, unStrs, unInts, unBools, uneL_eIs, unCaps, uneL_eCaps, unMchs, unWrds, unFnds, unRatios, unWays, F.lt, F.le, cond_true, cond_false, Bool.and_true, Bool.true_and, unWstU, unBstU, decide_eq_false (show ¬ (k : Int) < (l.length : Int) by omega)]
        rfl
    · simp only [outSx, hd, F.shS, F.shO]
      cases o <;> rfl

end M
end Go.Proofs.YthcfbeckhgngiaaDoor
