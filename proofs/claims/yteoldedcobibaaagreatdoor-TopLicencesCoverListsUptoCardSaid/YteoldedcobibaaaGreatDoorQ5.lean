/- What is proved here: the statement TopLicencesCoverLists where what it reads is of bulk at most 1048576: the law returns true, and each argument reads as it did; tied to the program's text where variables are listed. -/
import Derived.Lib.LaidU8
import Derived.MakeChecks
import Derived.Test.YteoldedcobibaaaGreatDoorRows
import Derived.Test.YteoldedcobibaaaGreatDoorChecked
import Derived.Test.YteoldedcobibaaaGreatDoorCards
import Derived.Test.YteoldedcobibaaaGreatDoorTie
import Derived.SevenTiedAt
import Derived.Lay
import Derived.Test.YteoldedcobibaaaGreatDoorQ4

namespace Go.Proofs.YteoldedcobibaaaGreatDoor
open Go Go.RowKit
set_option linter.unusedVariables false
set_option linter.unusedSimpArgs false
set_option maxHeartbeats 1000000

noncomputable def F.ucC (k iv b : List Int) : List Int × Int :=
  bif F.modeF k iv b != 0 then ([], F.modeF k iv b) else (F.chD (F.dec k) F.xorS (F.blk b.length) iv b, 0)

namespace M

noncomputable def stUcI (k : List Int) (iv : List Int) (la : List Int) (o : List Int) (ps : List Nat) (n : Int) (i : Nat) (j : Nat) : St := ⟨[(80, vI j), (79, vI ps.length), (78, .sl ((F.natI ps).map eI)), (52, vI i), (51, vI (1 : Nat)), (50, .sl [[vI 0, vI n]]), (21, .sl (la.map eU8)), (17, .unk), (16, .own 43), (6, .ptr 6 0 0), (5, .fn 28 []), (2, .sl (iv.map eU8)), (1, .sl (k.map eU8))], [(43, ⟨false, 5, 1, o.map eU8⟩), (6, ⟨true, 0, 0, [[vI 2, vI 1, vI 2]]⟩)]⟩

noncomputable def stUcI1 (a : (List Int) × (List Int) × (List Int) × (List Int) × (List Nat) × Int × Nat × Nat) : St := stUcI a.1 a.2.1 a.2.2.1 a.2.2.2.1 a.2.2.2.2.1 a.2.2.2.2.2.1 a.2.2.2.2.2.2.1 a.2.2.2.2.2.2.2

theorem stUcI_inj (a a' : (List Int) × (List Int) × (List Int) × (List Int) × (List Nat) × Int × Nat × Nat) (h : stUcI1 a = stUcI1 a') : a = a' := by
  simp only [stUcI1, stUcI] at h
  (simp [u8s_inj, ints_inj] at h; obtain ⟨a1, a2, a3, a4, a5, a6, a7, a8⟩ := a; obtain ⟨b1, b2, b3, b4, b5, b6, b7, b8⟩ := a'; simp only at h; have := natI_inj h.1.2.2.1; subst this; grind)

theorem unstUcI (k : List Int) (iv : List Int) (la : List Int) (o : List Int) (ps : List Nat) (n : Int) (i : Nat) (j : Nat) : unenc stUcI1 (St.mk [(80, (vI (↑j : Int))), (79, (vI (↑(List.length ps) : Int))), (78, AV.sl (List.map eI (F.natI ps))), (52, (vI (↑i : Int))), (51, (vI (↑(1 : Nat) : Int))), (50, AV.sl
  [[(vI (0 : Int)), (vI n)]]), (21, AV.sl (List.map eU8 la)), (17, AV.unk), (16, .own 43), (6, .ptr 6 0 0), (5, AV.fn (28 : FuncId) []), (2, AV.sl (List.map eU8 iv)), (1,
  AV.sl (List.map eU8 k))] [(43, Blk.mk false 5 1 (List.map eU8 o)), (6, Blk.mk true 0 0 [[(vI (2 : Int)), (vI (1 : Int)), (vI (2 : Int))]])]) = some (k, iv, la, o, ps, n, i, j) := unenc_of stUcI_inj (k, iv, la, o, ps, n, i, j) rfl

theorem unstUcI0 (k : List Int) (iv : List Int) (la : List Int) (o : List Int) (ps : List Nat) (n : Int) (i : Nat)  : unenc stUcI1 (St.mk [(80, (vI (0 : Int))), (79, (vI (↑(List.length ps) : Int))), (78, AV.sl (List.map eI (F.natI ps))), (52, (vI (↑i : Int))), (51, (vI (↑(1 : Nat) : Int))), (50, AV.sl
  [[(vI (0 : Int)), (vI n)]]), (21, AV.sl (List.map eU8 la)), (17, AV.unk), (16, .own 43), (6, .ptr 6 0 0), (5, AV.fn (28 : FuncId) []), (2, AV.sl (List.map eU8 iv)), (1,
  AV.sl (List.map eU8 k))] [(43, Blk.mk false 5 1 (List.map eU8 o)), (6, Blk.mk true 0 0 [[(vI (2 : Int)), (vI (1 : Int)), (vI (2 : Int))]])]) = some (k, iv, la, o, ps, n, i, 0) := unenc_of stUcI_inj (k, iv, la, o, ps, n, i, 0) rfl

noncomputable def outUcI (k : List Int) (iv : List Int) (la : List Int) (o : List Int) (ps : List Nat) (n : Int) (i : Nat) (j : Nat) : T (Ex × St) := .ret (.exit 4, ⟨[(52, vI i), (51, vI (1 : Nat)), (50, .sl [[vI 0, vI n]]), (17, .unk), (16, .own 43), (6, .ptr 6 0 0), (5, .fn 28 []), (2, .sl (iv.map eU8)), (1, .sl (k.map eU8))], [(43, ⟨false, 5, 1, (F.chD (F.dec k) F.xorS (ps.drop j) la o).map eU8⟩), (6, ⟨true, 0, 0, [[vI 2, vI 1, vI 2]]⟩)]⟩)

noncomputable def prlUcI (k : List Int) (iv : List Int) (la : List Int) (o : List Int) (ps : List Nat) (n : Int) (i : Nat) (j : Nat) : Bool := decide (j ≤ ps.length) && decide (ps.length ≤ 1000000) && decide (16 ≤ k.length) && decide (la.length = 8) && ps.all (fun p => decide (p + 8 ≤ o.length))

noncomputable def lpUcI : Nat × (St → T (Ex × St)) := (19, lpo [80, 79, 78, 52, 51, 50, 21, 17, 16, 6, 5, 2, 1] [43, 6] stUcI1 (fun a => prlUcI a.1 a.2.1 a.2.2.1 a.2.2.2.1 a.2.2.2.2.1 a.2.2.2.2.2.1 a.2.2.2.2.2.2.1 a.2.2.2.2.2.2.2) fun a => outUcI a.1 a.2.1 a.2.2.1 a.2.2.2.1 a.2.2.2.2.1 a.2.2.2.2.2.1 a.2.2.2.2.2.2.1 a.2.2.2.2.2.2.2)

noncomputable def chDI (k iv o : List Int) (n : Int) : Nat → List Int
  | 0 => F.chD (F.dec k) F.xorS (F.blk n.toNat) iv o
  | _ => o

noncomputable def stUcO (k : List Int) (iv : List Int) (o : List Int) (n : Int) (i : Nat) : St := ⟨[(52, vI i), (51, vI (1 : Nat)), (50, .sl [[vI 0, vI n]]), (17, .unk), (16, .own 43), (6, .ptr 6 0 0), (5, .fn 28 []), (2, .sl (iv.map eU8)), (1, .sl (k.map eU8))], [(43, ⟨false, 5, 1, o.map eU8⟩), (6, ⟨true, 0, 0, [[vI 2, vI 1, vI 2]]⟩)]⟩

noncomputable def stUcO1 (a : (List Int) × (List Int) × (List Int) × Int × Nat) : St := stUcO a.1 a.2.1 a.2.2.1 a.2.2.2.1 a.2.2.2.2

theorem stUcO_inj (a a' : (List Int) × (List Int) × (List Int) × Int × Nat) (h : stUcO1 a = stUcO1 a') : a = a' := by
  simp only [stUcO1, stUcO] at h
  try simp [w4s_inj, u8s_inj, ints_inj] at h
  grind

theorem unstUcO (k : List Int) (iv : List Int) (o : List Int) (n : Int) (i : Nat) : unenc stUcO1 (St.mk [(52, (vI (↑i : Int))), (51, (vI (↑(1 : Nat) : Int))), (50, AV.sl [[(vI (0 : Int)), (vI n)]]), (17, AV.unk), (16, .own 43), (6, .ptr 6 0 0), (5, AV.fn (28 : FuncId)
  []), (2, AV.sl (List.map eU8 iv)), (1, AV.sl (List.map eU8 k))] [(43, Blk.mk false 5 1 (List.map eU8 o)), (6, Blk.mk true 0 0 [[(vI (2 : Int)), (vI (1 : Int)), (vI (2 :
  Int))]])]) = some (k, iv, o, n, i) := unenc_of stUcO_inj (k, iv, o, n, i) rfl

theorem unstUcO0 (k : List Int) (iv : List Int) (o : List Int) (n : Int)  : unenc stUcO1 (St.mk [(52, (vI (0 : Int))), (51, (vI (↑(1 : Nat) : Int))), (50, AV.sl [[(vI (0 : Int)), (vI n)]]), (17, AV.unk), (16, .own 43), (6, .ptr 6 0 0), (5, AV.fn (28 : FuncId)
  []), (2, AV.sl (List.map eU8 iv)), (1, AV.sl (List.map eU8 k))] [(43, Blk.mk false 5 1 (List.map eU8 o)), (6, Blk.mk true 0 0 [[(vI (2 : Int)), (vI (1 : Int)), (vI (2 :
  Int))]])]) = some (k, iv, o, n, 0) := unenc_of stUcO_inj (k, iv, o, n, 0) rfl

noncomputable def outUcO (k : List Int) (iv : List Int) (o : List Int) (n : Int) (i : Nat) : T (Ex × St) := .ret (.exit 0, ⟨[(16, .own 43)], [(43, ⟨false, 5, 1, (chDI k iv o n i).map eU8⟩)]⟩)

noncomputable def prlUcO (k : List Int) (iv : List Int) (o : List Int) (n : Int) (i : Nat) : Bool := decide (i ≤ 1) && decide (16 ≤ k.length) && decide (iv.length = 8) && decide (n = (o.length : Int)) && decide (o.length ≤ 100000)

noncomputable def lpUcO : Nat × (St → T (Ex × St)) := (10, lpo [52, 51, 50, 17, 16, 6, 5, 2, 1] [43, 6] stUcO1 (fun a => prlUcO a.1 a.2.1 a.2.2.1 a.2.2.2.1 a.2.2.2.2) fun a => outUcO a.1 a.2.1 a.2.2.1 a.2.2.2.1 a.2.2.2.2)

noncomputable def stUcD (n : Int) : St := ⟨[(20, vI n)], []⟩

noncomputable def stUcD1 (a : Int) : St := stUcD a

theorem stUcD_inj (a a' : Int) (h : stUcD1 a = stUcD1 a') : a = a' := by
  simp only [stUcD1, stUcD] at h
  try simp [w4s_inj, u8s_inj, ints_inj] at h
  grind

theorem unstUcD (n : Int) : unenc stUcD1 (St.mk [(20, (vI n))] []) = some (n) := unenc_of stUcD_inj (n) rfl

noncomputable def outUcD (n : Int) : T (Ex × St) := .ret (.exit 2, ⟨[], []⟩)

noncomputable def prlUcD (n : Int) : Bool := false

noncomputable def lpUcD : Nat × (St → T (Ex × St)) := (14, lpo [20] [] stUcD1 (fun a => prlUcD a) fun a => outUcD a)

noncomputable def enUo : Env := envH ty noG lksA [oCsc, oMdf, oFst, oLif, oNst, oPrt, oBlk] [oUc] [89] [lpUcO, lpUcD, lpUcI]

theorem enUo_ok : EnvOK Tryz.prog enUo := by
  refine envH_ok lksA_ok ty_ok ?_ ?_
  · simp only [List.forall_mem_cons]
    exact ⟨okCsc, okMdf, okFst, okLif, okNst, okPrt, okBlk, by simp⟩
  · simp only [List.forall_mem_cons]
    exact ⟨okUc, by simp⟩

theorem ucn_len {k o l : List Int} {p : Nat} (h : p + 8 ≤ o.length) : (F.ucnO k l o p).length = o.length := F.setW_len (by rw [xorS_len]; exact h)

theorem evUcIL (k : List Int) (iv : List Int) (la : List Int) (o : List Int) (ps : List Nat) (n : Int) (i : Nat) (j : Nat) : ((exec enUo (loopN Tryz.f26 2) (stUcI k iv la o ps n i j)).bind (lessX ([80, 79, 78, 52, 51, 50, 21, 17, 16, 6, 5, 2, 1], [91000, 43, 6]) ([52, 51, 50, 17, 16, 6, 5, 2, 1], [43, 6]) ([], []))).val =
  (fun (q : Nat × AV) => (fun (q_1 : List (Nat × Blk)) => (fun (q_2 : List (Nat × AV)) => bif decide ((↑j : Int) < (↑(List.length ps) : Int)) then Option.bind (unenc
  (List.map eI) (List.map eI (F.natI ps))) fun (z : List Int) => bif decide (j < List.length z) then Option.bind (idx (List.getD z j (0 : Int))) fun (z : Nat) => bif Nat.ble
  z (List.length (List.map eU8 o)) && Nat.ble (List.length (List.map eU8 o)) (List.length (List.map eU8 o)) then Option.bind (unenc encUc ([AV.sl (List.map eU8 k), AV.sl
  (List.map eU8 la), AV.win (900 : Nat) ((0 : Nat) + z) (List.length (List.map eU8 o) - z)], [(900, Blk.mk false 5 1 (List.map eU8 o))])) fun (z : List Int × List Int × List
  Int × Nat × Nat) => bif decide ((16 : Nat) ≤ List.length z.fst) && decide ((8 : Nat) ≤ z.snd.snd.snd.snd) && decide (z.snd.snd.snd.fst + z.snd.snd.snd.snd ≤ List.length
  z.snd.snd.fst) && decide ((8 : Nat) ≤ List.length z.snd.fst) then some (Ex.normal, St.mk ((80, (vI (IntKind.wrap IntKind.i64 ((↑j : Int) + (1 : Int))))) :: (79, (vI
  (↑(List.length ps) : Int))) :: (78, AV.sl (List.map eI (F.natI ps))) :: (52, (vI (↑i : Int))) :: (51, (vI (↑(1 : Nat) : Int))) :: q :: (21, .own 91000) :: q_2) ((91000,
  Blk.mk false 5 1 (List.map eU8 (F.getW z.snd.snd.fst z.snd.snd.snd.fst))) :: (43, Blk.mk false 5 1 (List.map eU8 (F.ucnO z.fst z.snd.fst z.snd.snd.fst z.snd.snd.snd.fst)))
  :: q_1)) else none else none else none else some (Ex.exit (4 : Nat), St.mk ((52, (vI (↑i : Int))) :: (51, (vI (↑(1 : Nat) : Int))) :: q :: q_2) ((43, Blk.mk false 5 1
  (List.map eU8 o)) :: q_1))) [(17, AV.unk), (16, .own 43), (6, .ptr 6 0 0), (5, AV.fn (28 : FuncId) []), (2, AV.sl (List.map eU8 iv)), (1, AV.sl (List.map eU8 k))]) [(6,
  Blk.mk true 0 0 [[(vI (2 : Int)), (vI (1 : Int)), (vI (2 : Int))]])]) (50, AV.sl [[(vI (0 : Int)), (vI n)]]) := (execR_bind _ _ _).symm.trans (by kernel_rfl)

theorem lpUcI_ok (k : List Int) (iv : List Int) (la : List Int) (o : List Int) (ps : List Nat) (n : Int) (i : Nat) (j : Nat) (hp : prlUcI k iv la o ps n i j = true) : ∀ ex s', (outUcI k iv la o ps n i j).val = some (ex, s') → LoopOK enUo (loopN Tryz.f26 2) (stUcI k iv la o ps n i j) ex s' := by
  simp only [prlUcI, Bool.and_eq_true, decide_eq_true_eq] at hp
  simp only [List.all_eq_true] at hp
  obtain ⟨⟨⟨⟨h1, h2⟩, h3⟩, h4⟩, h5⟩ := hp
  obtain ⟨N, hN⟩ : ∃ N, o.length = N := ⟨_, rfl⟩
  refine loop_genF (σ := List Int × List Int × Nat) (st := fun x => stUcI k iv x.1 x.2.1 ps n i x.2.2) (out := fun x => outUcI k iv x.1 x.2.1 ps n i x.2.2) (I := fun x => x.2.2 ≤ ps.length ∧ x.2.1.length = N ∧ x.1.length = 8) (n := ([80, 79, 78, 52, 51, 50, 21, 17, 16, 6, 5, 2, 1], [91000, 43, 6])) (e := ([52, 51, 50, 17, 16, 6, 5, 2, 1], [43, 6])) (r := ([], [])) (fun x => ps.length - x.2.2) ?_ (la, o, j) ⟨h1, hN, h4⟩
  clear h1 h4
  rintro ⟨la, o1, j⟩ ⟨g1, g2, g3⟩
  simp only at g1 g2 g3
  by_cases hj : j < ps.length
  · right
    have hy : ps[j]? = some ps[j] := List.getElem?_eq_getElem hj
    have hpN : ps[j] + 8 ≤ N := by rw [← hN]; simpa using h5 _ (List.getElem_mem hj)
    generalize ps[j] = p at hy hpN
    have hd := drop_at hy
    have hnx : IntKind.i64.wrap ((j : Int) + 1) = ((j + 1 : Nat) : Int) := next_at hj (by omega)
    have hlt : p ≤ o1.length := by omega
    refine ⟨(F.getW o1 p, F.ucnO k la o1 p, j + 1), ?s1, [91000], ?h1, ?h2, ?h3, ⟨hj, by rw [ucn_len (by omega), g2], F.getW_len (by omega)⟩, by simp only; omega, ?h5⟩
    case h1 =>
      rw [evUcIL]
      simp only [unCsc, unMdf, unFst, unLif, unNst, unPrt, unBlk, unUc, preCsc1, preMdf1, preFst1, preLif1, preNst1, prePrt1, preBlk1, preUc1, unstUcO, unstUcD, unstUcI, unstUcO0, unstUcI0, prlUcO, prlUcD, prlUcI, outUcO, outUcD, outUcI, etaEnt, etaLst, etaSeg, etaRot, etaBeat, etaSpan, etaHole, etaSmp, etaStd, etaScr, etaWsh, etaGrp, etaPlc, etaPln, etaSnd, etaStrm, etaMas, Option.bind_some, List.length_map, unStrs, unInts, unBools, unU8s, unEnts, unLsts, unSegs, uneL_eSegs, unRots, unBeats, unSpans, unHoles, unSmps, unStds, unScrs, unWshs, unGrps, unPlcs, unPlns, unSnds, unStrms, unMass, F.lt, F.le, cond_true, cond_false, Bool.and_true, Bool.true_and, rowsEnc, rowsDec, rowsXor, all_u8s, ← List.map_take, ← List.map_drop, ← List.map_append, cast_lt hj, natI_len, decide_eq_true hj, natI_at hy, idx_nat, ble_t hlt, ble_t (Nat.le_refl _), Nat.zero_add, unUc, preUc1, decide_eq_true h3, decide_eq_true (show 8 ≤ o1.length - p by omega), decide_eq_true (show p + (o1.length - p) ≤ o1.length by omega), decide_eq_true (show 8 ≤ la.length by omega), hnx]
      rfl
    case h2 => rfl
    case h3 => rfl
    case h5 =>
      simp only [outUcI, hd, F.chD]
      rfl
  · left
    obtain rfl : j = ps.length := by omega
    refine ⟨_, ?_, rfl, by simp, rfl⟩
    rw [evUcIL]
    simp only [unCsc, unMdf, unFst, unLif, unNst, unPrt, unBlk, unUc, preCsc1, preMdf1, preFst1, preLif1, preNst1, prePrt1, preBlk1, preUc1, unstUcO, unstUcD, unstUcI, unstUcO0, unstUcI0, prlUcO, prlUcD, prlUcI, outUcO, outUcD, outUcI, etaEnt, etaLst, etaSeg, etaRot, etaBeat, etaSpan, etaHole, etaSmp, etaStd, etaScr, etaWsh, etaGrp, etaPlc, etaPln, etaSnd, etaStrm, etaMas, Option.bind_some, List.length_map, unStrs, unInts, unBools, unU8s, unEnts, unLsts, unSegs, uneL_eSegs, unRots, unBeats, unSpans, unHoles, unSmps, unStds, unScrs, unWshs, unGrps, unPlcs, unPlns, unSnds, unStrms, unMass, F.lt, F.le, cond_true, cond_false, Bool.and_true, Bool.true_and, rowsEnc, rowsDec, rowsXor, all_u8s, ← List.map_take, ← List.map_drop, ← List.map_append, cast_ge, List.drop_length, F.chD]

theorem lpUcD_ok (n : Int) (hp : prlUcD n = true) : ∀ ex s', (outUcD n).val = some (ex, s') → LoopOK enUo (loopN Tryz.f26 1) (stUcD n) ex s' := by cases hp

theorem evUcOL (k : List Int) (iv : List Int) (o : List Int) (n : Int) (i : Nat) : ((exec enUo (loopN Tryz.f26 0) (stUcO k iv o n i)).bind (lessX ([52, 51, 50, 17, 16, 6, 5, 2, 1], [43, 6]) ([16], [43]) ([], []))).val =
  (fun (q : List AV) => (fun (q_1 : List (Nat × Blk)) => bif decide ((↑i : Int) < (↑(1 : Nat) : Int)) then Option.bind (unenc (List.map eSpan) [[(vI (0 : Int)), (vI n)]])
  fun (z : List Span) => bif decide (i < List.length z) then Option.bind (unenc encBlk [AV.agg q, AV.agg [(vI (List.getD z i (Span.mk (0 : Int) (0 : Int))).fr), (vI
  (List.getD z i (Span.mk (0 : Int) (0 : Int))).to)]]) fun (z : Nat) => bif decide (z ≤ (1000000 : Nat)) then Option.bind (unenc stUcI1 (St.mk [(80, (vI (0 : Int))), (79,
  (vI (↑(List.length (List.map eI (F.natI (F.blk z)))) : Int))), (78, AV.sl (List.map eI (F.natI (F.blk z)))), (52, (vI (↑i : Int))), (51, (vI (↑(1 : Nat) : Int))), (50,
  AV.sl [[(vI (0 : Int)), (vI n)]]), (21, AV.sl (List.map eU8 iv)), (17, AV.unk), (16, .own 43), (6, .ptr 6 0 0), (5, AV.fn (28 : FuncId) []), (2, AV.sl (List.map eU8 iv)),
  (1, AV.sl (List.map eU8 k))] ((43, Blk.mk false 5 1 (List.map eU8 o)) :: q_1))) fun (z : List Int × List Int × List Int × List Int × List Nat × Int × Nat × Nat) => (fun (q
  : List Nat × Int × Nat × Nat) => (fun (q_2 : Nat) => bif (decide (q.snd.snd.snd ≤ q_2) && decide (q_2 ≤ (1000000 : Nat)) && decide ((16 : Nat) ≤ List.length z.fst) &&
  decide (List.length z.snd.snd.fst = (8 : Nat)) && List.all q.fst fun (p : Nat) => decide (p + (8 : Nat) ≤ List.length z.snd.snd.snd.fst)) && true then some (Ex.normal,
  St.mk [(52, (vI (IntKind.wrap IntKind.i64 ((↑q.snd.snd.fst : Int) + (1 : Int))))), (51, (vI (↑(1 : Nat) : Int))), (50, AV.sl [[(vI (0 : Int)), (vI q.snd.fst)]]), (17,
  AV.unk), (16, .own 43), (6, .ptr 6 0 0), (5, AV.fn (28 : FuncId) []), (2, AV.sl (List.map eU8 z.snd.fst)), (1, AV.sl (List.map eU8 z.fst))] ((43, Blk.mk false 5 1
  (List.map eU8 (F.chD (F.dec z.fst) F.xorS (List.drop q.snd.snd.snd q.fst) z.snd.snd.fst z.snd.snd.snd.fst))) :: q_1)) else none) (List.length q.fst)) z.snd.snd.snd.snd
  else none else none else some (Ex.exit (0 : Nat), St.mk [(16, .own 43)] [(43, Blk.mk false 5 1 (List.map eU8 o))])) [(6, Blk.mk true 0 0 [q])]) [(vI (2 : Int)), (vI (1 :
  Int)), (vI (2 : Int))] := (execR_bind _ _ _).symm.trans (by kernel_rfl)

theorem lpUcO_ok (k : List Int) (iv : List Int) (o : List Int) (n : Int) (i : Nat) (hp : prlUcO k iv o n i = true) : ∀ ex s', (outUcO k iv o n i).val = some (ex, s') → LoopOK enUo (loopN Tryz.f26 0) (stUcO k iv o n i) ex s' := by
  simp only [prlUcO, Bool.and_eq_true, decide_eq_true_eq] at hp
  obtain ⟨⟨⟨⟨h1, h2⟩, h3⟩, h4⟩, h5⟩ := hp
  refine loop_gen (σ := List Int × Nat) (st := fun x => stUcO k iv x.1 n x.2) (out := fun x => outUcO k iv x.1 n x.2) (I := fun x => x.2 ≤ 1 ∧ (x.2 = 0 → x.1 = o)) (n := ([52, 51, 50, 17, 16, 6, 5, 2, 1], [43, 6])) (e := ([16], [43])) (r := ([], [])) (fun x => 1 - x.2) ?_ (o, i) ⟨h1, fun _ => rfl⟩
  clear h1
  rintro ⟨o1, i⟩ ⟨g1, g2⟩
  simp only at g1 g2
  by_cases hi : i = 0
  · subst hi
    obtain rfl := g2 rfl
    subst h4
    right
    refine ⟨(chDI k iv o1 o1.length 0, 1), ?_, rfl, ⟨by simp, fun h => by cases h⟩, by simp, rfl⟩
    obtain ⟨b1, b2, b3⟩ := F.blk_ok o1.length
    rw [evUcOL]
    simp only [unCsc, unMdf, unFst, unLif, unNst, unPrt, unBlk, unUc, preCsc1, preMdf1, preFst1, preLif1, preNst1, prePrt1, preBlk1, preUc1, unstUcO, unstUcD, unstUcI, unstUcO0, unstUcI0, prlUcO, prlUcD, prlUcI, outUcO, outUcD, outUcI, etaEnt, etaLst, etaSeg, etaRot, etaBeat, etaSpan, etaHole, etaSmp, etaStd, etaScr, etaWsh, etaGrp, etaPlc, etaPln, etaSnd, etaStrm, etaMas, Option.bind_some, List.length_map, unStrs, unInts, unBools, unU8s, unEnts, unLsts, unSegs, uneL_eSegs, unRots, unBeats, unSpans, unHoles, unSmps, unStds, unScrs, unWshs, unGrps, unPlcs, unPlns, unSnds, unStrms, unMass, F.lt, F.le, cond_true, cond_false, Bool.and_true, Bool.true_and, rowsEnc, rowsDec, rowsXor, all_u8s, ← List.map_take, ← List.map_drop, ← List.map_append, unSpan1, List.length_cons, List.length_nil, show decide (((0 : Nat) : Int) < ((1 : Nat) : Int)) = true from rfl, show decide (0 < 0 + 1) = true from rfl, List.getD_cons_zero, unBlk, decide_eq_true (show o1.length ≤ 1000000 by omega), natI_len, decide_eq_true (Nat.zero_le _), decide_eq_true (show (F.blk o1.length).length ≤ 1000000 by omega), decide_eq_true h2, h3, b1, List.drop_zero, show IntKind.i64.wrap (((0 : Nat) : Int) + 1) = ((1 : Nat) : Int) by decide, stUcO, chDI, Int.toNat_natCast]
    rfl
  · obtain rfl : i = 1 := by omega
    left
    refine ⟨_, ?_, rfl, by simp, rfl⟩
    rw [evUcOL]
    simp only [unCsc, unMdf, unFst, unLif, unNst, unPrt, unBlk, unUc, preCsc1, preMdf1, preFst1, preLif1, preNst1, prePrt1, preBlk1, preUc1, unstUcO, unstUcD, unstUcI, unstUcO0, unstUcI0, prlUcO, prlUcD, prlUcI, outUcO, outUcD, outUcI, etaEnt, etaLst, etaSeg, etaRot, etaBeat, etaSpan, etaHole, etaSmp, etaStd, etaScr, etaWsh, etaGrp, etaPlc, etaPln, etaSnd, etaStrm, etaMas, Option.bind_some, List.length_map, unStrs, unInts, unBools, unU8s, unEnts, unLsts, unSegs, uneL_eSegs, unRots, unBeats, unSpans, unHoles, unSmps, unStds, unScrs, unWshs, unGrps, unPlcs, unPlns, unSnds, unStrms, unMass, F.lt, F.le, cond_true, cond_false, Bool.and_true, Bool.true_and, rowsEnc, rowsDec, rowsXor, all_u8s, ← List.map_take, ← List.map_drop, ← List.map_append, show decide (((1 : Nat) : Int) < ((1 : Nat) : Int)) = false from rfl]
    rfl

theorem evUcC (k : List Int) (iv : List Int) (b : List Int) : (runF enUo false Tryz.f26 [.agg [vI 2, vI 1, vI 2], .sl (k.map eU8), .sl (iv.map eU8), .sl (b.map eU8), .sl [], .fn 28 []]).val =
  (fun (q : List AV) => (fun (q_1 : List AV) => (fun (q_2 : List AV) => Option.bind (unenc encCsc [AV.agg q_2]) fun (z : Unit) => Option.bind (unenc encMdf [AV.sl (List.map eU8 k), AV.sl (List.map eU8 iv), AV.sl (List.map eU8 b)]) fun (z : List Int × List Int × List Int) => Option.bind (unenc encFst [AV.sl [q, [(vI (F.modeF z.fst z.snd.fst z.snd.snd))]]]) fun (z : Int × Int) => bif (bif z.fst == (0 : Int) then z.snd else z.fst) != (0 : Int) then some (AV.tup [AV.sl [], (vI (bif z.fst == (0 : Int) then z.snd else z.fst))], []) else Option.bind (unenc encLif q_1) fun (z : Int) => bif Nat.ble (List.length (List.map eU8 b) * (1 : Nat)) (140737488355328 : Nat) && List.all (List.map eU8 b) fun (r : Row) => Nat.beq (List.length r) (TI.mk false (1 : Nat) [] [AV.e0] (5 : Nat) (1 : Nat) (1 : Nat) [(vU (0 : Int))] none (4 : Nat) [] (0 : Nat)).esize then Option.bind (unenc encNst (AV.sl (List.map eU8 k) :: AV.sl (List.map eU8 iv) :: q)) fun (z : List Int × List Int) => bif decide ((8 : Nat) ≤ List.length z.snd) then Option.bind (unenc encPrt q_1) fun (z : Int) => Option.bind (unenc stUcO1 (St.mk [(52, (vI (0 : Int))), (51, (vI (↑(1 : Nat) : Int))), (50, AV.sl [[(vI (0 : Int)), (vI z)]]), (17, AV.unk), (16, .own 43), (6, .ptr 6 0 0), (5, AV.fn (28 : FuncId) []), (2, AV.sl (List.map eU8 iv)), (1, AV.sl (List.map eU8 k))] [(43, Blk.mk false 5 1 (List.map eU8 b)), (6, Blk.mk true 0 0 [q_2])])) fun (z : List Int × List Int × List Int × Int × Nat) => bif decide (z.snd.snd.snd.snd ≤ (1 : Nat)) && decide ((16 : Nat) ≤ List.length z.fst) && decide (List.length z.snd.fst = (8 : Nat)) && decide (z.snd.snd.snd.fst = (↑(List.length z.snd.snd.fst) : Int)) && decide (List.length z.snd.snd.fst ≤ (100000 : Nat)) && true then some (AV.tup (AV.sl (List.map eU8 (match z.snd.snd.snd.snd with | (0 : Nat) => F.chD (F.dec z.fst) F.xorS (F.blk (Int.toNat z.snd.snd.snd.fst)) z.snd.fst z.snd.snd.fst | x => z.snd.snd.fst)) :: q), []) else none else none else none) [(vI (2 : Int)), (vI (1 : Int)), (vI (2 : Int))]) [AV.sl [], (vI (↑(List.length (List.map eU8 b)) : Int))]) [(vI (0 : Int))] := (runFR_val).symm.trans (by kernel_rfl)

def encUcC1 (k : List Int) (iv : List Int) (b : List Int) : List AV := [.agg [vI 2, vI 1, vI 2], .sl (k.map eU8), .sl (iv.map eU8), .sl (b.map eU8), .sl [], .fn 28 []]

def encUcC (a : (List Int) × (List Int) × (List Int)) : List AV := encUcC1 a.1 a.2.1 a.2.2

theorem encUcC_inj (a a' : (List Int) × (List Int) × (List Int)) (h : encUcC a = encUcC a') : a = a' := by
  simp only [encUcC, encUcC1] at h
  try simp [w4s_inj, u8s_inj, ints_inj] at h
  grind

theorem unUcC (k : List Int) (iv : List Int) (b : List Int) : unenc encUcC ([AV.agg [(vI (2 : Int)), (vI (1 : Int)), (vI (2 : Int))], AV.sl (List.map eU8 k), AV.sl (List.map eU8 iv), AV.sl (List.map eU8 b), AV.sl [], AV.fn (28 : FuncId) []]) = some (k, iv, b) := unenc_of encUcC_inj (k, iv, b) rfl

noncomputable def resUcC1 (k : List Int) (iv : List Int) (b : List Int) : AV × Heap := (.tup [.sl ((F.ucC k iv b).1.map eU8), vI (F.ucC k iv b).2], [])

noncomputable def preUcC1 (k : List Int) (iv : List Int) (b : List Int) : Bool := true

noncomputable def oUcC : Orc := orc 26 false encUcC (fun a => preUcC1 a.1 a.2.1 a.2.2) fun a => resUcC1 a.1 a.2.1 a.2.2

theorem okUcC : OrcOK Tryz.prog noG oUcC := by
  refine mk_ok Tryz.f26 (keep := false) (by kernel_rfl) (by kernel_rfl) enUo_ok mixed (three_loops (x0 := loopN Tryz.f26 0) (x1 := loopN Tryz.f26 1) (x2 := loopN Tryz.f26 2) (by kernel_rfl) (lpo_ok ?_) (lpo_ok ?_) (lpo_ok ?_)) (by first | exact fun _ _ => ⟨rfl, rfl⟩ | (intro h; cases h)) ?_
  · rintro ⟨k, iv, o, n, i⟩ hp
    exact lpUcO_ok k iv o n i hp
  · intro n hp
    exact lpUcD_ok n hp
  · rintro ⟨k, iv, la, o, ps, n, i, j⟩ hp
    exact lpUcI_ok k iv la o ps n i j hp
  rintro ⟨k, iv, b⟩ hpre hok
  show (runF enUo false _ (encUcC1 _ _ _)).val = some (resUcC1 _ _ _)
  unfold encUcC1 resUcC1
  rw [evUcC]
  have e1 : unenc encCsc ([.agg [vI 2, vI 1, vI 2]] : List AV) = some () := unCsc
  simp only [unCsc, unMdf, unFst, unLif, unNst, unPrt, unBlk, unUc, preCsc1, preMdf1, preFst1, preLif1, preNst1, prePrt1, preBlk1, preUc1, unstUcO, unstUcD, unstUcI, unstUcO0, unstUcI0, prlUcO, prlUcD, prlUcI, outUcO, outUcD, outUcI, etaEnt, etaLst, etaSeg, etaRot, etaBeat, etaSpan, etaHole, etaSmp, etaStd, etaScr, etaWsh, etaGrp, etaPlc, etaPln, etaSnd, etaStrm, etaMas, Option.bind_some, List.length_map, unStrs, unInts, unBools, unU8s, unEnts, unLsts, unSegs, uneL_eSegs, unRots, unBeats, unSpans, unHoles, unSmps, unStds, unScrs, unWshs, unGrps, unPlcs, unPlns, unSnds, unStrms, unMass, F.lt, F.le, cond_true, cond_false, Bool.and_true, Bool.true_and, rowsEnc, rowsDec, rowsXor, all_u8s, ← List.map_take, ← List.map_drop, ← List.map_append, e1, show ((0 : Int) == 0) = true from rfl]
  unfold F.ucC
  cases h : (F.modeF k iv b != 0)
  · have h0 : F.modeF k iv b = 0 := by simpa using h
    obtain ⟨m1, m2, m3⟩ := modeF_ok h0
    simp only [cond_false, ble_t (show b.length * 1 ≤ 140737488355328 by omega), decide_eq_true (show 8 ≤ iv.length by omega), decide_eq_true (show 0 ≤ 1 by decide), decide_eq_true (show 16 ≤ k.length by omega), m2, decide_true, decide_eq_true m3, Bool.and_self, cond_true, Int.toNat_natCast]
    rfl
  · rfl

noncomputable def enOpe : Env := envH ty noG lksA [oUcC] [] [] []

theorem enOpe_ok : EnvOK Tryz.prog enOpe := by
  refine envH_ok lksA_ok ty_ok ?_ ?_
  · simp only [List.forall_mem_cons]
    exact ⟨okUcC, by simp⟩
  · simp

theorem evOpe (k : List Int) (iv : List Int) (b : List Int) : (runF enOpe false Tryz.f9 [.agg [vI 2, vI 1, vI 2], .sl (k.map eU8), .sl (iv.map eU8), .sl (b.map eU8), .sl []]).val =
  Option.bind (unenc encUcC [AV.agg [(vI (2 : Int)), (vI (1 : Int)), (vI (2 : Int))], AV.sl (List.map eU8 k), AV.sl (List.map eU8 iv), AV.sl (List.map eU8 b), AV.sl [],
  AV.fn (28 : Nat) []]) fun (z : List Int × List Int × List Int) => some (AV.tup [AV.sl (List.map eU8 (F.ucC z.fst z.snd.fst z.snd.snd).fst), (vI (F.ucC z.fst z.snd.fst
  z.snd.snd).snd)], []) := (runFR_val).symm.trans (by kernel_rfl)

def encOpe1 (k : List Int) (iv : List Int) (b : List Int) : List AV := [.agg [vI 2, vI 1, vI 2], .sl (k.map eU8), .sl (iv.map eU8), .sl (b.map eU8), .sl []]

def encOpe (a : (List Int) × (List Int) × (List Int)) : List AV := encOpe1 a.1 a.2.1 a.2.2

theorem encOpe_inj (a a' : (List Int) × (List Int) × (List Int)) (h : encOpe a = encOpe a') : a = a' := by
  simp only [encOpe, encOpe1] at h
  try simp [w4s_inj, u8s_inj, ints_inj] at h
  grind

theorem unOpe (k : List Int) (iv : List Int) (b : List Int) : unenc encOpe ([AV.agg [(vI (2 : Int)), (vI (1 : Int)), (vI (2 : Int))], AV.sl (List.map eU8 k), AV.sl (List.map eU8 iv), AV.sl (List.map eU8 b), AV.sl []]) = some (k, iv, b) := unenc_of encOpe_inj (k, iv, b) rfl

noncomputable def resOpe1 (k : List Int) (iv : List Int) (b : List Int) : AV × Heap := (.tup [.sl ((F.ucC k iv b).1.map eU8), vI (F.ucC k iv b).2], [])

noncomputable def preOpe1 (k : List Int) (iv : List Int) (b : List Int) : Bool := true

noncomputable def oOpe : Orc := orc 9 false encOpe (fun a => preOpe1 a.1 a.2.1 a.2.2) fun a => resOpe1 a.1 a.2.1 a.2.2

theorem okOpe : OrcOK Tryz.prog noG oOpe := by
  refine mk_ok Tryz.f9 (keep := false) (by kernel_rfl) (by kernel_rfl) enOpe_ok mixed (no_loops (by kernel_rfl)) (by first | exact fun _ _ => ⟨rfl, rfl⟩ | (intro h; cases h)) ?_
  rintro ⟨k, iv, b⟩ hpre hok
  show (runF enOpe false _ (encOpe1 _ _ _)).val = some (resOpe1 _ _ _)
  unfold encOpe1 resOpe1
  rw [evOpe]
  simp only [unUcC, preUcC1, etaEnt, etaLst, etaSeg, etaRot, etaBeat, etaSpan, etaHole, etaSmp, etaStd, etaScr, etaWsh, etaGrp, etaPlc, etaPln, etaSnd, etaStrm, etaMas, Option.bind_some, List.length_map, unStrs, unInts, unBools, unU8s, unEnts, unLsts, unSegs, uneL_eSegs, unRots, unBeats, unSpans, unHoles, unSmps, unStds, unScrs, unWshs, unGrps, unPlcs, unPlns, unSnds, unStrms, unMass, F.lt, F.le, cond_true, cond_false, Bool.and_true, Bool.true_and, rowsEnc, rowsDec, rowsXor, all_u8s, ← List.map_take, ← List.map_drop, ← List.map_append]
  try rfl

end M

def F.perB (n : Int) : List Int := F.wby (IntKind.u32.wrap (Int.ediv n (Int.pow 2 (min (Int.toNat 32) IntKind.i64.bits)))) (IntKind.u32.wrap n)

noncomputable def F.kid (r : Rot) (n : Int) : List Int := F.dgst (r.seed ++ F.perB n)

theorem F.digR_len : ∀ (n : Nat) (t st : List Int), st.length = 16 → (F.digR n t st).length = 16
  | 0, _, _, h => h
  | n + 1, t, st, h => F.digR_len n _ _ (by
    show (F.xorS _ _ ++ F.xorS _ _).length = 16
    rw [List.length_append, M.xorS_len, M.xorS_len])

theorem F.digR_by : ∀ (n : Nat) (t st : List Int), (∀ x ∈ st, F.byB x) → ∀ x ∈ F.digR n t st, F.byB x
  | 0, _, _, h => h
  | n + 1, t, st, h => F.digR_by n _ _ (by
    intro x hx
    rcases List.mem_append.1 (show x ∈ F.xorS _ _ ++ F.xorS _ _ from hx) with hx | hx
    · rw [F.xorS, F.sealL_eq] at hx
      exact F.xorB_by _ _ x hx
    · rw [F.xorS, F.sealL_eq] at hx
      exact F.xorB_by _ _ x hx)

theorem F.dgst_len (l : List Int) : (F.dgst l).length = 16 := F.digR_len _ _ _ rfl

theorem F.dgst_by (l : List Int) : ∀ x ∈ F.dgst l, F.byB x := F.digR_by _ _ _ (by
  intro x hx
  simp only [F.st0, List.mem_cons, List.not_mem_nil, or_false] at hx
  unfold F.byB
  omega)

structure Otp where
  kind : ByteArray
  height : Int

instance : Inhabited Otp := ⟨⟨⟨#[]⟩, 0⟩⟩

def F.doesO (k : ByteArray) (h : Int) (o : Otp) : Bool := (o.kind.toList == k.toList) && decide (h ≤ o.height)

noncomputable def F.keyO (r : Rot) (s : List Int) (n : Int) : List Int × Int :=
  bif F.chkR r != 0 then ([], F.chkR r) else bif F.lt 100 s.length then ([], 2) else bif F.out n 0 1000000000 then ([], 1) else (F.dgst (s ++ F.kid r n), 0)

namespace M

theorem rowsWby (a b : Int) : [[vU (Int.emod (Int.ediv a 16777216) 256)], [vU (Int.emod (Int.ediv a 65536) 256)], [vU (Int.emod (Int.ediv a 256) 256)], [vU (Int.emod a 256)], [vU (Int.emod (Int.ediv b 16777216) 256)], [vU (Int.emod (Int.ediv b 65536) 256)], [vU (Int.emod (Int.ediv b 256) 256)], [vU (Int.emod b 256)]] = (F.wby a b).map eU8 := rfl

noncomputable def enKid : Env := envH ty noG lksA [oWby, oDig] [] [15] []

theorem enKid_ok : EnvOK Tryz.prog enKid := by
  refine envH_ok lksA_ok ty_ok ?_ ?_
  · simp only [List.forall_mem_cons]
    exact ⟨okWby, okDig, by simp⟩
  · simp

theorem evKid (r : Rot) (n : Int) : (runF enKid true Tryz.f25 [.agg (eRot r), vI n]).val =
  Option.bind (unenc encWby [AV.v (Value.int IntKind.u32 (IntKind.wrap IntKind.u32 (Int.ediv n (Int.pow (2 : Int) (min (Int.toNat (32 : Int)) (IntKind.bits
  IntKind.i64)))))), AV.v (Value.int IntKind.u32 (IntKind.wrap IntKind.u32 n))]) fun (z : Int × Int) => bif Nat.ble (List.length (List.map eU8 r.seed) * (1 : Nat))
  (140737488355328 : Nat) && List.all (List.map eU8 r.seed) fun (r : Row) => Nat.beq (List.length r) (TI.mk false (1 : Nat) [] [AV.e0] (5 : Nat) (1 : Nat) (1 : Nat) [(vU (0
  : Int))] none (4 : Nat) [] (0 : Nat)).esize then bif Nat.ble ((List.length (List.map eU8 r.seed) + (8 : Nat)) * (1 : Nat)) (140737488355328 : Nat) && true then Option.bind
  (unenc encDig [AV.sl (List.map eU8 r.seed ++ [[(vU (Int.emod (Int.ediv z.fst (16777216 : Int)) (256 : Int)))], [(vU (Int.emod (Int.ediv z.fst (65536 : Int)) (256 :
  Int)))], [(vU (Int.emod (Int.ediv z.fst (256 : Int)) (256 : Int)))], [(vU (Int.emod z.fst (256 : Int)))], [(vU (Int.emod (Int.ediv z.snd (16777216 : Int)) (256 : Int)))],
  [(vU (Int.emod (Int.ediv z.snd (65536 : Int)) (256 : Int)))], [(vU (Int.emod (Int.ediv z.snd (256 : Int)) (256 : Int)))], [(vU (Int.emod z.snd (256 : Int)))]])]) fun (z :
  List Int) => bif decide (List.length z ≤ (1000000 : Nat)) then some (.own 0, [(0, Blk.mk false 5 1 (List.map eU8 (F.dgst z)))]) else none else none else none := (runFR_val).symm.trans (by kernel_rfl)

def encKid1 (r : Rot) (n : Int) : List AV := [.agg (eRot r), vI n]

def encKid (a : Rot × Int) : List AV := encKid1 a.1 a.2

theorem encKid_inj (a a' : Rot × Int) (h : encKid a = encKid a') : a = a' := by
  simp only [encKid, encKid1] at h
  try simp [strs_inj, ints_inj, bools_inj, u8s_inj, eEnts_inj, eEnt_iff, eLsts_inj, eLst_iff, eSegs_inj, eSeg_iff, eL_eSegs_inj, eRots_inj, eRot_iff, eBeats_inj, eBeat_iff, eSpans_inj, eSpan_iff, eHoles_inj, eHole_iff, eSmps_inj, eSmp_iff, eStds_inj, eStd_iff, eScrs_inj, eScr_iff, eWshs_inj, eWsh_iff, eGrps_inj, eGrp_iff, ePlcs_inj, ePlc_iff, ePlns_inj, ePln_iff, eSnds_inj, eSnd_iff, eStrms_inj, eStrm_iff, eMass_inj, eMas_iff] at h
  grind

theorem unKid (r : Rot) (n : Int) : unenc encKid ([AV.agg [(vI r.begin), (vI r.every), (vI r.lead), AV.sl (List.map eU8 r.seed)], (vI n)]) = some (r, n) := unenc_of encKid_inj (r, n) rfl

theorem unKidw (r_begin : Int) (r_every : Int) (r_lead : Int) (r_seed : List Int) (n : Int) : unenc encKid ([AV.agg [(vI r_begin), (vI r_every), (vI r_lead), AV.sl (List.map eU8 r_seed)], (vI n)]) = some ((Rot.mk r_begin r_every r_lead r_seed), n) := unenc_of encKid_inj ((Rot.mk r_begin r_every r_lead r_seed), n) rfl

noncomputable def resKid1 (r : Rot) (n : Int) : AV × Heap := (.own 0, [(0, ⟨false, 5, 1, (F.kid r n).map eU8⟩)])

noncomputable def preKid1 (r : Rot) (n : Int) : Bool := decide (r.seed.length ≤ 1000)

noncomputable def oKid : Orc := orc 25 true encKid (fun a => preKid1 a.1 a.2) fun a => resKid1 a.1 a.2

theorem okKid : OrcOK Tryz.prog noG oKid := by
  refine mk_ok Tryz.f25 (keep := true) (by kernel_rfl) (by kernel_rfl) enKid_ok mixed (no_loops (by kernel_rfl)) (by first | exact fun _ _ => ⟨rfl, rfl⟩ | exact fun _ _ => ⟨frsH_U8 _ _ _ _, rfl⟩ | (intro h; cases h)) ?_
  rintro ⟨r, n⟩ hpre hok
  show (runF enKid true _ (encKid1 _ _)).val = some (resKid1 _ _)
  unfold encKid1 resKid1
  rw [evKid]
  simp only [preKid1, decide_eq_true_eq] at hpre
  have hw : (F.perB n).length = 8 := rfl
  simp only [unWby, unDig, preWby1, preDig1, etaEnt, etaLst, etaSeg, etaRot, etaBeat, etaSpan, etaHole, etaSmp, etaStd, etaScr, etaWsh, etaGrp, etaPlc, etaPln, etaSnd, etaStrm, etaMas, Option.bind_some, List.length_map, unStrs, unInts, unBools, unU8s, unEnts, unLsts, unSegs, uneL_eSegs, unRots, unBeats, unSpans, unHoles, unSmps, unStds, unScrs, unWshs, unGrps, unPlcs, unPlns, unSnds, unStrms, unMass, F.lt, F.le, cond_true, cond_false, Bool.and_true, Bool.true_and, rowsWby, rowsEnc, rowsDec, rowsXor, all_u8s, ← List.map_take, ← List.map_drop, ← List.map_append, ble_t (show r.seed.length * 1 ≤ 140737488355328 by omega), ble_t (show (r.seed.length + 8) * 1 ≤ 140737488355328 by omega), List.length_append, F.wby_len, decide_eq_true (show r.seed.length + 8 ≤ 1000000 by omega)]
  rfl

theorem kid_len (r : Rot) (n : Int) : (F.kid r n).length = 16 := F.dgst_len _

theorem chkR_seed {r : Rot} (h : F.chkR r = 0) : r.seed.length ≤ 100 := by
  unfold F.chkR at h
  cases h1 : (F.out r.begin 0 1000000000000000 || F.out r.every 1 1000000000000000 || F.out r.lead 0 1000000000000000)
  · rw [h1] at h
    cases h2 : F.lt 100 r.seed.length
    · unfold F.lt at h2
      simp only [decide_eq_false_iff_not] at h2
      omega
    · rw [h2] at h
      cases h
  · rw [h1] at h
    cases h

noncomputable def enKof : Env := envH ty noG lksA [oCkR, oOut, oKid, oDig] [] [] []

theorem enKof_ok : EnvOK Tryz.prog enKof := by
  refine envH_ok lksA_ok ty_ok ?_ ?_
  · simp only [List.forall_mem_cons]
    exact ⟨okCkR, okOut, okKid, okDig, by simp⟩
  · simp

theorem evKof (r : Rot) (s : List Int) (n : Int) : (runF enKof false Tryz.f7 [.agg (eRot r), .sl (s.map eU8), vI n]).val =
  Option.bind (unenc encCkR [AV.agg [(vI r.begin), (vI r.every), (vI r.lead), AV.sl (List.map eU8 r.seed)]]) fun (z : Rot) => bif F.chkR z != (0 : Int) then some (AV.tup
  [AV.sl [], (vI (F.chkR z))], []) else bif decide ((100 : Int) < (↑(List.length (List.map eU8 s)) : Int)) then some (AV.tup [AV.sl [], (vI (2 : Int))], []) else Option.bind
  (unenc encOut [(vI n), (vI (0 : Int)), (vI (1000000000 : Int))]) fun (z : Int × Int × Int) => bif F.out z.fst z.snd.fst z.snd.snd then some (AV.tup [AV.sl [], (vI (1 :
  Int))], []) else bif Nat.ble (List.length (List.map eU8 s) * (1 : Nat)) (140737488355328 : Nat) && List.all (List.map eU8 s) fun (r : Row) => Nat.beq (List.length r)
  (TI.mk false (1 : Nat) [] [AV.e0] (5 : Nat) (1 : Nat) (1 : Nat) [(vU (0 : Int))] none (4 : Nat) [] (0 : Nat)).esize then Option.bind (unenc encKid [AV.agg [(vI r.begin),
  (vI r.every), (vI r.lead), AV.sl (List.map eU8 r.seed)], (vI n)]) fun (z : Rot × Int) => bif decide (List.length z.fst.seed ≤ (1000 : Nat)) then bif Nat.ble ((List.length
  (List.map eU8 s) + List.length (List.map eU8 (F.kid z.fst z.snd))) * (1 : Nat)) (140737488355328 : Nat) && List.all (List.map eU8 (F.kid z.fst z.snd)) fun (r : Row) =>
  Nat.beq (List.length r) (TI.mk false (1 : Nat) [] [AV.e0] (5 : Nat) (1 : Nat) (1 : Nat) [(vU (0 : Int))] none (4 : Nat) [] (0 : Nat)).esize then Option.bind (unenc encDig
  [AV.sl (List.map eU8 s ++ List.map eU8 (F.kid z.fst z.snd))]) fun (z : List Int) => bif decide (List.length z ≤ (1000000 : Nat)) then some (AV.tup [AV.sl (List.map eU8
  (F.dgst z)), (vI (0 : Int))], []) else none else none else none else none := (runFR_val).symm.trans (by kernel_rfl)

def encKof1 (r : Rot) (s : List Int) (n : Int) : List AV := [.agg (eRot r), .sl (s.map eU8), vI n]

def encKof (a : Rot × (List Int) × Int) : List AV := encKof1 a.1 a.2.1 a.2.2

theorem encKof_inj (a a' : Rot × (List Int) × Int) (h : encKof a = encKof a') : a = a' := by
  simp only [encKof, encKof1] at h
  try simp [strs_inj, ints_inj, bools_inj, u8s_inj, eEnts_inj, eEnt_iff, eLsts_inj, eLst_iff, eSegs_inj, eSeg_iff, eL_eSegs_inj, eRots_inj, eRot_iff, eBeats_inj, eBeat_iff, eSpans_inj, eSpan_iff, eHoles_inj, eHole_iff, eSmps_inj, eSmp_iff, eStds_inj, eStd_iff, eScrs_inj, eScr_iff, eWshs_inj, eWsh_iff, eGrps_inj, eGrp_iff, ePlcs_inj, ePlc_iff, ePlns_inj, ePln_iff, eSnds_inj, eSnd_iff, eStrms_inj, eStrm_iff, eMass_inj, eMas_iff] at h
  grind

theorem unKof (r : Rot) (s : List Int) (n : Int) : unenc encKof ([AV.agg [(vI r.begin), (vI r.every), (vI r.lead), AV.sl (List.map eU8 r.seed)], AV.sl (List.map eU8 s), (vI n)]) = some (r, s, n) := unenc_of encKof_inj (r, s, n) rfl

theorem unKofw (r_begin : Int) (r_every : Int) (r_lead : Int) (r_seed : List Int) (s : List Int) (n : Int) : unenc encKof ([AV.agg [(vI r_begin), (vI r_every), (vI r_lead), AV.sl (List.map eU8 r_seed)], AV.sl (List.map eU8 s), (vI n)]) = some ((Rot.mk r_begin r_every r_lead r_seed), s, n) := unenc_of encKof_inj ((Rot.mk r_begin r_every r_lead r_seed), s, n) rfl

noncomputable def resKof1 (r : Rot) (s : List Int) (n : Int) : AV × Heap := (.tup [.sl ((F.keyO r s n).1.map eU8), vI (F.keyO r s n).2], [])

noncomputable def preKof1 (r : Rot) (s : List Int) (n : Int) : Bool := true

noncomputable def oKof : Orc := orc 7 false encKof (fun a => preKof1 a.1 a.2.1 a.2.2) fun a => resKof1 a.1 a.2.1 a.2.2

theorem okKof : OrcOK Tryz.prog noG oKof := by
  refine mk_ok Tryz.f7 (keep := false) (by kernel_rfl) (by kernel_rfl) enKof_ok mixed (no_loops (by kernel_rfl)) (by first | exact fun _ _ => ⟨rfl, rfl⟩ | (intro h; cases h)) ?_
  rintro ⟨r, s, n⟩ hpre hok
  show (runF enKof false _ (encKof1 _ _ _)).val = some (resKof1 _ _ _)
  unfold encKof1 resKof1
  rw [evKof]
  simp only [unCkR, unOut, unKid, unDig, unCkRw, unKidw, preCkR1, preOut1, preKid1, preDig1, etaEnt, etaLst, etaSeg, etaRot, etaBeat, etaSpan, etaHole, etaSmp, etaStd, etaScr, etaWsh, etaGrp, etaPlc, etaPln, etaSnd, etaStrm, etaMas, Option.bind_some, List.length_map, unStrs, unInts, unBools, unU8s, unEnts, unLsts, unSegs, uneL_eSegs, unRots, unBeats, unSpans, unHoles, unSmps, unStds, unScrs, unWshs, unGrps, unPlcs, unPlns, unSnds, unStrms, unMass, F.lt, F.le, cond_true, cond_false, Bool.and_true, Bool.true_and, rowsWby, rowsEnc, rowsDec, rowsXor, all_u8s, ← List.map_take, ← List.map_drop, ← List.map_append, F.keyO, F.lt]
  cases h1 : (F.chkR r != 0)
  · cases h2 : decide ((100 : Int) < (s.length : Int))
    · cases F.out n 0 1000000000
      · have g1 := chkR_seed (by simpa using h1)
        have g2 : s.length ≤ 100 := by simp only [decide_eq_false_iff_not] at h2; omega
        have g3 : (s ++ F.kid r n).length ≤ 1000000 := by rw [List.length_append, kid_len]; omega
        simp only [cond_false, cond_true, kid_len, ble_t (show s.length * 1 ≤ 140737488355328 by omega), decide_eq_true (show r.seed.length ≤ 1000 by omega), ble_t (show (s.length + 16) * 1 ≤ 140737488355328 by omega), decide_eq_true g3]
      · rfl
    · rfl
  · rfl

end M

structure Lic where
  user : ByteArray
  id : ByteArray
  pf : Int
  pt : Int
  fr : Int
  «to» : Int
  lng : Int
  outs : List Otp

instance : Inhabited Lic := ⟨⟨⟨#[]⟩, ⟨#[]⟩, 0, 0, 0, 0, 0, []⟩⟩

def F.sTv : ByteArray := ⟨#[116, 118]⟩

def F.sU : ByteArray := ⟨#[117]⟩

def F.sAll : ByteArray := ⟨#[97, 108, 108]⟩

noncomputable def F.pB (p : Prop) : Bool := @decide p (Classical.propDecidable p)

theorem F.pB_iff {p : Prop} : F.pB p = true ↔ p := by
  unfold F.pB
  exact @decide_eq_true_iff p (Classical.propDecidable p)

def F.isTv (l : List Otp) : Prop := l = [⟨F.sTv, 1080⟩]

def F.isLic (x : Lic) : Prop := x.user = F.sU ∧ x.id = F.sAll ∧ 0 ≤ x.pf ∧ x.pf < x.pt ∧ x.pt ≤ 1000000001 ∧ 0 ≤ x.fr ∧ x.fr < 1000000000000000 ∧ x.to = x.fr + 1 ∧ x.lng = 0 ∧ F.isTv x.outs

def F.findI {α : Type} (p : α → Bool) : Nat → List α → Option Nat
  | _, [] => none
  | k, y :: l => bif p y then some k else F.findI p (k + 1) l

def F.idxI (o : Option Nat) : Int := bif F.found o then ((F.got o 0 : Nat) : Int) else -1

theorem F.idx_any {α : Type} (p : α → Bool) : ∀ (l : List α) (k : Nat), decide (0 ≤ F.idxI (F.findI p k l)) = l.any p
  | [], _ => rfl
  | y :: l, k => by
    rw [F.findI, List.any_cons]
    cases p y
    · rw [cond_false, F.idx_any p l, Bool.false_or]
    · rw [cond_true, Bool.true_or]
      exact decide_eq_true (by show (0 : Int) ≤ ((k : Nat) : Int); omega)

def F.inP (x : Lic) (n : Int) : Bool := decide (x.pf ≤ n) && decide (n < x.pt)

namespace M

def eOtp (x : Otp) : Row := [vS x.kind, vI x.height]

theorem eOtp_inj (a b : Otp) (h : eOtp a = eOtp b) : a = b := by
  obtain ⟨a0, a1⟩ := a
  obtain ⟨b0, b1⟩ := b
  simp only [eOtp] at h
  simp at h
  simp_all

theorem eOtps_inj {a b : List Otp} : a.map eOtp = b.map eOtp ↔ a = b := List.map_inj_right eOtp_inj

theorem eOtp_iff {a b : Otp} : eOtp a = eOtp b ↔ a = b := ⟨eOtp_inj a b, fun h => h ▸ rfl⟩

theorem unOtps (xs : List Otp) : unenc (List.map eOtp) (xs.map eOtp) = some xs := unenc_of (fun a b h => eOtps_inj.1 h) xs rfl

theorem etaOtp (x : Otp) : Otp.mk x.kind x.height = x := rfl

def eLic (x : Lic) : Row := [vS x.user, vS x.id, vI x.pf, vI x.pt, vI x.fr, vI x.to, vI x.lng, .sl (x.outs.map eOtp)]

theorem eLic_inj (a b : Lic) (h : eLic a = eLic b) : a = b := by
  obtain ⟨a0, a1, a2, a3, a4, a5, a6, a7⟩ := a
  obtain ⟨b0, b1, b2, b3, b4, b5, b6, b7⟩ := b
  simp only [eLic] at h
  simp [eOtps_inj] at h
  simp_all

theorem eLics_inj {a b : List Lic} : a.map eLic = b.map eLic ↔ a = b := List.map_inj_right eLic_inj

theorem eLic_iff {a b : Lic} : eLic a = eLic b ↔ a = b := ⟨eLic_inj a b, fun h => h ▸ rfl⟩

theorem unLics (xs : List Lic) : unenc (List.map eLic) (xs.map eLic) = some xs := unenc_of (fun a b h => eLics_inj.1 h) xs rfl

theorem etaLic (x : Lic) : Lic.mk x.user x.id x.pf x.pt x.fr x.to x.lng x.outs = x := rfl

noncomputable def lksL : List Lk := [⟨37, lkp eOtp default⟩, ⟨40, lkp eLic default⟩, ⟨3, lkp eI 0⟩, ⟨9, lkp eStr ⟨#[]⟩⟩]

theorem lksL_ok : ∀ x ∈ lksL, LkOK x := by
  simp only [lksL, List.forall_mem_cons]
  exact ⟨lkp_ok, lkp_ok, lkp_ok, lkp_ok, by simp⟩

theorem nm_tv : F.isName F.sTv = true := by decide

theorem nm_u : F.isName F.sU = true := by decide

theorem nm_all : F.isName F.sAll = true := by decide

noncomputable def stLcf (x : Lic) (k : Nat) : St := ⟨[(56, vI k), (55, vI x.outs.length), (54, .sl (x.outs.map eOtp)), (1, .ptr 1 0 0)], [(1, ⟨true, 0, 0, [eLic x]⟩)]⟩

noncomputable def stLcf1 (a : Lic × Nat) : St := stLcf a.1 a.2

theorem stLcf_inj (a a' : Lic × Nat) (h : stLcf1 a = stLcf1 a') : a = a' := by
  simp only [stLcf1, stLcf] at h
  (simp [eOtps_inj, eLic_iff] at h; grind)

theorem unstLcf (x : Lic) (k : Nat) : unenc stLcf1 (St.mk [(56, (vI (↑k : Int))), (55, (vI (↑(List.length x.outs) : Int))), (54, AV.sl (List.map eOtp x.outs)), (1, .ptr 1 0 0)] [(1, Blk.mk true 0 0 [[(vS x.user), (vS x.id),
  (vI x.pf), (vI x.pt), (vI x.fr), (vI x.to), (vI x.lng), AV.sl (List.map eOtp x.outs)]])]) = some (x, k) := unenc_of stLcf_inj (x, k) rfl

theorem unstLcf0 (x : Lic)  : unenc stLcf1 (St.mk [(56, (vI (0 : Int))), (55, (vI (↑(List.length x.outs) : Int))), (54, AV.sl (List.map eOtp x.outs)), (1, .ptr 1 0 0)] [(1, Blk.mk true 0 0 [[(vS x.user), (vS x.id),
  (vI x.pf), (vI x.pt), (vI x.fr), (vI x.to), (vI x.lng), AV.sl (List.map eOtp x.outs)]])]) = some (x, 0) := unenc_of stLcf_inj (x, 0) rfl

noncomputable def outLcf (x : Lic) (k : Nat) : T (Ex × St) := .ret (.exit 1, ⟨[], []⟩)

noncomputable def prlLcf (x : Lic) (k : Nat) : Bool := decide (k ≤ 1) && F.pB (F.isTv x.outs)

noncomputable def lpLcf : Nat × (St → T (Ex × St)) := (16, lpo [56, 55, 54, 1] [1] stLcf1 (fun a => prlLcf a.1 a.2) fun a => outLcf a.1 a.2)

noncomputable def enLcf : Env := envH ty noG lksL [oOut, oName] [] [] [lpLcf]

theorem enLcf_ok : EnvOK Tryz.prog enLcf := by
  refine envH_ok lksL_ok ty_ok ?_ ?_
  · simp only [List.forall_mem_cons]
    exact ⟨okOut, okName, by simp⟩
  · simp

theorem evLcfL (x : Lic) (k : Nat) : ((exec enLcf (loopN Tryz.f77 0) (stLcf x k)).bind (lessX ([56, 55, 54, 1], [1]) ([], []) ([2], []))).val =
  (fun (q : Otp) => (fun (q_1 : List AV) => (fun (q_2 : Option (Ex × St)) => bif decide ((↑k : Int) < (↑(List.length x.outs) : Int)) then Option.bind (unenc (List.map eOtp)
  (List.map eOtp x.outs)) fun (z : List Otp) => (fun (q_3 : Option (Ex × St)) => bif decide (k < List.length z) then Option.bind (unenc encName [(vS (List.getD z k
  q).kind)]) fun (z_1 : ByteArray) => bif !F.isName z_1 then some (Ex.ret, St.mk [(2, (vI (5 : Int)))] []) else bif decide ((0 : Int) < (↑k : Int)) then Option.bind (idx
  (IntKind.wrap IntKind.i64 ((↑k : Int) - (1 : Int)))) fun (z_2 : Nat) => Option.bind (unenc (List.map eOtp) (List.map eOtp x.outs)) fun (z_3 : List Otp) => bif decide (z_2
  < List.length z_3) then bif Op.bytesLess (ByteArray.toList (List.getD z k q).kind) (ByteArray.toList (List.getD z_3 z_2 q).kind) || ByteArray.toList (List.getD z k q).kind
  == ByteArray.toList (List.getD z_3 z_2 q).kind then some (Ex.ret, St.mk [(2, (vI (8 : Int)))] []) else q_3 else none else q_3 else none) (Option.bind (unenc encOut ((vI
  (List.getD z k q).height) :: q_1)) fun (z : Int × Int × Int) => bif F.out z.fst z.snd.fst z.snd.snd then some (Ex.ret, St.mk [(2, (vI (1 : Int)))] []) else q_2) else some
  (Ex.exit (1 : Nat), St.mk [] [])) (some (Ex.normal, St.mk [(56, (vI (IntKind.wrap IntKind.i64 ((↑k : Int) + (1 : Int))))), (55, (vI (↑(List.length x.outs) : Int))), (54,
  AV.sl (List.map eOtp x.outs)), (1, .ptr 1 0 0)] [(1, Blk.mk true 0 0 [[(vS x.user), (vS x.id), (vI x.pf), (vI x.pt), (vI x.fr), (vI x.to), (vI x.lng), AV.sl (List.map eOtp
  x.outs)]])]))) [(vI (1 : Int)), (vI (10000 : Int))]) (Otp.mk (ByteArray.mk (Array.mk [])) (0 : Int)) := (execR_bind _ _ _).symm.trans (by kernel_rfl)

theorem lpLcf_ok (x : Lic) (k : Nat) (hp : prlLcf x k = true) : ∀ ex s', (outLcf x k).val = some (ex, s') → LoopOK enLcf (loopN Tryz.f77 0) (stLcf x k) ex s' := by
  simp only [prlLcf, Bool.and_eq_true, decide_eq_true_eq] at hp
  rw [F.pB_iff] at hp
  obtain ⟨h1, h2⟩ := hp
  unfold F.isTv at h2
  refine loop_gen (st := stLcf x) (out := outLcf x) (I := fun k => k ≤ 1) (n := ([56, 55, 54, 1], [1])) (e := ([], [])) (r := ([2], [])) (fun k => 1 - k) ?_ k h1
  clear h1
  intro k h1
  by_cases hk : k = 0
  · subst hk
    right
    refine ⟨1, ?_, rfl, by omega, by omega, rfl⟩
    rw [evLcfL]
    simp only [unOut, unName, preOut1, preName1, unstLcf, unstLcf0, prlLcf, outLcf, etaEnt, etaLst, etaSeg, etaRot, etaBeat, etaSpan, etaHole, etaSmp, etaStd, etaScr, etaWsh, etaGrp, etaPlc, etaPln, etaSnd, etaStrm, etaMas, etaOtp, etaLic, Option.bind_some, List.length_map, unStrs, unInts, unBools, unU8s, unEnts, unLsts, unSegs, uneL_eSegs, unRots, unBeats, unSpans, unHoles, unSmps, unStds, unScrs, unWshs, unGrps, unPlcs, unPlns, unSnds, unStrms, unMass, F.lt, F.le, cond_true, cond_false, Bool.and_true, Bool.true_and, unOtps, unLics, h2, nm_tv, List.length_cons, List.length_nil, List.getD_cons_zero, show decide (((0 : Nat) : Int) < ((0 + 1 : Nat) : Int)) = true from rfl, show decide (0 < 0 + 1) = true from rfl, show decide ((0 : Int) < ((0 : Nat) : Int)) = false from rfl, show F.out 1080 1 10000 = false from rfl, show IntKind.i64.wrap (((0 : Nat) : Int) + 1) = ((1 : Nat) : Int) by decide, Bool.not_true, stLcf, eLic]
  · obtain rfl : k = 1 := by omega
    left
    refine ⟨_, ?_, rfl, by simp, rfl⟩
    rw [evLcfL]
    simp only [unOut, unName, preOut1, preName1, unstLcf, unstLcf0, prlLcf, outLcf, etaEnt, etaLst, etaSeg, etaRot, etaBeat, etaSpan, etaHole, etaSmp, etaStd, etaScr, etaWsh, etaGrp, etaPlc, etaPln, etaSnd, etaStrm, etaMas, etaOtp, etaLic, Option.bind_some, List.length_map, unStrs, unInts, unBools, unU8s, unEnts, unLsts, unSegs, uneL_eSegs, unRots, unBeats, unSpans, unHoles, unSmps, unStds, unScrs, unWshs, unGrps, unPlcs, unPlns, unSnds, unStrms, unMass, F.lt, F.le, cond_true, cond_false, Bool.and_true, Bool.true_and, unOtps, unLics, h2, List.length_cons, List.length_nil, show decide (((1 : Nat) : Int) < ((0 + 1 : Nat) : Int)) = false from rfl]

theorem evLcf (x : Lic) : (runF enLcf false Tryz.f77 [.agg (eLic x)]).val =
  Option.bind (unenc encOut [(vI x.pf), (vI (0 : Int)), (vI (1000000000 : Int))]) fun (z : Int × Int × Int) => bif F.out z.fst z.snd.fst z.snd.snd then some ((vI (1 : Int)),
  []) else bif decide (x.pt ≤ x.pf) then some ((vI (8 : Int)), []) else bif !decide ((1000000001 : Int) < x.pt) then Option.bind (unenc encOut [(vI x.fr), (vI (0 : Int)),
  (vI (1000000000000000 : Int))]) fun (z : Int × Int × Int) => bif !F.out z.fst z.snd.fst z.snd.snd then Option.bind (unenc encOut [(vI x.to), (vI (0 : Int)), (vI
  (1000000000000000 : Int))]) fun (z : Int × Int × Int) => bif F.out z.fst z.snd.fst z.snd.snd then some ((vI (1 : Int)), []) else bif decide (x.to ≤ x.fr) then some ((vI (8
  : Int)), []) else Option.bind (unenc encOut [(vI x.lng), (vI (0 : Int)), (vI (1000000000000000 : Int))]) fun (z : Int × Int × Int) => bif F.out z.fst z.snd.fst z.snd.snd
  then some ((vI (1 : Int)), []) else bif (↑(List.length (List.map eOtp x.outs)) : Int) == (0 : Int) then some ((vI (9 : Int)), []) else bif decide ((10 : Int) <
  (↑(List.length (List.map eOtp x.outs)) : Int)) then some ((vI (2 : Int)), []) else Option.bind (unenc stLcf1 (St.mk [(56, (vI (0 : Int))), (55, (vI (↑(List.length
  (List.map eOtp x.outs)) : Int))), (54, AV.sl (List.map eOtp x.outs)), (1, .ptr 1 0 0)] [(1, Blk.mk true 0 0 [[(vS x.user), (vS x.id), (vI x.pf), (vI x.pt), (vI x.fr), (vI
  x.to), (vI x.lng), AV.sl (List.map eOtp x.outs)]])])) fun (z : Lic × Nat) => bif decide (z.snd ≤ (1 : Nat)) && F.pB (F.isTv z.fst.outs) && true then some ((vI (0 : Int)),
  []) else none else some ((vI (1 : Int)), []) else some ((vI (1 : Int)), []) := (runFR_val).symm.trans (by kernel_rfl)

def encLcf1 (x : Lic) : List AV := [.agg (eLic x)]

def encLcf (a : Lic) : List AV := encLcf1 a

theorem encLcf_inj (a a' : Lic) (h : encLcf a = encLcf a') : a = a' := by
  simp only [encLcf, encLcf1] at h
  try simp [strs_inj, ints_inj, eOtps_inj, eOtp_iff, eLics_inj, eLic_iff] at h
  grind

theorem unLcf (x : Lic) : unenc encLcf ([AV.agg [(vS x.user), (vS x.id), (vI x.pf), (vI x.pt), (vI x.fr), (vI x.to), (vI x.lng), AV.sl (List.map eOtp x.outs)]]) = some (x) := unenc_of encLcf_inj (x) rfl

theorem unLcfw (x_user : ByteArray) (x_id : ByteArray) (x_pf : Int) (x_pt : Int) (x_fr : Int) (x_to : Int) (x_lng : Int) (x_outs : List Otp) : unenc encLcf ([AV.agg [(vS x_user), (vS x_id), (vI x_pf), (vI x_pt), (vI x_fr), (vI x_to), (vI x_lng), AV.sl (List.map eOtp x_outs)]]) = some ((Lic.mk x_user x_id x_pf x_pt x_fr x_to x_lng x_outs)) := unenc_of encLcf_inj ((Lic.mk x_user x_id x_pf x_pt x_fr x_to x_lng x_outs)) rfl

noncomputable def resLcf1 (x : Lic) : AV × Heap := (vI 0, [])

noncomputable def preLcf1 (x : Lic) : Bool := F.pB (F.isLic x)

noncomputable def oLcf : Orc := orc 77 true encLcf (fun a => preLcf1 a) fun a => resLcf1 a

theorem okLcf : OrcOK Tryz.prog noG oLcf := by
  refine mk_ok Tryz.f77 (keep := false) (by kernel_rfl) (by kernel_rfl) enLcf_ok mixed (one_loop (x0 := loopN Tryz.f77 0) (by kernel_rfl) (lpo_ok ?_)) (by first | exact fun _ _ => ⟨rfl, rfl⟩ | (intro h; cases h)) ?_
  · rintro ⟨x, k⟩ hp
    exact lpLcf_ok x k hp
  rintro x hpre hok
  show (runF enLcf false _ (encLcf1 _)).val = some (resLcf1 _)
  unfold encLcf1 resLcf1
  rw [evLcf]
  rw [show preLcf1 x = F.pB (F.isLic x) from rfl, F.pB_iff] at hpre
  obtain ⟨g1, g2, g3, g4, g5, g6, g7, g8, g9, g10⟩ := hpre
  have t1 := F.pB_iff.2 g10
  unfold F.isTv at g10
  have hl : x.outs.length = 1 := by rw [g10]; rfl
  have e7 : (((x.outs.length : Nat) : Int) == 0) = false := by rw [hl]; rfl
  have e8 : decide ((10 : Int) < ((x.outs.length : Nat) : Int)) = false := by rw [hl]; rfl
  simp only [unOut, unName, preOut1, preName1, unstLcf, unstLcf0, prlLcf, outLcf, etaEnt, etaLst, etaSeg, etaRot, etaBeat, etaSpan, etaHole, etaSmp, etaStd, etaScr, etaWsh, etaGrp, etaPlc, etaPln, etaSnd, etaStrm, etaMas, etaOtp, etaLic, Option.bind_some, List.length_map, unStrs, unInts, unBools, unU8s, unEnts, unLsts, unSegs, uneL_eSegs, unRots, unBeats, unSpans, unHoles, unSmps, unStds, unScrs, unWshs, unGrps, unPlcs, unPlns, unSnds, unStrms, unMass, F.lt, F.le, cond_true, cond_false, Bool.and_true, Bool.true_and, unOtps, unLics, F.out, t1, e7, e8, decide_eq_false (show ¬ x.pf < 0 by omega), decide_eq_false (show ¬ 1000000000 < x.pf by omega), decide_eq_false (show ¬ x.pt ≤ x.pf by omega), decide_eq_false (show ¬ 1000000001 < x.pt by omega), decide_eq_false (show ¬ x.fr < 0 by omega), decide_eq_false (show ¬ 1000000000000000 < x.fr by omega), decide_eq_false (show ¬ x.to < 0 by omega), decide_eq_false (show ¬ 1000000000000000 < x.to by omega), decide_eq_false (show ¬ x.to ≤ x.fr by omega), decide_eq_false (show ¬ x.lng < 0 by omega), decide_eq_false (show ¬ 1000000000000000 < x.lng by omega), Bool.or_self, Bool.not_false, Nat.zero_le, decide_true]

noncomputable def stCkl (x : Lic) (k : Nat) : St := ⟨[(11, vI k), (10, vI (1 : Nat)), (9, .sl ([x].map eLic)), (0, .sl ([x].map eLic))], []⟩

noncomputable def stCkl1 (a : Lic × Nat) : St := stCkl a.1 a.2

theorem stCkl_inj (a a' : Lic × Nat) (h : stCkl1 a = stCkl1 a') : a = a' := by
  simp only [stCkl1, stCkl] at h
  (simp [eLic_iff] at h; grind)

theorem unstCkl (x : Lic) (k : Nat) : unenc stCkl1 (St.mk [(11, (vI (↑k : Int))), (10, (vI (↑(1 : Nat) : Int))), (9, AV.sl [[(vS x.user), (vS x.id), (vI x.pf), (vI x.pt), (vI x.fr), (vI x.to), (vI x.lng), AV.sl (List.map
  eOtp x.outs)]]), (0, AV.sl [[(vS x.user), (vS x.id), (vI x.pf), (vI x.pt), (vI x.fr), (vI x.to), (vI x.lng), AV.sl (List.map eOtp x.outs)]])] []) = some (x, k) := unenc_of stCkl_inj (x, k) rfl

theorem unstCkl0 (x : Lic)  : unenc stCkl1 (St.mk [(11, (vI (0 : Int))), (10, (vI (↑(1 : Nat) : Int))), (9, AV.sl [[(vS x.user), (vS x.id), (vI x.pf), (vI x.pt), (vI x.fr), (vI x.to), (vI x.lng), AV.sl (List.map
  eOtp x.outs)]]), (0, AV.sl [[(vS x.user), (vS x.id), (vI x.pf), (vI x.pt), (vI x.fr), (vI x.to), (vI x.lng), AV.sl (List.map eOtp x.outs)]])] []) = some (x, 0) := unenc_of stCkl_inj (x, 0) rfl

noncomputable def outCkl (x : Lic) (k : Nat) : T (Ex × St) := .ret (.exit 0, ⟨[], []⟩)

noncomputable def prlCkl (x : Lic) (k : Nat) : Bool := decide (k ≤ 1) && F.pB (F.isLic x)

noncomputable def lpCkl : Nat × (St → T (Ex × St)) := (4, lpo [11, 10, 9, 0] [] stCkl1 (fun a => prlCkl a.1 a.2) fun a => outCkl a.1 a.2)

noncomputable def enCkl : Env := envH ty noG lksL [oName, oLcf] [] [] [lpCkl]

theorem enCkl_ok : EnvOK Tryz.prog enCkl := by
  refine envH_ok lksL_ok ty_ok ?_ ?_
  · simp only [List.forall_mem_cons]
    exact ⟨okName, okLcf, by simp⟩
  · simp

theorem evCklL (x : Lic) (k : Nat) : ((exec enCkl (loopN Tryz.f37 0) (stCkl x k)).bind (lessX ([11, 10, 9, 0], []) ([], []) ([2], []))).val =
  (fun (q : Lic) => (fun (q_1 : List (List AV)) => (fun (q_2 : AV) => (fun (q_3 : Option (List Lic)) => bif decide ((↑k : Int) < (↑(1 : Nat) : Int)) then Option.bind q_3 fun
  (z : List Lic) => bif decide (k < List.length z) then Option.bind (unenc encName [(vS (List.getD z k q).user)]) fun (z_1 : ByteArray) => bif !!F.isName z_1 then
  Option.bind (unenc encName [(vS (List.getD z k q).id)]) fun (z_2 : ByteArray) => bif !F.isName z_2 then some (Ex.ret, St.mk [(2, (vI (5 : Int)))] []) else bif decide ((0 :
  Int) < (↑k : Int)) then Option.bind (idx (IntKind.wrap IntKind.i64 ((↑k : Int) - (1 : Int)))) fun (z : Nat) => Option.bind q_3 fun (z_3 : List Lic) => bif decide (z <
  List.length z_3) then Option.bind (idx (IntKind.wrap IntKind.i64 ((↑k : Int) - (1 : Int)))) fun (z : Nat) => Option.bind q_3 fun (z_4 : List Lic) => bif decide (z <
  List.length z_4) then none else none else none else Option.bind (unenc encLcf [AV.agg [(vS (List.getD z k q).user), (vS (List.getD z k q).id), (vI (List.getD z k q).pf),
  (vI (List.getD z k q).pt), (vI (List.getD z k q).fr), (vI (List.getD z k q).to), (vI (List.getD z k q).lng), AV.sl (List.map eOtp (List.getD z k q).outs)]]) fun (z : Lic)
  => bif F.pB (F.isLic z) then some (Ex.normal, St.mk [(11, (vI (IntKind.wrap IntKind.i64 ((↑k : Int) + (1 : Int))))), (10, (vI (↑(1 : Nat) : Int))), (9, q_2), (0, q_2)] [])
  else none else some (Ex.ret, St.mk [(2, (vI (5 : Int)))] []) else none else some (Ex.exit (0 : Nat), St.mk [] [])) (unenc (List.map eLic) q_1)) (AV.sl q_1)) [[(vS x.user),
  (vS x.id), (vI x.pf), (vI x.pt), (vI x.fr), (vI x.to), (vI x.lng), AV.sl (List.map eOtp x.outs)]]) (Lic.mk (ByteArray.mk (Array.mk [])) (ByteArray.mk (Array.mk [])) (0 :
  Int) (0 : Int) (0 : Int) (0 : Int) (0 : Int) []) := (execR_bind _ _ _).symm.trans (by kernel_rfl)

theorem lpCkl_ok (x : Lic) (k : Nat) (hp : prlCkl x k = true) : ∀ ex s', (outCkl x k).val = some (ex, s') → LoopOK enCkl (loopN Tryz.f37 0) (stCkl x k) ex s' := by
  simp only [prlCkl, Bool.and_eq_true, decide_eq_true_eq] at hp
  rw [F.pB_iff] at hp
  obtain ⟨h1, h2⟩ := hp
  refine loop_gen (st := stCkl x) (out := outCkl x) (I := fun k => k ≤ 1) (n := ([11, 10, 9, 0], [])) (e := ([], [])) (r := ([2], [])) (fun k => 1 - k) ?_ k h1
  clear h1
  intro k h1
  have n1 : F.isName x.user = true := by rw [h2.1]; exact nm_u
  have n2 : F.isName x.id = true := by rw [h2.2.1]; exact nm_all
  have eu : unenc (List.map eLic) [[vS x.user, vS x.id, vI x.pf, vI x.pt, vI x.fr, vI x.to, vI x.lng, .sl (x.outs.map eOtp)]] = some [x] := unLics [x]
  by_cases hk : k = 0
  · subst hk
    right
    refine ⟨1, ?_, rfl, by omega, by omega, rfl⟩
    rw [evCklL]
    simp only [unName, unLcf, unLcfw, preName1, preLcf1, unstCkl, unstCkl0, prlCkl, outCkl, etaEnt, etaLst, etaSeg, etaRot, etaBeat, etaSpan, etaHole, etaSmp, etaStd, etaScr, etaWsh, etaGrp, etaPlc, etaPln, etaSnd, etaStrm, etaMas, etaOtp, etaLic, Option.bind_some, List.length_map, unStrs, unInts, unBools, unU8s, unEnts, unLsts, unSegs, uneL_eSegs, unRots, unBeats, unSpans, unHoles, unSmps, unStds, unScrs, unWshs, unGrps, unPlcs, unPlns, unSnds, unStrms, unMass, F.lt, F.le, cond_true, cond_false, Bool.and_true, Bool.true_and, unOtps, unLics, eu, show decide (((0 : Nat) : Int) < ((1 : Nat) : Int)) = true from rfl, show decide (((1 : Nat) : Int) < ((1 : Nat) : Int)) = false from rfl, show decide ((0 : Int) < ((0 : Nat) : Int)) = false from rfl, show decide (0 < 0 + 1) = true from rfl, show IntKind.i64.wrap (((0 : Nat) : Int) + 1) = ((1 : Nat) : Int) by decide, List.length_cons, List.length_nil, List.getD_cons_zero, n1, n2, Bool.not_true, F.pB_iff.2 h2, stCkl]
    try rfl
  · obtain rfl : k = 1 := by omega
    left
    refine ⟨_, ?_, rfl, by simp, rfl⟩
    rw [evCklL]
    simp only [unName, unLcf, unLcfw, preName1, preLcf1, unstCkl, unstCkl0, prlCkl, outCkl, etaEnt, etaLst, etaSeg, etaRot, etaBeat, etaSpan, etaHole, etaSmp, etaStd, etaScr, etaWsh, etaGrp, etaPlc, etaPln, etaSnd, etaStrm, etaMas, etaOtp, etaLic, Option.bind_some, List.length_map, unStrs, unInts, unBools, unU8s, unEnts, unLsts, unSegs, uneL_eSegs, unRots, unBeats, unSpans, unHoles, unSmps, unStds, unScrs, unWshs, unGrps, unPlcs, unPlns, unSnds, unStrms, unMass, F.lt, F.le, cond_true, cond_false, Bool.and_true, Bool.true_and, unOtps, unLics, show decide (((0 : Nat) : Int) < ((1 : Nat) : Int)) = true from rfl, show decide (((1 : Nat) : Int) < ((1 : Nat) : Int)) = false from rfl, show decide ((0 : Int) < ((0 : Nat) : Int)) = false from rfl, show decide (0 < 0 + 1) = true from rfl, show IntKind.i64.wrap (((0 : Nat) : Int) + 1) = ((1 : Nat) : Int) by decide, List.length_cons, List.length_nil, List.getD_cons_zero]

theorem evCkl (x : Lic) : (runF enCkl false Tryz.f37 [.sl ([x].map eLic)]).val =
  Option.bind (unenc stCkl1 (St.mk [(11, (vI (0 : Int))), (10, (vI (↑(1 : Nat) : Int))), (9, AV.sl [[(vS x.user), (vS x.id), (vI x.pf), (vI x.pt), (vI x.fr), (vI x.to), (vI
  x.lng), AV.sl (List.map eOtp x.outs)]]), (0, AV.sl [[(vS x.user), (vS x.id), (vI x.pf), (vI x.pt), (vI x.fr), (vI x.to), (vI x.lng), AV.sl (List.map eOtp x.outs)]])] []))
  fun (z : Lic × Nat) => bif decide (z.snd ≤ (1 : Nat)) && F.pB (F.isLic z.fst) && true then some ((vI (0 : Int)), []) else none := (runFR_val).symm.trans (by kernel_rfl)

def encCkl1 (x : Lic) : List AV := [.sl ([x].map eLic)]

def encCkl (a : Lic) : List AV := encCkl1 a

theorem encCkl_inj (a a' : Lic) (h : encCkl a = encCkl a') : a = a' := by
  simp only [encCkl, encCkl1] at h
  try simp [strs_inj, ints_inj, eOtps_inj, eOtp_iff, eLics_inj, eLic_iff] at h
  grind

theorem unCkl (x : Lic) : unenc encCkl ([AV.sl [[(vS x.user), (vS x.id), (vI x.pf), (vI x.pt), (vI x.fr), (vI x.to), (vI x.lng), AV.sl (List.map eOtp x.outs)]]]) = some (x) := unenc_of encCkl_inj (x) rfl

theorem unCklw (x_user : ByteArray) (x_id : ByteArray) (x_pf : Int) (x_pt : Int) (x_fr : Int) (x_to : Int) (x_lng : Int) (x_outs : List Otp) : unenc encCkl ([AV.sl [[(vS x_user), (vS x_id), (vI x_pf), (vI x_pt), (vI x_fr), (vI x_to), (vI x_lng), AV.sl (List.map eOtp x_outs)]]]) = some ((Lic.mk x_user x_id x_pf x_pt x_fr x_to x_lng x_outs)) := unenc_of encCkl_inj ((Lic.mk x_user x_id x_pf x_pt x_fr x_to x_lng x_outs)) rfl

noncomputable def resCkl1 (x : Lic) : AV × Heap := (vI 0, [])

noncomputable def preCkl1 (x : Lic) : Bool := F.pB (F.isLic x)

noncomputable def oCkl : Orc := orc 37 true encCkl (fun a => preCkl1 a) fun a => resCkl1 a

theorem okCkl : OrcOK Tryz.prog noG oCkl := by
  refine mk_ok Tryz.f37 (keep := false) (by kernel_rfl) (by kernel_rfl) enCkl_ok mixed (one_loop (x0 := loopN Tryz.f37 0) (by kernel_rfl) (lpo_ok ?_)) (by first | exact fun _ _ => ⟨rfl, rfl⟩ | (intro h; cases h)) ?_
  · rintro ⟨x, k⟩ hp
    exact lpCkl_ok x k hp
  rintro x hpre hok
  show (runF enCkl false _ (encCkl1 _)).val = some (resCkl1 _)
  unfold encCkl1 resCkl1
  rw [evCkl]
  have e8 : decide ((200 : Int) < ((1 : Nat) : Int)) = false := rfl
  have e9 : F.pB (F.isLic x) = true := hpre
  simp only [unName, unLcf, unLcfw, preName1, preLcf1, unstCkl, unstCkl0, prlCkl, outCkl, etaEnt, etaLst, etaSeg, etaRot, etaBeat, etaSpan, etaHole, etaSmp, etaStd, etaScr, etaWsh, etaGrp, etaPlc, etaPln, etaSnd, etaStrm, etaMas, etaOtp, etaLic, Option.bind_some, List.length_map, unStrs, unInts, unBools, unU8s, unEnts, unLsts, unSegs, uneL_eSegs, unRots, unBeats, unSpans, unHoles, unSmps, unStds, unScrs, unWshs, unGrps, unPlcs, unPlns, unSnds, unStrms, unMass, F.lt, F.le, cond_true, cond_false, Bool.and_true, Bool.true_and, unOtps, unLics, e8, e9, Nat.zero_le, decide_true]

noncomputable def enPlf : Env := envH ty noG lksL [oCkl, oName, oOut] [] [] []

theorem enPlf_ok : EnvOK Tryz.prog enPlf := by
  refine envH_ok lksL_ok ty_ok ?_ ?_
  · simp only [List.forall_mem_cons]
    exact ⟨okCkl, okName, okOut, by simp⟩
  · simp

theorem evPlf (x : Lic) (n : Int) (t : Int) : (runF enPlf false Tryz.f21 [.sl ([x].map eLic), vS F.sU, vI n, .agg [vI t, vI (-1), vS F.sTv, vI 720]]).val =
  Option.bind (unenc encCkl [AV.sl [[(vS x.user), (vS x.id), (vI x.pf), (vI x.pt), (vI x.fr), (vI x.to), (vI x.lng), AV.sl (List.map eOtp x.outs)]]]) fun (z : Lic) => bif
  F.pB (F.isLic z) then Option.bind (unenc encName [(vS F.sU)]) fun (z : ByteArray) => bif !F.isName z then some ((vI (5 : Int)), []) else Option.bind (unenc encOut [(vI n),
  (vI (0 : Int)), (vI (1000000000 : Int))]) fun (z : Int × Int × Int) => bif !F.out z.fst z.snd.fst z.snd.snd then Option.bind (unenc encOut [(vI t), (vI (0 : Int)), (vI
  (1000000000000000 : Int))]) fun (z : Int × Int × Int) => bif !F.out z.fst z.snd.fst z.snd.snd then Option.bind (unenc encOut [(vI (-1 : Int)), (vI (-1 : Int)), (vI t)])
  fun (z : Int × Int × Int) => bif F.out z.fst z.snd.fst z.snd.snd then some ((vI (1 : Int)), []) else Option.bind (unenc encName [(vS F.sTv)]) fun (z : ByteArray) => bif
  !F.isName z then some ((vI (5 : Int)), []) else Option.bind (unenc encOut [(vI (720 : Int)), (vI (1 : Int)), (vI (10000 : Int))]) fun (z : Int × Int × Int) => bif F.out
  z.fst z.snd.fst z.snd.snd then some ((vI (1 : Int)), []) else some ((vI (0 : Int)), []) else some ((vI (1 : Int)), []) else some ((vI (1 : Int)), []) else none := (runFR_val).symm.trans (by kernel_rfl)

def encPlf1 (x : Lic) (n : Int) (t : Int) : List AV := [.sl ([x].map eLic), vS F.sU, vI n, .agg [vI t, vI (-1), vS F.sTv, vI 720]]

def encPlf (a : Lic × Int × Int) : List AV := encPlf1 a.1 a.2.1 a.2.2

theorem encPlf_inj (a a' : Lic × Int × Int) (h : encPlf a = encPlf a') : a = a' := by
  simp only [encPlf, encPlf1] at h
  try simp [strs_inj, ints_inj, eOtps_inj, eOtp_iff, eLics_inj, eLic_iff] at h
  grind

theorem unPlf (x : Lic) (n : Int) (t : Int) : unenc encPlf ([AV.sl [[(vS x.user), (vS x.id), (vI x.pf), (vI x.pt), (vI x.fr), (vI x.to), (vI x.lng), AV.sl (List.map eOtp x.outs)]], (vS F.sU), (vI n), AV.agg [(vI t), (vI (-1 :
  Int)), (vS F.sTv), (vI (720 : Int))]]) = some (x, n, t) := unenc_of encPlf_inj (x, n, t) rfl

theorem unPlfw (x_user : ByteArray) (x_id : ByteArray) (x_pf : Int) (x_pt : Int) (x_fr : Int) (x_to : Int) (x_lng : Int) (x_outs : List Otp) (n : Int) (t : Int) : unenc encPlf ([AV.sl [[(vS x_user), (vS x_id), (vI x_pf), (vI x_pt), (vI x_fr), (vI x_to), (vI x_lng), AV.sl (List.map eOtp x_outs)]], (vS F.sU), (vI n), AV.agg [(vI t), (vI (-1 :
  Int)), (vS F.sTv), (vI (720 : Int))]]) = some ((Lic.mk x_user x_id x_pf x_pt x_fr x_to x_lng x_outs), n, t) := unenc_of encPlf_inj ((Lic.mk x_user x_id x_pf x_pt x_fr x_to x_lng x_outs), n, t) rfl

noncomputable def resPlf1 (x : Lic) (n : Int) (t : Int) : AV × Heap := (vI 0, [])

noncomputable def prePlf1 (x : Lic) (n : Int) (t : Int) : Bool := F.pB (F.isLic x ∧ 0 ≤ n ∧ n ≤ 1000000000 ∧ 0 ≤ t ∧ t < 1000000000000000)

noncomputable def oPlf : Orc := orc 21 true encPlf (fun a => prePlf1 a.1 a.2.1 a.2.2) fun a => resPlf1 a.1 a.2.1 a.2.2

theorem okPlf : OrcOK Tryz.prog noG oPlf := by
  refine mk_ok Tryz.f21 (keep := false) (by kernel_rfl) (by kernel_rfl) enPlf_ok mixed (no_loops (by kernel_rfl)) (by first | exact fun _ _ => ⟨rfl, rfl⟩ | (intro h; cases h)) ?_
  rintro ⟨x, n, t⟩ hpre hok
  show (runF enPlf false _ (encPlf1 _ _ _)).val = some (resPlf1 _ _ _)
  unfold encPlf1 resPlf1
  rw [evPlf]
  have hq : F.pB (F.isLic x ∧ 0 ≤ n ∧ n ≤ 1000000000 ∧ 0 ≤ t ∧ t < 1000000000000000) = true := hpre
  obtain ⟨e9, g1, g2, g3, g4⟩ := F.pB_iff.1 hq
  simp only [unCkl, unName, unOut, unCklw, preCkl1, preName1, preOut1, etaEnt, etaLst, etaSeg, etaRot, etaBeat, etaSpan, etaHole, etaSmp, etaStd, etaScr, etaWsh, etaGrp, etaPlc, etaPln, etaSnd, etaStrm, etaMas, etaOtp, etaLic, Option.bind_some, List.length_map, unStrs, unInts, unBools, unU8s, unEnts, unLsts, unSegs, uneL_eSegs, unRots, unBeats, unSpans, unHoles, unSmps, unStds, unScrs, unWshs, unGrps, unPlcs, unPlns, unSnds, unStrms, unMass, F.lt, F.le, cond_true, cond_false, Bool.and_true, Bool.true_and, unOtps, unLics, F.pB_iff.2 e9, nm_u, nm_tv, F.out, decide_eq_false (show ¬ n < 0 by omega), decide_eq_false (show ¬ 1000000000 < n by omega), decide_eq_false (show ¬ t < 0 by omega), decide_eq_false (show ¬ 1000000000000000 < t by omega), decide_eq_false (show ¬ t < -1 by omega), show decide ((-1 : Int) < -1) = false from rfl, show decide ((720 : Int) < 1) = false from rfl, show decide ((10000 : Int) < 720) = false from rfl, Bool.or_self, Bool.not_false, Bool.not_true]

noncomputable def enPcl : Env := envH ty noG lksL [] [] [] []

theorem enPcl_ok : EnvOK Tryz.prog enPcl := by
  refine envH_ok lksL_ok ty_ok ?_ ?_
  · simp
  · simp

theorem evPcl (o : Otp) (a b : Int) (k : ByteArray) (h : Int) : (runF enPcl false Tryz.f40 [.agg (eOtp o), .pel [vI a, vI b, vS k, vI h] 0]).val =
  some ((vB (bif ByteArray.toList o.kind == ByteArray.toList k then decide (h ≤ o.height) else false)), []) := (runFR_val).symm.trans (by kernel_rfl)

def encPcl1 (o : Otp) (a b : Int) (k : ByteArray) (h : Int) : List AV := [.agg (eOtp o), .pel [vI a, vI b, vS k, vI h] 0]

def encPcl (a : Otp × Int × Int × ByteArray × Int) : List AV := encPcl1 a.1 a.2.1 a.2.2.1 a.2.2.2.1 a.2.2.2.2

theorem encPcl_inj (a a' : Otp × Int × Int × ByteArray × Int) (h : encPcl a = encPcl a') : a = a' := by
  simp only [encPcl, encPcl1] at h
  try simp [strs_inj, ints_inj, eOtps_inj, eOtp_iff, eLics_inj, eLic_iff] at h
  grind

theorem unPcl (o : Otp) (a b : Int) (k : ByteArray) (h : Int) : unenc encPcl ([AV.agg [(vS o.kind), (vI o.height)], AV.pel [(vI a), (vI b), (vS k), (vI h)] (0 : Nat)]) = some (o, a, b, k, h) := unenc_of encPcl_inj (o, a, b, k, h) rfl

theorem unPclw (o_kind : ByteArray) (o_height : Int) (a : Int) (b : Int) (k : ByteArray) (h : Int) : unenc encPcl ([AV.agg [(vS o_kind), (vI o_height)], AV.pel [(vI a), (vI b), (vS k), (vI h)] (0 : Nat)]) = some ((Otp.mk o_kind o_height), a, b, k, h) := unenc_of encPcl_inj ((Otp.mk o_kind o_height), a, b, k, h) rfl

noncomputable def resPcl1 (o : Otp) (a b : Int) (k : ByteArray) (h : Int) : AV × Heap := (vB (F.doesO k h o), [])

noncomputable def prePcl1 (o : Otp) (a b : Int) (k : ByteArray) (h : Int) : Bool := true

noncomputable def oPcl : Orc := orc 40 true encPcl (fun a => prePcl1 a.1 a.2.1 a.2.2.1 a.2.2.2.1 a.2.2.2.2) fun a => resPcl1 a.1 a.2.1 a.2.2.1 a.2.2.2.1 a.2.2.2.2

theorem okPcl : OrcOK Tryz.prog noG oPcl := by
  refine mk_ok Tryz.f40 (keep := false) (by kernel_rfl) (by kernel_rfl) enPcl_ok mixed (no_loops (by kernel_rfl)) (by first | exact fun _ _ => ⟨rfl, rfl⟩ | (intro h; cases h)) ?_
  rintro ⟨o, a, b, k, h⟩ hpre hok
  show (runF enPcl false _ (encPcl1 _ _ _ _ _)).val = some (resPcl1 _ _ _ _ _)
  unfold encPcl1 resPcl1
  rw [evPcl]
  simp only [etaEnt, etaLst, etaSeg, etaRot, etaBeat, etaSpan, etaHole, etaSmp, etaStd, etaScr, etaWsh, etaGrp, etaPlc, etaPln, etaSnd, etaStrm, etaMas, etaOtp, etaLic, Option.bind_some, List.length_map, unStrs, unInts, unBools, unU8s, unEnts, unLsts, unSegs, uneL_eSegs, unRots, unBeats, unSpans, unHoles, unSmps, unStds, unScrs, unWshs, unGrps, unPlcs, unPlns, unSnds, unStrms, unMass, F.lt, F.le, cond_true, cond_false, Bool.and_true, Bool.true_and, unOtps, unLics, F.doesO]
  cases (o.kind.toList == k.toList) <;> rfl

noncomputable def stOtx (l : List Otp) (a : Int) (b : Int) (k2 : ByteArray) (h : Int) (k : Nat) : St := ⟨[(8, vI k), (7, vI l.length), (1, .fn 40 [.pel [vI a, vI b, vS k2, vI h] 0]), (0, .sl (l.map eOtp))], []⟩

noncomputable def stOtx1 (a : (List Otp) × Int × Int × ByteArray × Int × Nat) : St := stOtx a.1 a.2.1 a.2.2.1 a.2.2.2.1 a.2.2.2.2.1 a.2.2.2.2.2

theorem stOtx_inj (a a' : (List Otp) × Int × Int × ByteArray × Int × Nat) (h : stOtx1 a = stOtx1 a') : a = a' := by
  simp only [stOtx1, stOtx] at h
  try simp [strs_inj, ints_inj, eOtps_inj, eOtp_iff, eLics_inj, eLic_iff] at h
  grind

theorem unstOtx (l : List Otp) (a : Int) (b : Int) (k2 : ByteArray) (h : Int) (k : Nat) : unenc stOtx1 (St.mk [(8, (vI (↑k : Int))), (7, (vI (↑(List.length l) : Int))), (1, AV.fn (40 : FuncId) [AV.pel [(vI a), (vI b), (vS k2), (vI h)] (0 : Nat)]), (0, AV.sl (List.map eOtp
  l))] []) = some (l, a, b, k2, h, k) := unenc_of stOtx_inj (l, a, b, k2, h, k) rfl

theorem unstOtx0 (l : List Otp) (a : Int) (b : Int) (k2 : ByteArray) (h : Int)  : unenc stOtx1 (St.mk [(8, (vI (0 : Int))), (7, (vI (↑(List.length l) : Int))), (1, AV.fn (40 : FuncId) [AV.pel [(vI a), (vI b), (vS k2), (vI h)] (0 : Nat)]), (0, AV.sl (List.map eOtp
  l))] []) = some (l, a, b, k2, h, 0) := unenc_of stOtx_inj (l, a, b, k2, h, 0) rfl

noncomputable def outOtx (l : List Otp) (a : Int) (b : Int) (k2 : ByteArray) (h : Int) (k : Nat) : T (Ex × St) := .ifB (F.found (F.findI (F.doesO k2 h) k (l.drop k))) (.ret (.ret, ⟨[(4, vI ((F.got (F.findI (F.doesO k2 h) k (l.drop k)) 0 : Nat) : Int))], []⟩)) (.ret (.exit 0, ⟨[], []⟩))

noncomputable def prlOtx (l : List Otp) (a : Int) (b : Int) (k2 : ByteArray) (h : Int) (k : Nat) : Bool := decide (l.length ≤ 9223372036854775807) && decide (k ≤ l.length)

noncomputable def lpOtx : Nat × (St → T (Ex × St)) := (2, lpo [8, 7, 1, 0] [] stOtx1 (fun a => prlOtx a.1 a.2.1 a.2.2.1 a.2.2.2.1 a.2.2.2.2.1 a.2.2.2.2.2) fun a => outOtx a.1 a.2.1 a.2.2.1 a.2.2.2.1 a.2.2.2.2.1 a.2.2.2.2.2)

noncomputable def enOtx : Env := envH ty noG lksL [oPcl] [] [] [lpOtx]

theorem enOtx_ok : EnvOK Tryz.prog enOtx := by
  refine envH_ok lksL_ok ty_ok ?_ ?_
  · simp only [List.forall_mem_cons]
    exact ⟨okPcl, by simp⟩
  · simp

theorem evOtxL (l : List Otp) (a : Int) (b : Int) (k2 : ByteArray) (h : Int) (k : Nat) : ((exec enOtx (loopN Tryz.f80 0) (stOtx l a b k2 h k)).bind (lessX ([8, 7, 1, 0], []) ([], []) ([4], []))).val =
  bif decide ((↑k : Int) < (↑(List.length l) : Int)) then Option.bind (unenc (List.map eOtp) (List.map eOtp l)) fun (z : List Otp) => bif decide (k < List.length z) then
  Option.bind (unenc encPcl [AV.agg [(vS (List.getD z k (Otp.mk (ByteArray.mk (Array.mk [])) (0 : Int))).kind), (vI (List.getD z k (Otp.mk (ByteArray.mk (Array.mk [])) (0 :
  Int))).height)], AV.pel [(vI a), (vI b), (vS k2), (vI h)] (0 : Nat)]) fun (z : Otp × Int × Int × ByteArray × Int) => bif F.doesO z.snd.snd.snd.fst z.snd.snd.snd.snd z.fst
  then some (Ex.ret, St.mk [(4, (vI (↑k : Int)))] []) else some (Ex.normal, St.mk [(8, (vI (IntKind.wrap IntKind.i64 ((↑k : Int) + (1 : Int))))), (7, (vI (↑(List.length l) :
  Int))), (1, AV.fn (40 : FuncId) [AV.pel [(vI a), (vI b), (vS k2), (vI h)] (0 : Nat)]), (0, AV.sl (List.map eOtp l))] []) else none else some (Ex.exit (0 : Nat), St.mk []
  []) := (execR_bind _ _ _).symm.trans (by kernel_rfl)

theorem lpOtx_ok (l : List Otp) (a : Int) (b : Int) (k2 : ByteArray) (h : Int) (k : Nat) (hp : prlOtx l a b k2 h k = true) : ∀ ex s', (outOtx l a b k2 h k).val = some (ex, s') → LoopOK enOtx (loopN Tryz.f80 0) (stOtx l a b k2 h k) ex s' := by
  simp only [prlOtx, Bool.and_eq_true, decide_eq_true_eq] at hp
  refine loop_gen (st := stOtx l a b k2 h) (out := outOtx l a b k2 h) (I := fun k => k ≤ l.length) (n := ([8, 7, 1, 0], [])) (e := ([], [])) (r := ([4], [])) (fun k => l.length - k) ?_ k hp.2
  intro k hk
  by_cases hlt : k < l.length
  · have hy : l[k]? = some l[k] := List.getElem?_eq_getElem hlt
    generalize l[k] = y at hy
    have hd := drop_at hy
    cases hc : (F.doesO k2 h) y
    · right
      refine ⟨k + 1, ?_, rfl, hlt, by omega, ?_⟩
      · rw [evOtxL]
        simp only [unPcl, unPclw, prePcl1, unstOtx, unstOtx0, prlOtx, outOtx, etaEnt, etaLst, etaSeg, etaRot, etaBeat, etaSpan, etaHole, etaSmp, etaStd, etaScr, etaWsh, etaGrp, etaPlc, etaPln, etaSnd, etaStrm, etaMas, etaOtp, etaLic, Option.bind_some, List.length_map, unStrs, unInts, unBools, unU8s, unEnts, unLsts, unSegs, uneL_eSegs, unRots, unBeats, unSpans, unHoles, unSmps, unStds, unScrs, unWshs, unGrps, unPlcs, unPlns, unSnds, unStrms, unMass, F.lt, F.le, cond_true, cond_false, Bool.and_true, Bool.true_and, unOtps, unLics, cast_lt hlt, decide_eq_true hlt, next_at hlt hp.1, getD_at hy, hc, stOtx]
        try rfl
      · simp only [outOtx, hd, F.findI, hc, cond_false]
    · left
      refine ⟨(.ret, ⟨[(4, vI k)], []⟩), ?_, ?_, by simp, rfl⟩
      · rw [evOtxL]
        simp only [unPcl, unPclw, prePcl1, unstOtx, unstOtx0, prlOtx, outOtx, etaEnt, etaLst, etaSeg, etaRot, etaBeat, etaSpan, etaHole, etaSmp, etaStd, etaScr, etaWsh, etaGrp, etaPlc, etaPln, etaSnd, etaStrm, etaMas, etaOtp, etaLic, Option.bind_some, List.length_map, unStrs, unInts, unBools, unU8s, unEnts, unLsts, unSegs, uneL_eSegs, unRots, unBeats, unSpans, unHoles, unSmps, unStds, unScrs, unWshs, unGrps, unPlcs, unPlns, unSnds, unStrms, unMass, F.lt, F.le, cond_true, cond_false, Bool.and_true, Bool.true_and, unOtps, unLics, cast_lt hlt, decide_eq_true hlt, next_at hlt hp.1, getD_at hy, hc, stOtx]
      · simp only [outOtx, hd, F.findI, hc, cond_true, F.found, F.got]
        rfl
  · have : k = l.length := by omega
    subst this
    left
    refine ⟨(.exit 0, ⟨[], []⟩), ?_, ?_, by simp, rfl⟩
    · rw [evOtxL]; simp
    · simp [outOtx, F.findI, F.found, T.val]

theorem evOtx (l : List Otp) (a : Int) (b : Int) (k2 : ByteArray) (h : Int) : (runF enOtx false Tryz.f80 [.sl (l.map eOtp), .fn 40 [.pel [vI a, vI b, vS k2, vI h] 0]]).val =
  Option.bind (unenc stOtx1 (St.mk [(8, (vI (0 : Int))), (7, (vI (↑(List.length (List.map eOtp l)) : Int))), (1, AV.fn (40 : FuncId) [AV.pel [(vI a), (vI b), (vS k2), (vI
  h)] (0 : Nat)]), (0, AV.sl (List.map eOtp l))] [])) fun (z : List Otp × Int × Int × ByteArray × Int × Nat) => bif decide (List.length z.fst ≤ (9223372036854775807 : Nat))
  && decide (z.snd.snd.snd.snd.snd ≤ List.length z.fst) && true then bif F.found (F.findI (F.doesO z.snd.snd.snd.fst z.snd.snd.snd.snd.fst) z.snd.snd.snd.snd.snd (List.drop
  z.snd.snd.snd.snd.snd z.fst)) then some ((vI (↑(F.got (F.findI (F.doesO z.snd.snd.snd.fst z.snd.snd.snd.snd.fst) z.snd.snd.snd.snd.snd (List.drop z.snd.snd.snd.snd.snd
  z.fst)) (0 : Nat)) : Int)), []) else some ((vI (-1 : Int)), []) else none := (runFR_val).symm.trans (by kernel_rfl)

def encOtx1 (l : List Otp) (a : Int) (b : Int) (k2 : ByteArray) (h : Int) : List AV := [.sl (l.map eOtp), .fn 40 [.pel [vI a, vI b, vS k2, vI h] 0]]

def encOtx (a : (List Otp) × Int × Int × ByteArray × Int) : List AV := encOtx1 a.1 a.2.1 a.2.2.1 a.2.2.2.1 a.2.2.2.2

theorem encOtx_inj (a a' : (List Otp) × Int × Int × ByteArray × Int) (h : encOtx a = encOtx a') : a = a' := by
  simp only [encOtx, encOtx1] at h
  try simp [strs_inj, ints_inj, eOtps_inj, eOtp_iff, eLics_inj, eLic_iff] at h
  grind

theorem unOtx (l : List Otp) (a : Int) (b : Int) (k2 : ByteArray) (h : Int) : unenc encOtx ([AV.sl (List.map eOtp l), AV.fn (40 : FuncId) [AV.pel [(vI a), (vI b), (vS k2), (vI h)] (0 : Nat)]]) = some (l, a, b, k2, h) := unenc_of encOtx_inj (l, a, b, k2, h) rfl

noncomputable def resOtx1 (l : List Otp) (a : Int) (b : Int) (k2 : ByteArray) (h : Int) : AV × Heap := (vI (F.idxI (F.findI (F.doesO k2 h) 0 l)), [])

noncomputable def preOtx1 (l : List Otp) (a : Int) (b : Int) (k2 : ByteArray) (h : Int) : Bool := true

noncomputable def oOtx : Orc := orc 80 true encOtx (fun a => preOtx1 a.1 a.2.1 a.2.2.1 a.2.2.2.1 a.2.2.2.2) fun a => resOtx1 a.1 a.2.1 a.2.2.1 a.2.2.2.1 a.2.2.2.2

theorem okOtx : OrcOK Tryz.prog noG oOtx := by
  refine mk_ok Tryz.f80 (keep := false) (by kernel_rfl) (by kernel_rfl) enOtx_ok mixed (one_loop (x0 := loopN Tryz.f80 0) (by kernel_rfl) (lpo_ok ?_)) (by first | exact fun _ _ => ⟨rfl, rfl⟩ | (intro h; cases h)) ?_
  · rintro ⟨l, a, b, k2, h, k⟩ hp
    exact lpOtx_ok l a b k2 h k hp
  rintro ⟨l, a, b, k2, h⟩ hpre hok
  show (runF enOtx false _ (encOtx1 _ _ _ _ _)).val = some (resOtx1 _ _ _ _ _)
  unfold encOtx1 resOtx1
  rw [evOtx]
  have hx : l.length ≤ 9223372036854775807 := by simpa using (okA_sl (hok _ (List.mem_cons_self ..))).1
  simp only [unPcl, unPclw, prePcl1, unstOtx, unstOtx0, prlOtx, outOtx, etaEnt, etaLst, etaSeg, etaRot, etaBeat, etaSpan, etaHole, etaSmp, etaStd, etaScr, etaWsh, etaGrp, etaPlc, etaPln, etaSnd, etaStrm, etaMas, etaOtp, etaLic, Option.bind_some, List.length_map, unStrs, unInts, unBools, unU8s, unEnts, unLsts, unSegs, uneL_eSegs, unRots, unBeats, unSpans, unHoles, unSmps, unStds, unScrs, unWshs, unGrps, unPlcs, unPlns, unSnds, unStrms, unMass, F.lt, F.le, cond_true, cond_false, Bool.and_true, Bool.true_and, unOtps, unLics, hx, List.drop_zero, Nat.zero_le, decide_true, F.idxI]
  cases F.found (F.findI (F.doesO k2 h) 0 l) <;> rfl

noncomputable def enOtxC : Env := envH ty noG lksL [oOtx] [] [] []

theorem enOtxC_ok : EnvOK Tryz.prog enOtxC := by
  refine envH_ok lksL_ok ty_ok ?_ ?_
  · simp only [List.forall_mem_cons]
    exact ⟨okOtx, by simp⟩
  · simp

theorem evOtxC (l : List Otp) (a : Int) (b : Int) (k2 : ByteArray) (h : Int) : (runF enOtxC false Tryz.f39 [.sl (l.map eOtp), .fn 40 [.pel [vI a, vI b, vS k2, vI h] 0]]).val =
  Option.bind (unenc encOtx [AV.sl (List.map eOtp l), AV.fn (40 : FuncId) [AV.pel [(vI a), (vI b), (vS k2), (vI h)] (0 : Nat)]]) fun (z : List Otp × Int × Int × ByteArray ×
  Int) => some ((vB (decide ((0 : Int) ≤ F.idxI (F.findI (F.doesO z.snd.snd.snd.fst z.snd.snd.snd.snd) (0 : Nat) z.fst)))), []) := (runFR_val).symm.trans (by kernel_rfl)

def encOtxC1 (l : List Otp) (a : Int) (b : Int) (k2 : ByteArray) (h : Int) : List AV := [.sl (l.map eOtp), .fn 40 [.pel [vI a, vI b, vS k2, vI h] 0]]

def encOtxC (a : (List Otp) × Int × Int × ByteArray × Int) : List AV := encOtxC1 a.1 a.2.1 a.2.2.1 a.2.2.2.1 a.2.2.2.2

theorem encOtxC_inj (a a' : (List Otp) × Int × Int × ByteArray × Int) (h : encOtxC a = encOtxC a') : a = a' := by
  simp only [encOtxC, encOtxC1] at h
  try simp [strs_inj, ints_inj, eOtps_inj, eOtp_iff, eLics_inj, eLic_iff] at h
  grind

theorem unOtxC (l : List Otp) (a : Int) (b : Int) (k2 : ByteArray) (h : Int) : unenc encOtxC ([AV.sl (List.map eOtp l), AV.fn (40 : FuncId) [AV.pel [(vI a), (vI b), (vS k2), (vI h)] (0 : Nat)]]) = some (l, a, b, k2, h) := unenc_of encOtxC_inj (l, a, b, k2, h) rfl

noncomputable def resOtxC1 (l : List Otp) (a : Int) (b : Int) (k2 : ByteArray) (h : Int) : AV × Heap := (vB (l.any (F.doesO k2 h)), [])

noncomputable def preOtxC1 (l : List Otp) (a : Int) (b : Int) (k2 : ByteArray) (h : Int) : Bool := true

noncomputable def oOtxC : Orc := orc 39 true encOtxC (fun a => preOtxC1 a.1 a.2.1 a.2.2.1 a.2.2.2.1 a.2.2.2.2) fun a => resOtxC1 a.1 a.2.1 a.2.2.1 a.2.2.2.1 a.2.2.2.2

theorem okOtxC : OrcOK Tryz.prog noG oOtxC := by
  refine mk_ok Tryz.f39 (keep := false) (by kernel_rfl) (by kernel_rfl) enOtxC_ok mixed (no_loops (by kernel_rfl)) (by first | exact fun _ _ => ⟨rfl, rfl⟩ | (intro h; cases h)) ?_
  rintro ⟨l, a, b, k2, h⟩ hpre hok
  show (runF enOtxC false _ (encOtxC1 _ _ _ _ _)).val = some (resOtxC1 _ _ _ _ _)
  unfold encOtxC1 resOtxC1
  rw [evOtxC]
  simp only [unOtx, preOtx1, etaEnt, etaLst, etaSeg, etaRot, etaBeat, etaSpan, etaHole, etaSmp, etaStd, etaScr, etaWsh, etaGrp, etaPlc, etaPln, etaSnd, etaStrm, etaMas, etaOtp, etaLic, Option.bind_some, List.length_map, unStrs, unInts, unBools, unU8s, unEnts, unLsts, unSegs, uneL_eSegs, unRots, unBeats, unSpans, unHoles, unSmps, unStds, unScrs, unWshs, unGrps, unPlcs, unPlns, unSnds, unStrms, unMass, F.lt, F.le, cond_true, cond_false, Bool.and_true, Bool.true_and, unOtps, unLics, F.idx_any]

noncomputable def enPrm : Env := envH ty noG lksL [oOtxC] [] [] []

theorem enPrm_ok : EnvOK Tryz.prog enPrm := by
  refine envH_ok lksL_ok ty_ok ?_ ?_
  · simp only [List.forall_mem_cons]
    exact ⟨okOtxC, by simp⟩
  · simp

theorem evPrm (x : Lic) (n : Int) (t : Int) : (runF enPrm false Tryz.f22 [.agg (eLic x), vS F.sU, vI n, .agg [vI t, vI (-1), vS F.sTv, vI 720]]).val =
  bif bif bif bif bif ByteArray.toList x.user == ByteArray.toList F.sU then decide (x.pf ≤ n) else false then decide (n < x.pt) else false then decide (x.fr ≤ t) else false
  then decide (t < x.to) else false then Option.bind (unenc encOtxC [AV.sl (List.map eOtp x.outs), AV.fn (40 : Nat) [AV.pel [(vI t), (vI (-1 : Int)), (vS F.sTv), (vI (720 :
  Int))] (0 : Nat)]]) fun (z : List Otp × Int × Int × ByteArray × Int) => bif List.any z.fst (F.doesO z.snd.snd.snd.fst z.snd.snd.snd.snd) && !bif x.lng == (0 : Int) then
  true else (-1 : Int) == (-1 : Int) then some ((vB (bif List.any z.fst (F.doesO z.snd.snd.snd.fst z.snd.snd.snd.snd) then decide (t < IntKind.wrap IntKind.i64 ((-1 : Int) +
  x.lng)) else false)), []) else bif List.any z.fst (F.doesO z.snd.snd.snd.fst z.snd.snd.snd.snd) && !bif x.lng == (0 : Int) then true else (-1 : Int) == (-1 : Int) then
  none else some ((vB (bif List.any z.fst (F.doesO z.snd.snd.snd.fst z.snd.snd.snd.snd) then true else false)), []) else some ((vB false), []) := (runFR_val).symm.trans (by kernel_rfl)

def encPrm1 (x : Lic) (n : Int) (t : Int) : List AV := [.agg (eLic x), vS F.sU, vI n, .agg [vI t, vI (-1), vS F.sTv, vI 720]]

def encPrm (a : Lic × Int × Int) : List AV := encPrm1 a.1 a.2.1 a.2.2

theorem encPrm_inj (a a' : Lic × Int × Int) (h : encPrm a = encPrm a') : a = a' := by
  simp only [encPrm, encPrm1] at h
  try simp [strs_inj, ints_inj, eOtps_inj, eOtp_iff, eLics_inj, eLic_iff] at h
  grind

theorem unPrm (x : Lic) (n : Int) (t : Int) : unenc encPrm ([AV.agg [(vS x.user), (vS x.id), (vI x.pf), (vI x.pt), (vI x.fr), (vI x.to), (vI x.lng), AV.sl (List.map eOtp x.outs)], (vS F.sU), (vI n), AV.agg [(vI t), (vI (-1 : Int)),
  (vS F.sTv), (vI (720 : Int))]]) = some (x, n, t) := unenc_of encPrm_inj (x, n, t) rfl

theorem unPrmw (x_user : ByteArray) (x_id : ByteArray) (x_pf : Int) (x_pt : Int) (x_fr : Int) (x_to : Int) (x_lng : Int) (x_outs : List Otp) (n : Int) (t : Int) : unenc encPrm ([AV.agg [(vS x_user), (vS x_id), (vI x_pf), (vI x_pt), (vI x_fr), (vI x_to), (vI x_lng), AV.sl (List.map eOtp x_outs)], (vS F.sU), (vI n), AV.agg [(vI t), (vI (-1 : Int)),
  (vS F.sTv), (vI (720 : Int))]]) = some ((Lic.mk x_user x_id x_pf x_pt x_fr x_to x_lng x_outs), n, t) := unenc_of encPrm_inj ((Lic.mk x_user x_id x_pf x_pt x_fr x_to x_lng x_outs), n, t) rfl

noncomputable def resPrm1 (x : Lic) (n : Int) (t : Int) : AV × Heap := (vB (F.le x.pf n && F.lt n x.pt), [])

noncomputable def prePrm1 (x : Lic) (n : Int) (t : Int) : Bool := F.pB (F.isLic x ∧ t = x.fr)

noncomputable def oPrm : Orc := orc 22 true encPrm (fun a => prePrm1 a.1 a.2.1 a.2.2) fun a => resPrm1 a.1 a.2.1 a.2.2

theorem okPrm : OrcOK Tryz.prog noG oPrm := by
  refine mk_ok Tryz.f22 (keep := false) (by kernel_rfl) (by kernel_rfl) enPrm_ok mixed (no_loops (by kernel_rfl)) (by first | exact fun _ _ => ⟨rfl, rfl⟩ | (intro h; cases h)) ?_
  rintro ⟨x, n, t⟩ hpre hok
  show (runF enPrm false _ (encPrm1 _ _ _)).val = some (resPrm1 _ _ _)
  unfold encPrm1 resPrm1
  rw [evPrm]
  have hq : F.pB (F.isLic x ∧ t = x.fr) = true := hpre
  obtain ⟨⟨g1, g2, g3, g4, g5, g6, g7, g8, g9, g10⟩, rfl⟩ := F.pB_iff.1 hq
  have e1 : (x.user.toList == F.sU.toList) = true := by rw [g1]; exact beq_self_eq_true _
  have e2 : x.outs.any (F.doesO F.sTv 720) = true := by
    rw [show x.outs = [⟨F.sTv, 1080⟩] from g10]
    simp [F.doesO]
  have e3 : (x.lng == 0) = true := by rw [g9]; rfl
  simp only [unOtxC, preOtxC1, etaEnt, etaLst, etaSeg, etaRot, etaBeat, etaSpan, etaHole, etaSmp, etaStd, etaScr, etaWsh, etaGrp, etaPlc, etaPln, etaSnd, etaStrm, etaMas, etaOtp, etaLic, Option.bind_some, List.length_map, unStrs, unInts, unBools, unU8s, unEnts, unLsts, unSegs, uneL_eSegs, unRots, unBeats, unSpans, unHoles, unSmps, unStds, unScrs, unWshs, unGrps, unPlcs, unPlns, unSnds, unStrms, unMass, F.lt, F.le, cond_true, cond_false, Bool.and_true, Bool.true_and, unOtps, unLics, e1, e2, e3, decide_eq_true (Int.le_refl x.fr), decide_eq_true (show x.fr < x.to by omega), Bool.not_true, Bool.and_false]
  cases decide (x.pf ≤ n) <;> cases decide (n < x.pt) <;> rfl

noncomputable def stMay (x : Lic) (n : Int) (t : Int) (k : Nat) : St := ⟨[(24, vI k), (23, vI (1 : Nat)), (22, .sl ([x].map eLic)), (7, .ptr 7 0 0), (2, vI n), (1, vS F.sU)], [(7, ⟨true, 0, 0, [[vI t, vI (-1), vS F.sTv, vI 720]]⟩)]⟩

noncomputable def stMay1 (a : Lic × Int × Int × Nat) : St := stMay a.1 a.2.1 a.2.2.1 a.2.2.2

theorem stMay_inj (a a' : Lic × Int × Int × Nat) (h : stMay1 a = stMay1 a') : a = a' := by
  simp only [stMay1, stMay] at h
  (simp [eLic_iff] at h; grind)

theorem unstMay (x : Lic) (n : Int) (t : Int) (k : Nat) : unenc stMay1 (St.mk [(24, (vI (↑k : Int))), (23, (vI (↑(1 : Nat) : Int))), (22, AV.sl [[(vS x.user), (vS x.id), (vI x.pf), (vI x.pt), (vI x.fr), (vI x.to), (vI x.lng), AV.sl (List.map
  eOtp x.outs)]]), (7, .ptr 7 0 0), (2, (vI n)), (1, (vS F.sU))] [(7, Blk.mk true 0 0 [[(vI t), (vI (-1 : Int)), (vS F.sTv), (vI (720 : Int))]])]) = some (x, n, t, k) := unenc_of stMay_inj (x, n, t, k) rfl

theorem unstMay0 (x : Lic) (n : Int) (t : Int)  : unenc stMay1 (St.mk [(24, (vI (0 : Int))), (23, (vI (↑(1 : Nat) : Int))), (22, AV.sl [[(vS x.user), (vS x.id), (vI x.pf), (vI x.pt), (vI x.fr), (vI x.to), (vI x.lng), AV.sl (List.map
  eOtp x.outs)]]), (7, .ptr 7 0 0), (2, (vI n)), (1, (vS F.sU))] [(7, Blk.mk true 0 0 [[(vI t), (vI (-1 : Int)), (vS F.sTv), (vI (720 : Int))]])]) = some (x, n, t, 0) := unenc_of stMay_inj (x, n, t, 0) rfl

noncomputable def outMay (x : Lic) (n : Int) (t : Int) (k : Nat) : T (Ex × St) := .ifB (decide (k = 0) && F.inP x n) (.ret (.ret, ⟨[(10, vI 0), (9, vB true), (8, vS x.id)], []⟩)) (.ret (.exit 0, ⟨[], []⟩))

noncomputable def prlMay (x : Lic) (n : Int) (t : Int) (k : Nat) : Bool := decide (k ≤ 1) && F.pB (F.isLic x ∧ t = x.fr)

noncomputable def lpMay : Nat × (St → T (Ex × St)) := (5, lpo [24, 23, 22, 7, 2, 1] [7] stMay1 (fun a => prlMay a.1 a.2.1 a.2.2.1 a.2.2.2) fun a => outMay a.1 a.2.1 a.2.2.1 a.2.2.2)

noncomputable def enMay : Env := envH ty noG lksL [oPlf, oPrm] [] [] [lpMay]

theorem enMay_ok : EnvOK Tryz.prog enMay := by
  refine envH_ok lksL_ok ty_ok ?_ ?_
  · simp only [List.forall_mem_cons]
    exact ⟨okPlf, okPrm, by simp⟩
  · simp

theorem evMayL (x : Lic) (n : Int) (t : Int) (k : Nat) : ((exec enMay (loopN Tryz.f6 0) (stMay x n t k)).bind (lessX ([24, 23, 22, 7, 2, 1], [7]) ([], []) ([10, 9, 8], []))).val =
  (fun (q : Lic) => (fun (q_1 : List AV) => (fun (q_2 : List (List AV)) => bif decide ((↑k : Int) < (↑(1 : Nat) : Int)) then Option.bind (unenc (List.map eLic) q_2) fun (z :
  List Lic) => bif decide (k < List.length z) then Option.bind (unenc encPrm [AV.agg [(vS (List.getD z k q).user), (vS (List.getD z k q).id), (vI (List.getD z k q).pf), (vI
  (List.getD z k q).pt), (vI (List.getD z k q).fr), (vI (List.getD z k q).to), (vI (List.getD z k q).lng), AV.sl (List.map eOtp (List.getD z k q).outs)], (vS F.sU), (vI n),
  AV.agg q_1]) fun (z_1 : Lic × Int × Int) => bif F.pB (F.isLic z_1.fst ∧ z_1.snd.snd = z_1.fst.fr) then bif F.le z_1.fst.pf z_1.snd.fst && F.lt z_1.snd.fst z_1.fst.pt then
  some (Ex.ret, St.mk [(10, (vI (0 : Int))), (9, (vB true)), (8, (vS (List.getD z k q).id))] []) else some (Ex.normal, St.mk [(24, (vI (IntKind.wrap IntKind.i64 ((↑k : Int)
  + (1 : Int))))), (23, (vI (↑(1 : Nat) : Int))), (22, AV.sl q_2), (7, .ptr 7 0 0), (2, (vI n)), (1, (vS F.sU))] [(7, Blk.mk true 0 0 [q_1])]) else none else none else some
  (Ex.exit (0 : Nat), St.mk [] [])) [[(vS x.user), (vS x.id), (vI x.pf), (vI x.pt), (vI x.fr), (vI x.to), (vI x.lng), AV.sl (List.map eOtp x.outs)]]) [(vI t), (vI (-1 :
  Int)), (vS F.sTv), (vI (720 : Int))]) (Lic.mk (ByteArray.mk (Array.mk [])) (ByteArray.mk (Array.mk [])) (0 : Int) (0 : Int) (0 : Int) (0 : Int) (0 : Int) []) := (execR_bind _ _ _).symm.trans (by kernel_rfl)

theorem lpMay_ok (x : Lic) (n : Int) (t : Int) (k : Nat) (hp : prlMay x n t k = true) : ∀ ex s', (outMay x n t k).val = some (ex, s') → LoopOK enMay (loopN Tryz.f6 0) (stMay x n t k) ex s' := by
  simp only [prlMay, Bool.and_eq_true, decide_eq_true_eq] at hp
  rw [F.pB_iff] at hp
  obtain ⟨h1, h2⟩ := hp
  have h3 := F.pB_iff.2 h2
  refine loop_gen (st := stMay x n t) (out := outMay x n t) (I := fun k => k ≤ 1) (n := ([24, 23, 22, 7, 2, 1], [7])) (e := ([], [])) (r := ([10, 9, 8], [])) (fun k => 1 - k) ?_ k h1
  clear h1
  intro k h1
  have eu : unenc (List.map eLic) [[vS x.user, vS x.id, vI x.pf, vI x.pt, vI x.fr, vI x.to, vI x.lng, .sl (x.outs.map eOtp)]] = some [x] := unLics [x]
  by_cases hk : k = 0
  · subst hk
    cases hi : (decide (x.pf ≤ n) && decide (n < x.pt))
    · right
      refine ⟨1, ?_, rfl, by omega, by omega, ?_⟩
      · rw [evMayL]
        simp only [unPlf, unPrm, unPlfw, unPrmw, prePlf1, prePrm1, unstMay, unstMay0, prlMay, outMay, etaEnt, etaLst, etaSeg, etaRot, etaBeat, etaSpan, etaHole, etaSmp, etaStd, etaScr, etaWsh, etaGrp, etaPlc, etaPln, etaSnd, etaStrm, etaMas, etaOtp, etaLic, Option.bind_some, List.length_map, unStrs, unInts, unBools, unU8s, unEnts, unLsts, unSegs, uneL_eSegs, unRots, unBeats, unSpans, unHoles, unSmps, unStds, unScrs, unWshs, unGrps, unPlcs, unPlns, unSnds, unStrms, unMass, F.lt, F.le, cond_true, cond_false, Bool.and_true, Bool.true_and, unOtps, unLics, eu, show decide (((0 : Nat) : Int) < ((1 : Nat) : Int)) = true from rfl, show decide (((1 : Nat) : Int) < ((1 : Nat) : Int)) = false from rfl, show decide (0 < 0 + 1) = true from rfl, show IntKind.i64.wrap (((0 : Nat) : Int) + 1) = ((1 : Nat) : Int) by decide, List.length_cons, List.length_nil, List.getD_cons_zero, h3, hi, stMay]
        try rfl
      · simp only [outMay, F.inP, hi]
        try rfl
    · left
      refine ⟨(.ret, ⟨[(10, vI 0), (9, vB true), (8, vS x.id)], []⟩), ?_, ?_, by simp, rfl⟩
      · rw [evMayL]
        simp only [unPlf, unPrm, unPlfw, unPrmw, prePlf1, prePrm1, unstMay, unstMay0, prlMay, outMay, etaEnt, etaLst, etaSeg, etaRot, etaBeat, etaSpan, etaHole, etaSmp, etaStd, etaScr, etaWsh, etaGrp, etaPlc, etaPln, etaSnd, etaStrm, etaMas, etaOtp, etaLic, Option.bind_some, List.length_map, unStrs, unInts, unBools, unU8s, unEnts, unLsts, unSegs, uneL_eSegs, unRots, unBeats, unSpans, unHoles, unSmps, unStds, unScrs, unWshs, unGrps, unPlcs, unPlns, unSnds, unStrms, unMass, F.lt, F.le, cond_true, cond_false, Bool.and_true, Bool.true_and, unOtps, unLics, eu, show decide (((0 : Nat) : Int) < ((1 : Nat) : Int)) = true from rfl, show decide (((1 : Nat) : Int) < ((1 : Nat) : Int)) = false from rfl, show decide (0 < 0 + 1) = true from rfl, show IntKind.i64.wrap (((0 : Nat) : Int) + 1) = ((1 : Nat) : Int) by decide, List.length_cons, List.length_nil, List.getD_cons_zero, h3, hi]
        try rfl
      · simp only [outMay, F.inP, hi]
        try rfl
  · obtain rfl : k = 1 := by omega
    left
    refine ⟨_, ?_, rfl, by simp, rfl⟩
    rw [evMayL]
    simp only [unPlf, unPrm, unPlfw, unPrmw, prePlf1, prePrm1, unstMay, unstMay0, prlMay, outMay, etaEnt, etaLst, etaSeg, etaRot, etaBeat, etaSpan, etaHole, etaSmp, etaStd, etaScr, etaWsh, etaGrp, etaPlc, etaPln, etaSnd, etaStrm, etaMas, etaOtp, etaLic, Option.bind_some, List.length_map, unStrs, unInts, unBools, unU8s, unEnts, unLsts, unSegs, uneL_eSegs, unRots, unBeats, unSpans, unHoles, unSmps, unStds, unScrs, unWshs, unGrps, unPlcs, unPlns, unSnds, unStrms, unMass, F.lt, F.le, cond_true, cond_false, Bool.and_true, Bool.true_and, unOtps, unLics, show decide (((0 : Nat) : Int) < ((1 : Nat) : Int)) = true from rfl, show decide (((1 : Nat) : Int) < ((1 : Nat) : Int)) = false from rfl, show decide (0 < 0 + 1) = true from rfl, show IntKind.i64.wrap (((0 : Nat) : Int) + 1) = ((1 : Nat) : Int) by decide, List.length_cons, List.length_nil, List.getD_cons_zero]
    try rfl

theorem evMay (x : Lic) (n : Int) (t : Int) : (runF enMay false Tryz.f6 [.sl ([x].map eLic), vS F.sU, vI n, .agg [vI t, vI (-1), vS F.sTv, vI 720]]).val =
  Option.bind (unenc encPlf [AV.sl [[(vS x.user), (vS x.id), (vI x.pf), (vI x.pt), (vI x.fr), (vI x.to), (vI x.lng), AV.sl (List.map eOtp x.outs)]], (vS F.sU), (vI n),
  AV.agg [(vI t), (vI (-1 : Int)), (vS F.sTv), (vI (720 : Int))]]) fun (z : Lic × Int × Int) => bif F.pB (F.isLic z.fst ∧ (0 : Int) ≤ z.snd.fst ∧ z.snd.fst ≤ (1000000000 :
  Int) ∧ (0 : Int) ≤ z.snd.snd ∧ z.snd.snd < (1000000000000000 : Int)) then Option.bind (unenc stMay1 (St.mk [(24, (vI (0 : Int))), (23, (vI (↑(1 : Nat) : Int))), (22, AV.sl
  [[(vS x.user), (vS x.id), (vI x.pf), (vI x.pt), (vI x.fr), (vI x.to), (vI x.lng), AV.sl (List.map eOtp x.outs)]]), (7, .ptr 7 0 0), (2, (vI n)), (1, (vS F.sU))] [(7,
  Blk.mk true 0 0 [[(vI t), (vI (-1 : Int)), (vS F.sTv), (vI (720 : Int))]])])) fun (z : Lic × Int × Int × Nat) => bif decide (z.snd.snd.snd ≤ (1 : Nat)) && F.pB (F.isLic
  z.fst ∧ z.snd.snd.fst = z.fst.fr) && true then bif decide (z.snd.snd.snd = (0 : Nat)) && F.inP z.fst z.snd.fst then some (AV.tup [(vS z.fst.id), (vB true), (vI (0 :
  Int))], []) else some (AV.tup [(vS (ByteArray.mk (Array.mk []))), (vB false), (vI (0 : Int))], []) else none else none := (runFR_val).symm.trans (by kernel_rfl)

def encMay1 (x : Lic) (n : Int) (t : Int) : List AV := [.sl ([x].map eLic), vS F.sU, vI n, .agg [vI t, vI (-1), vS F.sTv, vI 720]]

def encMay (a : Lic × Int × Int) : List AV := encMay1 a.1 a.2.1 a.2.2

theorem encMay_inj (a a' : Lic × Int × Int) (h : encMay a = encMay a') : a = a' := by
  simp only [encMay, encMay1] at h
  try simp [strs_inj, ints_inj, eOtps_inj, eOtp_iff, eLics_inj, eLic_iff] at h
  grind

theorem unMay (x : Lic) (n : Int) (t : Int) : unenc encMay ([AV.sl [[(vS x.user), (vS x.id), (vI x.pf), (vI x.pt), (vI x.fr), (vI x.to), (vI x.lng), AV.sl (List.map eOtp x.outs)]], (vS F.sU), (vI n), AV.agg [(vI t), (vI (-1 :
  Int)), (vS F.sTv), (vI (720 : Int))]]) = some (x, n, t) := unenc_of encMay_inj (x, n, t) rfl

theorem unMayw (x_user : ByteArray) (x_id : ByteArray) (x_pf : Int) (x_pt : Int) (x_fr : Int) (x_to : Int) (x_lng : Int) (x_outs : List Otp) (n : Int) (t : Int) : unenc encMay ([AV.sl [[(vS x_user), (vS x_id), (vI x_pf), (vI x_pt), (vI x_fr), (vI x_to), (vI x_lng), AV.sl (List.map eOtp x_outs)]], (vS F.sU), (vI n), AV.agg [(vI t), (vI (-1 :
  Int)), (vS F.sTv), (vI (720 : Int))]]) = some ((Lic.mk x_user x_id x_pf x_pt x_fr x_to x_lng x_outs), n, t) := unenc_of encMay_inj ((Lic.mk x_user x_id x_pf x_pt x_fr x_to x_lng x_outs), n, t) rfl

noncomputable def resMay1 (x : Lic) (n : Int) (t : Int) : AV × Heap := (.tup [vS (bif F.inP x n then x.id else ⟨#[]⟩), vB (F.inP x n), vI 0], [])

noncomputable def preMay1 (x : Lic) (n : Int) (t : Int) : Bool := F.pB (F.isLic x ∧ t = x.fr ∧ 0 ≤ n ∧ n ≤ 1000000000)

noncomputable def oMay : Orc := orc 6 true encMay (fun a => preMay1 a.1 a.2.1 a.2.2) fun a => resMay1 a.1 a.2.1 a.2.2

theorem okMay : OrcOK Tryz.prog noG oMay := by
  refine mk_ok Tryz.f6 (keep := false) (by kernel_rfl) (by kernel_rfl) enMay_ok mixed (one_loop (x0 := loopN Tryz.f6 0) (by kernel_rfl) (lpo_ok ?_)) (by first | exact fun _ _ => ⟨rfl, rfl⟩ | (intro h; cases h)) ?_
  · rintro ⟨x, n, t, k⟩ hp
    exact lpMay_ok x n t k hp
  rintro ⟨x, n, t⟩ hpre hok
  show (runF enMay false _ (encMay1 _ _ _)).val = some (resMay1 _ _ _)
  unfold encMay1 resMay1
  rw [evMay]
  have hq : F.pB (F.isLic x ∧ t = x.fr ∧ 0 ≤ n ∧ n ≤ 1000000000) = true := hpre
  obtain ⟨g1, g2, g3, g4⟩ := F.pB_iff.1 hq
  have e1 : F.pB (F.isLic x ∧ 0 ≤ n ∧ n ≤ 1000000000 ∧ 0 ≤ t ∧ t < 1000000000000000) = true := F.pB_iff.2 ⟨g1, g3, g4, g2 ▸ g1.2.2.2.2.2.1, g2 ▸ g1.2.2.2.2.2.2.1⟩
  have e2 : F.pB (F.isLic x ∧ t = x.fr) = true := F.pB_iff.2 ⟨g1, g2⟩
  simp only [unPlf, unPrm, unPlfw, unPrmw, prePlf1, prePrm1, unstMay, unstMay0, prlMay, outMay, etaEnt, etaLst, etaSeg, etaRot, etaBeat, etaSpan, etaHole, etaSmp, etaStd, etaScr, etaWsh, etaGrp, etaPlc, etaPln, etaSnd, etaStrm, etaMas, etaOtp, etaLic, Option.bind_some, List.length_map, unStrs, unInts, unBools, unU8s, unEnts, unLsts, unSegs, uneL_eSegs, unRots, unBeats, unSpans, unHoles, unSmps, unStds, unScrs, unWshs, unGrps, unPlcs, unPlns, unSnds, unStrms, unMass, F.lt, F.le, cond_true, cond_false, Bool.and_true, Bool.true_and, unOtps, unLics, e1, e2, Nat.zero_le, decide_true, F.inP]
  cases (decide (x.pf ≤ n) && decide (n < x.pt)) <;> rfl

end M

def F.isOne : List Span → Bool
  | [x] => decide (x.fr = 0) && decide (x.to = 2)
  | _ => false

theorem F.isOne_eq {l : List Span} (h : F.isOne l = true) : l = [⟨0, 2⟩] := by
  match l, h with
  | [⟨a, b⟩], h =>
    simp only [F.isOne, Bool.and_eq_true, decide_eq_true_eq] at h
    obtain ⟨rfl, rfl⟩ := h
    rfl

namespace M

noncomputable def lksF : List Lk := [⟨3, lkp eI 0⟩, ⟨71, lkp eSpan default⟩]

theorem lksF_ok : ∀ x ∈ lksF, LkOK x := by
  simp only [lksF, List.forall_mem_cons]
  exact ⟨lkp_ok, lkp_ok, by simp⟩

noncomputable def stCtr (l : List Span) (k : Nat) : St := ⟨[(15, vI k), (14, vI l.length), (13, .sl (l.map eSpan)), (0, .sl (l.map eSpan))], []⟩

noncomputable def stCtr1 (a : (List Span) × Nat) : St := stCtr a.1 a.2

theorem stCtr_inj (a a' : (List Span) × Nat) (h : stCtr1 a = stCtr1 a') : a = a' := by
  simp only [stCtr1, stCtr] at h
  try simp [strs_inj, ints_inj, bools_inj, u8s_inj, eEnts_inj, eEnt_iff, eLsts_inj, eLst_iff, eSegs_inj, eSeg_iff, eL_eSegs_inj, eRots_inj, eRot_iff, eBeats_inj, eBeat_iff, eSpans_inj, eSpan_iff, eHoles_inj, eHole_iff, eSmps_inj, eSmp_iff, eStds_inj, eStd_iff, eScrs_inj, eScr_iff, eWshs_inj, eWsh_iff, eGrps_inj, eGrp_iff, ePlcs_inj, ePlc_iff, ePlns_inj, ePln_iff, eSnds_inj, eSnd_iff, eStrms_inj, eStrm_iff, eMass_inj, eMas_iff] at h
  grind

theorem unstCtr (l : List Span) (k : Nat) : unenc stCtr1 (St.mk [(15, (vI (↑k : Int))), (14, (vI (↑(List.length l) : Int))), (13, AV.sl (List.map eSpan l)), (0, AV.sl (List.map eSpan l))] []) = some (l, k) := unenc_of stCtr_inj (l, k) rfl

theorem unstCtr0 (l : List Span)  : unenc stCtr1 (St.mk [(15, (vI (0 : Int))), (14, (vI (↑(List.length l) : Int))), (13, AV.sl (List.map eSpan l)), (0, AV.sl (List.map eSpan l))] []) = some (l, 0) := unenc_of stCtr_inj (l, 0) rfl

noncomputable def outCtr (l : List Span) (k : Nat) : T (Ex × St) := .ret (.exit 1, ⟨[(0, .sl (l.map eSpan))], []⟩)

noncomputable def prlCtr (l : List Span) (k : Nat) : Bool := decide (k ≤ 1) && F.isOne l

noncomputable def lpCtr : Nat × (St → T (Ex × St)) := (6, lpo [15, 14, 13, 0] [] stCtr1 (fun a => prlCtr a.1 a.2) fun a => outCtr a.1 a.2)

noncomputable def enCtr : Env := envH ty noG lksF [oOut] [] [] [lpCtr]

theorem enCtr_ok : EnvOK Tryz.prog enCtr := by
  refine envH_ok lksF_ok ty_ok ?_ ?_
  · simp only [List.forall_mem_cons]
    exact ⟨okOut, by simp⟩
  · simp

theorem evCtrL (l : List Span) (k : Nat) : ((exec enCtr (loopN Tryz.f35 0) (stCtr l k)).bind (lessX ([15, 14, 13, 0], []) ([0], []) ([2], []))).val =
  (fun (q : Bool) => (fun (q_1 : List AV) => (fun (q_2 : Option (Ex × St)) => (fun (q_3 : Option (Ex × St)) => bif decide ((↑k : Int) < (↑(List.length l) : Int)) then
  Option.bind (unenc (List.map eSpan) (List.map eSpan l)) fun (z : List Span) => (fun (q_4 : Int) => (fun (q_5 : Bool) => (fun (q : Bool) => (fun (q_6 : Option (Ex × St)) =>
  bif decide (k < List.length z) then Option.bind (unenc encOut [(vI q_4), (vI (0 : Int)), (vI (1000000000000 : Int))]) fun (z : Int × Int × Int) => bif F.out z.fst
  z.snd.fst z.snd.snd then q_2 else bif q then Option.bind (idx (IntKind.wrap IntKind.i64 ((↑k : Int) - (1 : Int)))) fun (z : Nat) => Option.bind (unenc (List.map eSpan)
  (List.map eSpan l)) fun (z_1 : List Span) => bif decide (z < List.length z_1) then bif bif q_5 then true else decide (q_4 ≤ (List.getD z_1 z (Span.mk (0 : Int) (0 :
  Int))).fr) then some (Ex.ret, St.mk [(2, (vI (8 : Int)))] []) else q_6 else none else bif q then none else bif q then none else bif q then none else bif bif q_5 then true
  else false then some (Ex.ret, St.mk [(2, (vI (8 : Int)))] []) else q_6 else none) (Option.bind (unenc encOut ((vI (List.getD z k (Span.mk (0 : Int) (0 : Int))).to) ::
  q_1)) fun (z : Int × Int × Int) => bif F.out z.fst z.snd.fst z.snd.snd then q_2 else q_3)) (!q_5 && q)) (bif (↑k : Int) == (0 : Int) then q_4 != (0 : Int) else false))
  (List.getD z k (Span.mk (0 : Int) (0 : Int))).fr else some (Ex.exit (1 : Nat), St.mk [(0, AV.sl (List.map eSpan l))] [])) (some (Ex.normal, St.mk [(15, (vI (IntKind.wrap
  IntKind.i64 ((↑k : Int) + (1 : Int))))), (14, (vI (↑(List.length l) : Int))), (13, AV.sl (List.map eSpan l)), (0, AV.sl (List.map eSpan l))] []))) (some (Ex.ret, St.mk
  [(2, (vI (1 : Int)))] []))) [(vI (0 : Int)), (vI (1000000 : Int))]) (decide ((0 : Int) < (↑k : Int))) := (execR_bind _ _ _).symm.trans (by kernel_rfl)

theorem lpCtr_ok (l : List Span) (k : Nat) (hp : prlCtr l k = true) : ∀ ex s', (outCtr l k).val = some (ex, s') → LoopOK enCtr (loopN Tryz.f35 0) (stCtr l k) ex s' := by
  simp only [prlCtr, Bool.and_eq_true, decide_eq_true_eq] at hp
  obtain ⟨hp, hl⟩ := hp
  obtain rfl := F.isOne_eq hl
  refine loop_gen (st := fun k : Nat => stCtr [⟨0, 2⟩] k) (out := fun k => outCtr [⟨0, 2⟩] k) (I := fun k => k ≤ 1) (n := ([15, 14, 13, 0], [])) (e := ([0], [])) (r := ([2], [])) (fun k => 1 - k) ?_ k hp
  clear hp hl
  intro k h
  by_cases h1 : k = 1
  · subst h1
    left
    refine ⟨_, ?_, rfl, by simp, rfl⟩
    rw [evCtrL]
    try rfl
  · obtain rfl : k = 0 := by omega
    right
    refine ⟨1, ?_, rfl, by omega, by omega, rfl⟩
    rw [evCtrL]
    simp only [unOut, preOut1, unstCtr, unstCtr0, prlCtr, outCtr, etaEnt, etaLst, etaSeg, etaRot, etaBeat, etaSpan, etaHole, etaSmp, etaStd, etaScr, etaWsh, etaGrp, etaPlc, etaPln, etaSnd, etaStrm, etaMas, Option.bind_some, List.length_map, unStrs, unInts, unBools, unU8s, unEnts, unLsts, unSegs, uneL_eSegs, unRots, unBeats, unSpans, unHoles, unSmps, unStds, unScrs, unWshs, unGrps, unPlcs, unPlns, unSnds, unStrms, unMass, F.lt, F.le, cond_true, cond_false, Bool.and_true, Bool.true_and, show ((0 : Nat) : Int) = 0 from rfl, List.length_cons, List.length_nil]
    try rfl

theorem evCtr (l : List Span) : (runF enCtr false Tryz.f35 [.sl (l.map eSpan)]).val =
  bif (↑(List.length (List.map eSpan l)) : Int) == (0 : Int) then some ((vI (9 : Int)), []) else bif decide ((500 : Int) < (↑(List.length (List.map eSpan l)) : Int)) then
  some ((vI (2 : Int)), []) else Option.bind (unenc stCtr1 (St.mk [(15, (vI (0 : Int))), (14, (vI (↑(List.length (List.map eSpan l)) : Int))), (13, AV.sl (List.map eSpan
  l)), (0, AV.sl (List.map eSpan l))] [])) fun (z : List Span × Nat) => bif decide (z.snd ≤ (1 : Nat)) && F.isOne z.fst && true then Option.bind (idx (IntKind.wrap
  IntKind.i64 ((↑(List.length (List.map eSpan z.fst)) : Int) - (1 : Int)))) fun (z_1 : Nat) => Option.bind (unenc (List.map eSpan) (List.map eSpan z.fst)) fun (z : List
  Span) => bif decide (z_1 < List.length z) then bif (List.getD z z_1 (Span.mk (0 : Int) (0 : Int))).to == (0 : Int) then some ((vI (13 : Int)), []) else some ((vI (0 :
  Int)), []) else none else none := (runFR_val).symm.trans (by kernel_rfl)

def encCtr1 (l : List Span) : List AV := [.sl (l.map eSpan)]

def encCtr (a : (List Span)) : List AV := encCtr1 a

theorem encCtr_inj (a a' : (List Span)) (h : encCtr a = encCtr a') : a = a' := by
  simp only [encCtr, encCtr1] at h
  try simp [strs_inj, ints_inj, bools_inj, u8s_inj, eEnts_inj, eEnt_iff, eLsts_inj, eLst_iff, eSegs_inj, eSeg_iff, eL_eSegs_inj, eRots_inj, eRot_iff, eBeats_inj, eBeat_iff, eSpans_inj, eSpan_iff, eHoles_inj, eHole_iff, eSmps_inj, eSmp_iff, eStds_inj, eStd_iff, eScrs_inj, eScr_iff, eWshs_inj, eWsh_iff, eGrps_inj, eGrp_iff, ePlcs_inj, ePlc_iff, ePlns_inj, ePln_iff, eSnds_inj, eSnd_iff, eStrms_inj, eStrm_iff, eMass_inj, eMas_iff] at h
  grind

theorem unCtr (l : List Span) : unenc encCtr ([AV.sl (List.map eSpan l)]) = some (l) := unenc_of encCtr_inj (l) rfl

noncomputable def resCtr1 (l : List Span) : AV × Heap := (vI 0, [])

noncomputable def preCtr1 (l : List Span) : Bool := F.isOne l

noncomputable def oCtr : Orc := orc 35 true encCtr (fun a => preCtr1 a) fun a => resCtr1 a

theorem okCtr : OrcOK Tryz.prog noG oCtr := by
  refine mk_ok Tryz.f35 (keep := false) (by kernel_rfl) (by kernel_rfl) enCtr_ok mixed (one_loop (x0 := loopN Tryz.f35 0) (by kernel_rfl) (lpo_ok ?_)) (by first | exact fun _ _ => ⟨rfl, rfl⟩ | (intro h; cases h)) ?_
  · rintro ⟨l, k⟩ hp
    exact lpCtr_ok l k hp
  rintro l hpre hok
  show (runF enCtr false _ (encCtr1 _)).val = some (resCtr1 _)
  unfold encCtr1 resCtr1
  rw [evCtr]
  obtain rfl := F.isOne_eq hpre
  simp only [unOut, preOut1, unstCtr, unstCtr0, prlCtr, outCtr, etaEnt, etaLst, etaSeg, etaRot, etaBeat, etaSpan, etaHole, etaSmp, etaStd, etaScr, etaWsh, etaGrp, etaPlc, etaPln, etaSnd, etaStrm, etaMas, Option.bind_some, List.length_map, unStrs, unInts, unBools, unU8s, unEnts, unLsts, unSegs, uneL_eSegs, unRots, unBeats, unSpans, unHoles, unSmps, unStds, unScrs, unWshs, unGrps, unPlcs, unPlns, unSnds, unStrms, unMass, F.lt, F.le, cond_true, cond_false, Bool.and_true, Bool.true_and]
  try rfl

noncomputable def enEof : Env := envH ty noG lksF [] [] [] []

theorem enEof_ok : EnvOK Tryz.prog enEof := by
  refine envH_ok lksF_ok ty_ok ?_ ?_
  · simp
  · simp

theorem evEof (l : List Span) (k : Int) : (runF enEof false Tryz.f75 [.sl (l.map eSpan), vI k]).val =
  bif decide (IntKind.wrap IntKind.i64 (k + (1 : Int)) < (↑(List.length (List.map eSpan l)) : Int)) then Option.bind (idx (IntKind.wrap IntKind.i64 (k + (1 : Int)))) fun (z
  : Nat) => Option.bind (unenc (List.map eSpan) (List.map eSpan l)) fun (z_1 : List Span) => bif decide (z < List.length z_1) then some ((vI (List.getD z_1 z (Span.mk (0 :
  Int) (0 : Int))).fr), []) else none else some ((vI (1152921504606846976 : Int)), []) := (runFR_val).symm.trans (by kernel_rfl)

def encEof1 (l : List Span) (k : Int) : List AV := [.sl (l.map eSpan), vI k]

def encEof (a : (List Span) × Int) : List AV := encEof1 a.1 a.2

theorem encEof_inj (a a' : (List Span) × Int) (h : encEof a = encEof a') : a = a' := by
  simp only [encEof, encEof1] at h
  try simp [strs_inj, ints_inj, bools_inj, u8s_inj, eEnts_inj, eEnt_iff, eLsts_inj, eLst_iff, eSegs_inj, eSeg_iff, eL_eSegs_inj, eRots_inj, eRot_iff, eBeats_inj, eBeat_iff, eSpans_inj, eSpan_iff, eHoles_inj, eHole_iff, eSmps_inj, eSmp_iff, eStds_inj, eStd_iff, eScrs_inj, eScr_iff, eWshs_inj, eWsh_iff, eGrps_inj, eGrp_iff, ePlcs_inj, ePlc_iff, ePlns_inj, ePln_iff, eSnds_inj, eSnd_iff, eStrms_inj, eStrm_iff, eMass_inj, eMas_iff] at h
  grind

theorem unEof (l : List Span) (k : Int) : unenc encEof ([AV.sl (List.map eSpan l), (vI k)]) = some (l, k) := unenc_of encEof_inj (l, k) rfl

noncomputable def resEof1 (l : List Span) (k : Int) : AV × Heap := (vI 1152921504606846976, [])

noncomputable def preEof1 (l : List Span) (k : Int) : Bool := F.isOne l && decide (k = 0)

noncomputable def oEof : Orc := orc 75 true encEof (fun a => preEof1 a.1 a.2) fun a => resEof1 a.1 a.2

theorem okEof : OrcOK Tryz.prog noG oEof := by
  refine mk_ok Tryz.f75 (keep := false) (by kernel_rfl) (by kernel_rfl) enEof_ok mixed (no_loops (by kernel_rfl)) (by first | exact fun _ _ => ⟨rfl, rfl⟩ | (intro h; cases h)) ?_
  rintro ⟨l, k⟩ hpre hok
  show (runF enEof false _ (encEof1 _ _)).val = some (resEof1 _ _)
  unfold encEof1 resEof1
  rw [evEof]
  simp only [preEof1, Bool.and_eq_true, decide_eq_true_eq] at hpre
  obtain ⟨hpre, rfl⟩ := hpre
  obtain rfl := F.isOne_eq hpre
  simp only [etaEnt, etaLst, etaSeg, etaRot, etaBeat, etaSpan, etaHole, etaSmp, etaStd, etaScr, etaWsh, etaGrp, etaPlc, etaPln, etaSnd, etaStrm, etaMas, Option.bind_some, List.length_map, unStrs, unInts, unBools, unU8s, unEnts, unLsts, unSegs, uneL_eSegs, unRots, unBeats, unSpans, unHoles, unSmps, unStds, unScrs, unWshs, unGrps, unPlcs, unPlns, unSnds, unStrms, unMass, F.lt, F.le, cond_true, cond_false, Bool.and_true, Bool.true_and]
  try rfl

noncomputable def stCam (l : List Span) (k : Nat) (x : Int) : St := ⟨[(12, vI k), (11, vI l.length), (10, .sl (l.map eSpan)), (7, vI x), (2, vI 3), (1, vI 0), (0, .sl (l.map eSpan))], []⟩

noncomputable def stCam1 (a : (List Span) × Nat × Int) : St := stCam a.1 a.2.1 a.2.2

theorem stCam_inj (a a' : (List Span) × Nat × Int) (h : stCam1 a = stCam1 a') : a = a' := by
  simp only [stCam1, stCam] at h
  try simp [strs_inj, ints_inj, bools_inj, u8s_inj, eEnts_inj, eEnt_iff, eLsts_inj, eLst_iff, eSegs_inj, eSeg_iff, eL_eSegs_inj, eRots_inj, eRot_iff, eBeats_inj, eBeat_iff, eSpans_inj, eSpan_iff, eHoles_inj, eHole_iff, eSmps_inj, eSmp_iff, eStds_inj, eStd_iff, eScrs_inj, eScr_iff, eWshs_inj, eWsh_iff, eGrps_inj, eGrp_iff, ePlcs_inj, ePlc_iff, ePlns_inj, ePln_iff, eSnds_inj, eSnd_iff, eStrms_inj, eStrm_iff, eMass_inj, eMas_iff] at h
  grind

theorem unstCam (l : List Span) (k : Nat) (x : Int) : unenc stCam1 (St.mk [(12, (vI (↑k : Int))), (11, (vI (↑(List.length l) : Int))), (10, AV.sl (List.map eSpan l)), (7, (vI x)), (2, (vI (3 : Int))), (1, (vI (0 : Int))), (0, AV.sl
  (List.map eSpan l))] []) = some (l, k, x) := unenc_of stCam_inj (l, k, x) rfl

theorem unstCam0 (l : List Span)  : unenc stCam1 (St.mk [(12, (vI (0 : Int))), (11, (vI (↑(List.length l) : Int))), (10, AV.sl (List.map eSpan l)), (7, (vI (0 : Int))), (2, (vI (3 : Int))), (1, (vI (0 : Int))), (0, AV.sl
  (List.map eSpan l))] []) = some (l, 0, 0) := unenc_of stCam_inj (l, 0, 0) rfl

noncomputable def outCam (l : List Span) (k : Nat) (x : Int) : T (Ex × St) := .ret (.exit 0, ⟨[(7, vI 6)], []⟩)

noncomputable def prlCam (l : List Span) (k : Nat) (x : Int) : Bool := decide (k ≤ 1) && decide (x = 6 * k) && F.isOne l

noncomputable def lpCam : Nat × (St → T (Ex × St)) := (3, lpo [12, 11, 10, 7, 2, 1, 0] [] stCam1 (fun a => prlCam a.1 a.2.1 a.2.2) fun a => outCam a.1 a.2.1 a.2.2)

noncomputable def enCam : Env := envH ty noG lksF [oEof] [] [] [lpCam]

theorem enCam_ok : EnvOK Tryz.prog enCam := by
  refine envH_ok lksF_ok ty_ok ?_ ?_
  · simp only [List.forall_mem_cons]
    exact ⟨okEof, by simp⟩
  · simp

theorem evCamL (l : List Span) (k : Nat) (x : Int) : ((exec enCam (loopN Tryz.f36 0) (stCam l k x)).bind (lessX ([12, 11, 10, 7, 2, 1, 0], []) ([7], []) ([], []))).val =
  bif decide ((↑k : Int) < (↑(List.length l) : Int)) then Option.bind (unenc (List.map eSpan) (List.map eSpan l)) fun (z : List Span) => bif decide (k < List.length z) then
  Option.bind (unenc encEof [AV.sl (List.map eSpan l), (vI (↑k : Int))]) fun (z_1 : List Span × Int) => bif F.isOne z_1.fst && decide (z_1.snd = (0 : Int)) then some
  (Ex.normal, St.mk [(12, (vI (IntKind.wrap IntKind.i64 ((↑k : Int) + (1 : Int))))), (11, (vI (↑(List.length l) : Int))), (10, AV.sl (List.map eSpan l)), (7, (vI
  (IntKind.wrap IntKind.i64 (x + IntKind.wrap IntKind.i64 ((List.getD z k (Span.mk (0 : Int) (0 : Int))).to * max (0 : Int) (IntKind.wrap IntKind.i64 (min (3 : Int)
  (1152921504606846976 : Int) - max (0 : Int) (List.getD z k (Span.mk (0 : Int) (0 : Int))).fr))))))), (2, (vI (3 : Int))), (1, (vI (0 : Int))), (0, AV.sl (List.map eSpan
  l))] []) else none else none else some (Ex.exit (0 : Nat), St.mk [(7, (vI x))] []) := (execR_bind _ _ _).symm.trans (by kernel_rfl)

theorem lpCam_ok (l : List Span) (k : Nat) (x : Int) (hp : prlCam l k x = true) : ∀ ex s', (outCam l k x).val = some (ex, s') → LoopOK enCam (loopN Tryz.f36 0) (stCam l k x) ex s' := by
  simp only [prlCam, Bool.and_eq_true, decide_eq_true_eq] at hp
  obtain ⟨⟨h1, h2⟩, hl⟩ := hp
  obtain rfl := F.isOne_eq hl
  subst h2
  refine loop_gen (st := fun k : Nat => stCam [⟨0, 2⟩] k (6 * k)) (out := fun k => outCam [⟨0, 2⟩] k (6 * k)) (I := fun k => k ≤ 1) (n := ([12, 11, 10, 7, 2, 1, 0], [])) (e := ([7], [])) (r := ([], [])) (fun k => 1 - k) ?_ k h1
  clear h1
  intro k h
  by_cases h1 : k = 1
  · subst h1
    left
    refine ⟨_, ?_, rfl, by simp, rfl⟩
    rw [evCamL]
    try rfl
  · obtain rfl : k = 0 := by omega
    right
    refine ⟨1, ?_, rfl, by omega, by omega, rfl⟩
    rw [evCamL]
    simp only [unEof, preEof1, unstCam, unstCam0, prlCam, outCam, etaEnt, etaLst, etaSeg, etaRot, etaBeat, etaSpan, etaHole, etaSmp, etaStd, etaScr, etaWsh, etaGrp, etaPlc, etaPln, etaSnd, etaStrm, etaMas, Option.bind_some, List.length_map, unStrs, unInts, unBools, unU8s, unEnts, unLsts, unSegs, uneL_eSegs, unRots, unBeats, unSpans, unHoles, unSmps, unStds, unScrs, unWshs, unGrps, unPlcs, unPlns, unSnds, unStrms, unMass, F.lt, F.le, cond_true, cond_false, Bool.and_true, Bool.true_and, show ((0 : Nat) : Int) = 0 from rfl, List.length_cons, List.length_nil]
    try rfl

theorem evCam (l : List Span) : (runF enCam false Tryz.f36 [.sl (l.map eSpan), vI 0, vI 3]).val =
  Option.bind (unenc stCam1 (St.mk [(12, (vI (0 : Int))), (11, (vI (↑(List.length (List.map eSpan l)) : Int))), (10, AV.sl (List.map eSpan l)), (7, (vI (0 : Int))), (2, (vI
  (3 : Int))), (1, (vI (0 : Int))), (0, AV.sl (List.map eSpan l))] [])) fun (z : List Span × Nat × Int) => bif decide (z.snd.fst ≤ (1 : Nat)) && decide (z.snd.snd = (6 :
  Int) * (↑z.snd.fst : Int)) && F.isOne z.fst && true then some ((vI (6 : Int)), []) else none := (runFR_val).symm.trans (by kernel_rfl)

def encCam1 (l : List Span) : List AV := [.sl (l.map eSpan), vI 0, vI 3]

def encCam (a : (List Span)) : List AV := encCam1 a

theorem encCam_inj (a a' : (List Span)) (h : encCam a = encCam a') : a = a' := by
  simp only [encCam, encCam1] at h
  try simp [strs_inj, ints_inj, bools_inj, u8s_inj, eEnts_inj, eEnt_iff, eLsts_inj, eLst_iff, eSegs_inj, eSeg_iff, eL_eSegs_inj, eRots_inj, eRot_iff, eBeats_inj, eBeat_iff, eSpans_inj, eSpan_iff, eHoles_inj, eHole_iff, eSmps_inj, eSmp_iff, eStds_inj, eStd_iff, eScrs_inj, eScr_iff, eWshs_inj, eWsh_iff, eGrps_inj, eGrp_iff, ePlcs_inj, ePlc_iff, ePlns_inj, ePln_iff, eSnds_inj, eSnd_iff, eStrms_inj, eStrm_iff, eMass_inj, eMas_iff] at h
  grind

theorem unCam (l : List Span) : unenc encCam ([AV.sl (List.map eSpan l), (vI (0 : Int)), (vI (3 : Int))]) = some (l) := unenc_of encCam_inj (l) rfl

noncomputable def resCam1 (l : List Span) : AV × Heap := (vI 6, [])

noncomputable def preCam1 (l : List Span) : Bool := F.isOne l

noncomputable def oCam : Orc := orc 36 true encCam (fun a => preCam1 a) fun a => resCam1 a

theorem okCam : OrcOK Tryz.prog noG oCam := by
  refine mk_ok Tryz.f36 (keep := false) (by kernel_rfl) (by kernel_rfl) enCam_ok mixed (one_loop (x0 := loopN Tryz.f36 0) (by kernel_rfl) (lpo_ok ?_)) (by first | exact fun _ _ => ⟨rfl, rfl⟩ | (intro h; cases h)) ?_
  · rintro ⟨l, k, x⟩ hp
    exact lpCam_ok l k x hp
  rintro l hpre hok
  show (runF enCam false _ (encCam1 _)).val = some (resCam1 _)
  unfold encCam1 resCam1
  rw [evCam]
  obtain rfl := F.isOne_eq hpre
  simp only [unEof, preEof1, unstCam, unstCam0, prlCam, outCam, etaEnt, etaLst, etaSeg, etaRot, etaBeat, etaSpan, etaHole, etaSmp, etaStd, etaScr, etaWsh, etaGrp, etaPlc, etaPln, etaSnd, etaStrm, etaMas, Option.bind_some, List.length_map, unStrs, unInts, unBools, unU8s, unEnts, unLsts, unSegs, uneL_eSegs, unRots, unBeats, unSpans, unHoles, unSmps, unStds, unScrs, unWshs, unGrps, unPlcs, unPlns, unSnds, unStrms, unMass, F.lt, F.le, cond_true, cond_false, Bool.and_true, Bool.true_and]
  try rfl

noncomputable def enCaf : Env := envH ty noG lksF [oCtr, oCam] [] [] []

theorem enCaf_ok : EnvOK Tryz.prog enCaf := by
  refine envH_ok lksF_ok ty_ok ?_ ?_
  · simp only [List.forall_mem_cons]
    exact ⟨okCtr, okCam, by simp⟩
  · simp

theorem evCaf (l : List Span) : (runF enCaf false Tryz.f20 [.sl (l.map eSpan), vI 0, vI 3]).val =
  Option.bind (unenc encCtr [AV.sl (List.map eSpan l)]) fun (z : List Span) => bif F.isOne z then Option.bind (unenc encCam [AV.sl (List.map eSpan l), (vI (0 : Int)), (vI (3
  : Int))]) fun (z : List Span) => bif F.isOne z then some (AV.tup [(vI (6 : Int)), (vI (0 : Int))], []) else none else none := (runFR_val).symm.trans (by kernel_rfl)

def encCaf1 (l : List Span) : List AV := [.sl (l.map eSpan), vI 0, vI 3]

def encCaf (a : (List Span)) : List AV := encCaf1 a

theorem encCaf_inj (a a' : (List Span)) (h : encCaf a = encCaf a') : a = a' := by
  simp only [encCaf, encCaf1] at h
  try simp [strs_inj, ints_inj, bools_inj, u8s_inj, eEnts_inj, eEnt_iff, eLsts_inj, eLst_iff, eSegs_inj, eSeg_iff, eL_eSegs_inj, eRots_inj, eRot_iff, eBeats_inj, eBeat_iff, eSpans_inj, eSpan_iff, eHoles_inj, eHole_iff, eSmps_inj, eSmp_iff, eStds_inj, eStd_iff, eScrs_inj, eScr_iff, eWshs_inj, eWsh_iff, eGrps_inj, eGrp_iff, ePlcs_inj, ePlc_iff, ePlns_inj, ePln_iff, eSnds_inj, eSnd_iff, eStrms_inj, eStrm_iff, eMass_inj, eMas_iff] at h
  grind

theorem unCaf (l : List Span) : unenc encCaf ([AV.sl (List.map eSpan l), (vI (0 : Int)), (vI (3 : Int))]) = some (l) := unenc_of encCaf_inj (l) rfl

noncomputable def resCaf1 (l : List Span) : AV × Heap := (.tup [vI 6, vI 0], [])

noncomputable def preCaf1 (l : List Span) : Bool := F.isOne l

noncomputable def oCaf : Orc := orc 20 true encCaf (fun a => preCaf1 a) fun a => resCaf1 a

theorem okCaf : OrcOK Tryz.prog noG oCaf := by
  refine mk_ok Tryz.f20 (keep := false) (by kernel_rfl) (by kernel_rfl) enCaf_ok mixed (no_loops (by kernel_rfl)) (by first | exact fun _ _ => ⟨rfl, rfl⟩ | (intro h; cases h)) ?_
  rintro l hpre hok
  show (runF enCaf false _ (encCaf1 _)).val = some (resCaf1 _)
  unfold encCaf1 resCaf1
  rw [evCaf]
  obtain rfl := F.isOne_eq hpre
  simp only [unCtr, unCam, preCtr1, preCam1, etaEnt, etaLst, etaSeg, etaRot, etaBeat, etaSpan, etaHole, etaSmp, etaStd, etaScr, etaWsh, etaGrp, etaPlc, etaPln, etaSnd, etaStrm, etaMas, Option.bind_some, List.length_map, unStrs, unInts, unBools, unU8s, unEnts, unLsts, unSegs, uneL_eSegs, unRots, unBeats, unSpans, unHoles, unSmps, unStds, unScrs, unWshs, unGrps, unPlcs, unPlns, unSnds, unStrms, unMass, F.lt, F.le, cond_true, cond_false, Bool.and_true, Bool.true_and]
  try rfl

noncomputable def enComs : Env := envH ty noG lksF [oCaf] [] [] []

theorem enComs_ok : EnvOK Tryz.prog enComs := by
  refine envH_ok lksF_ok ty_ok ?_ ?_
  · simp only [List.forall_mem_cons]
    exact ⟨okCaf, by simp⟩
  · simp

theorem evComs  : (runF enComs false Tryz.f5 []).val =
  Option.bind (unenc encCaf [AV.sl [[(vI (0 : Int)), (vI (2 : Int))]], (vI (0 : Int)), (vI (3 : Int))]) fun (z : List Span) => bif F.isOne z then some ((vB ((6 : Int) == (6
  : Int))), []) else none := (runFR_val).symm.trans (by kernel_rfl)

def encComs1  : List AV := []

def encComs (a : Unit) : List AV := encComs1

theorem encComs_inj (a a' : Unit) (h : encComs a = encComs a') : a = a' := rfl

theorem unComs  : unenc encComs ([]) = some () := unenc_of encComs_inj () rfl

noncomputable def resComs1  : AV × Heap := (vB true, [])

noncomputable def preComs1  : Bool := true

noncomputable def oComs : Orc := orc 5 true encComs (fun a => preComs1) fun a => resComs1

theorem okComs : OrcOK Tryz.prog noG oComs := by
  refine mk_ok Tryz.f5 (keep := false) (by kernel_rfl) (by kernel_rfl) enComs_ok mixed (no_loops (by kernel_rfl)) (by first | exact fun _ _ => ⟨rfl, rfl⟩ | (intro h; cases h)) ?_
  rintro ⟨⟩ hpre hok
  show (runF enComs false _ (encComs1 )).val = some (resComs1 )
  unfold encComs1 resComs1
  rw [evComs]
  have e : unenc encCaf [.sl [[vI 0, vI 2]], vI 0, vI 3] = some [⟨0, 2⟩] := unCaf [⟨0, 2⟩]
  rw [e]
  rfl

end M

theorem F.cmpI_mem {xs : List Int} {y : Int} : y ∈ F.cmpI xs ↔ y ∈ xs := by
  refine ⟨M.mem_cmpI, fun h => ?_⟩
  obtain ⟨i, hi, e, hmin⟩ : ∃ i, i < xs.length ∧ xs.toArray[i]! = y ∧ ∀ j, j < i → xs.toArray[j]! ≠ y := by
    obtain ⟨k, hk⟩ := List.getElem?_of_mem h
    have hkl := (List.getElem?_eq_some_iff.1 hk).1
    have hky : xs.toArray[k]! = y := M.getD_ints xs k y hk
    clear hk
    induction k using Nat.strongRecOn with
    | ind k ih =>
      by_cases hj : ∃ j, j < k ∧ xs.toArray[j]! = y
      · obtain ⟨j, h1, h2⟩ := hj
        exact ih j h1 (by omega) h2
      · exact ⟨k, hkl, hky, fun j h1 h2 => hj ⟨j, h1, h2⟩⟩
  unfold F.cmpI Lib.compact Lib.compactUpTo
  refine List.mem_map.2 ⟨i, List.mem_filter.2 ⟨List.mem_range.2 hi, ?_⟩, e⟩
  unfold Lib.keeps
  refine decide_eq_true ?_
  rcases Nat.eq_zero_or_pos i with h0 | h0
  · exact .inl h0
  · exact .inr fun e2 => hmin (i - 1) (by omega) (by rw [← e2]; exact e)

theorem F.cmpI_lt {xs : List Int} (h : xs.Pairwise (· ≤ ·)) : (F.cmpI xs).Pairwise (· < ·) := by
  have hle : ∀ i j, i ≤ j → j < xs.length → xs.toArray[i]! ≤ xs.toArray[j]! := fun i j hij hj => by
    rw [getElem!_pos _ i (by simp; omega), getElem!_pos _ j (by simpa using hj)]
    rcases Nat.lt_or_ge i j with hlt | hge
    · simpa using List.pairwise_iff_getElem.1 h i j (by omega) hj hlt
    · have : i = j := by omega
      subst this; exact Int.le_refl _
  unfold F.cmpI Lib.compact Lib.compactUpTo
  rw [List.pairwise_map]
  refine List.Pairwise.imp_of_mem ?_ (List.Pairwise.filter _ List.pairwise_lt_range)
  intro i j hi hj hij
  have hj1 := List.mem_range.1 (List.mem_filter.1 hj).1
  have hj2 := (List.mem_filter.1 hj).2
  unfold Lib.keeps at hj2
  have hj2 := of_decide_eq_true hj2
  rcases hj2 with h0 | hne
  · omega
  · have a1 := hle i (j - 1) (by omega) (by omega)
    have a2 := hle (j - 1) j (by omega) hj1
    have := Ne.symm hne
    omega

theorem F.srtI_pw (xs : List Int) : (F.srtI xs).Pairwise (· ≤ ·) := by
  have := List.pairwise_mergeSort (le := fun x y : Int => decide (x ≤ y)) (by intro a b c h1 h2; simp at *; omega) (by intro a b; simp; omega) xs
  exact this.imp fun h => by simpa using h

theorem F.open_back {k iv b : List Int} (hk : k.length = 16) (hi : iv.length = 8) (hib : ∀ x ∈ iv, F.byB x) (hb : ∀ x ∈ b, F.byB x) (hl : b.length ≤ 100000) :
    (F.coC k iv b).2 = 0 ∧ F.ucC k iv (F.coC k iv b).1 = (b, 0) := by
  have hm : F.modeF k iv b = 0 := by
    unfold F.modeF
    rw [hk, hi, show decide ((100000 : Int) < (b.length : Int)) = false from decide_eq_false (by omega)]
    rfl
  have e1 : F.coC k iv b = (F.chE (F.enc k) F.xorS (F.blk b.length) iv b, 0) := by
    unfold F.coC
    rw [hm]
    rfl
  have ee : F.enc k = F.encB (F.g1 (F.kw k)) (F.g2 (F.kw k)) 2654435769 16 := funext fun l => F.sealL_eq _
  have ed : F.dec k = F.decB (F.g1 (F.kw k)) (F.g2 (F.kw k)) 2654435769 16 := funext fun l => F.sealL_eq _
  have ex : F.xorS = F.xorB := funext fun a => funext fun b => F.sealL_eq _
  obtain ⟨b1, b2, b3⟩ := F.blk_ok b.length
  have hcl : (F.chE (F.enc k) F.xorS (F.blk b.length) iv b).length = b.length := F.chE_len (fun x => M.enc_len k x) _ _ _ b3
  refine ⟨by rw [e1], ?_⟩
  rw [e1]
  show F.ucC k iv (F.chE (F.enc k) F.xorS (F.blk b.length) iv b) = (b, 0)
  have hm2 : F.modeF k iv (F.chE (F.enc k) F.xorS (F.blk b.length) iv b) = 0 := by
    unfold F.modeF
    rw [hcl, hk, hi, show decide ((100000 : Int) < (b.length : Int)) = false from decide_eq_false (by omega)]
    rfl
  unfold F.ucC
  rw [hm2, hcl]
  show (F.chD (F.dec k) F.xorS (F.blk b.length) iv (F.chE (F.enc k) F.xorS (F.blk b.length) iv b), (0 : Int)) = (b, 0)
  rw [ee, ed, ex, F.chain_back _ _ _ _ b3 hi hib hb]

theorem F.keyed_ps (l : Lst) (sg : List Seg) (by_ : Int) (r : Rot) : ((F.keyed l sg by_ r).2.2 ≠ 0 → (F.keyed l sg by_ r).2.1 = []) ∧
    ((F.keyed l sg by_ r).2.2 = 0 → F.chkR r = 0 ∧ (F.keyed l sg by_ r).2.1.Pairwise (· < ·) ∧ (∀ p ∈ (F.keyed l sg by_ r).2.1, 0 ≤ p) ∧ (F.keyed l sg by_ r).2.1.length ≤ 1000000) := by
  unfold F.keyed
  cases h1 : (F.check l != 0)
  case true => exact ⟨fun _ => rfl, fun h => by have h : F.check l = 0 := h; rw [h] at h1; cases h1⟩
  cases h2 : decide (sg.length = l.entries.length)
  · exact ⟨fun _ => rfl, fun h => by cases h⟩
  cases h3 : F.noScale by_
  case true => exact ⟨fun _ => rfl, fun h => by cases h⟩
  cases h4 : F.bndsOk sg
  · exact ⟨fun _ => rfl, fun h => by cases h⟩
  cases h5 : (F.chkR r != 0)
  case true => exact ⟨fun _ => rfl, fun h => by have h : F.chkR r = 0 := h; rw [h] at h5; cases h5⟩
  have c0 : F.chkR r = 0 := by simpa using h5
  have cl : F.check l = 0 := by simpa using h1
  have cn : sg.length = l.entries.length := of_decide_eq_true h2
  simp only [cond_false, Bool.not_true]
  unfold F.kAns
  cases h6 : (F.persF r (F.bnds by_ sg) != 0)
  case true => exact ⟨fun _ => rfl, fun h => by have h : F.persF r (F.bnds by_ sg) = 0 := h; rw [h] at h6; cases h6⟩
  cases h7 : (F.check (F.kLst l r (F.bnds by_ sg)) != 0)
  case true => exact ⟨fun _ => rfl, fun h => by have h : F.check (F.kLst l r (F.bnds by_ sg)) = 0 := h; rw [h] at h7; cases h7⟩
  refine ⟨fun h => absurd rfl h, fun _ => ⟨c0, F.cmpI_lt (F.srtI_pw _), fun p hp => ?_, ?_⟩⟩
  · have := (List.mergeSort_perm ..).subset (F.cmpI_mem.1 hp)
    obtain ⟨b, _, rfl⟩ := List.mem_map.1 this
    exact (M.perAt_bd r b).1
  · have g1 := (F.check_few cl).1
    have g2 : (F.cmpI (F.srtI (F.pers r (F.bnds by_ sg)))).length ≤ (F.srtI (F.pers r (F.bnds by_ sg))).length := by
      unfold F.cmpI Lib.compact Lib.compactUpTo
      rw [List.length_map]
      exact Nat.le_trans (List.length_filter_le ..) (by rw [List.length_range]; exact Nat.le_refl _)
    rw [F.srtI_len] at g2
    have g3 : (F.pers r (F.bnds by_ sg)).length ≤ sg.length := by
      unfold F.pers
      rw [List.length_map]
      unfold F.bnds
      exact Nat.le_of_eq (by simp)
    show (F.cmpI (F.srtI (F.pers r (F.bnds by_ sg)))).length ≤ _
    omega

theorem F.pw_ends {ps : List Int} (h : ps.Pairwise (· < ·)) {j : Nat} (hj : ps.length = j + 1) : ∀ p ∈ ps, ps.getD 0 0 ≤ p ∧ p ≤ ps.getD j 0 := by
  intro p hp
  obtain ⟨i, hi⟩ := List.getElem?_of_mem hp
  have hil := (List.getElem?_eq_some_iff.1 hi).1
  have e : ps[i] = p := (List.getElem?_eq_some_iff.1 hi).2
  rw [List.getD_eq_getElem?_getD, List.getD_eq_getElem?_getD, List.getElem?_eq_getElem (by omega), List.getElem?_eq_getElem (by omega)]
  simp only [Option.getD_some]
  rw [List.pairwise_iff_getElem] at h
  constructor
  · by_cases h0 : i = 0
    · subst h0; omega
    · have := h 0 i (by omega) hil (by omega); omega
  · by_cases h0 : i = j
    · subst h0; omega
    · have := h i j hil (by omega) (by omega); omega

def F.tlOk (ps : List Int) (r : Rot) (b : List Int) (x : Lic) (t : Int) : Prop :=
  F.isLic x ∧ t = x.fr ∧ (∀ p ∈ ps, x.pf ≤ p ∧ p < x.pt ∧ p ≤ 1000000000) ∧ F.chkR r = 0 ∧ (∀ y ∈ b, F.byB y) ∧ ps.length ≤ 1000000

namespace M

noncomputable def lksT : List Lk := [⟨37, lkp eOtp default⟩, ⟨40, lkp eLic default⟩, ⟨3, lkp eI 0⟩, ⟨9, lkp eStr ⟨#[]⟩⟩, ⟨5, lkp eU8 0⟩, ⟨94, lkp eU8 0⟩]

theorem lksT_ok : ∀ x ∈ lksT, LkOK x := by
  simp only [lksT, List.forall_mem_cons]
  exact ⟨lkp_ok, lkp_ok, lkp_ok, lkp_ok, lkp_ok, lkp_ok, by simp⟩

noncomputable def stEqb (xs : List Int) (ys : List Int) (k : Nat) : St := ⟨[(13, vI k), (12, vI xs.length), (1, .sl (ys.map eU8)), (0, .sl (xs.map eU8))], []⟩

noncomputable def stEqb1 (a : (List Int) × (List Int) × Nat) : St := stEqb a.1 a.2.1 a.2.2

theorem stEqb_inj (a a' : (List Int) × (List Int) × Nat) (h : stEqb1 a = stEqb1 a') : a = a' := by
  simp only [stEqb1, stEqb] at h
  try simp [strs_inj, ints_inj, bools_inj, u8s_inj, eEnts_inj, eEnt_iff, eLsts_inj, eLst_iff, eSegs_inj, eSeg_iff, eL_eSegs_inj, eRots_inj, eRot_iff, eBeats_inj, eBeat_iff, eSpans_inj, eSpan_iff, eHoles_inj, eHole_iff, eSmps_inj, eSmp_iff, eStds_inj, eStd_iff, eScrs_inj, eScr_iff, eWshs_inj, eWsh_iff, eGrps_inj, eGrp_iff, ePlcs_inj, ePlc_iff, ePlns_inj, ePln_iff, eSnds_inj, eSnd_iff, eStrms_inj, eStrm_iff, eMass_inj, eMas_iff] at h
  grind

theorem unstEqb (xs : List Int) (ys : List Int) (k : Nat) : unenc stEqb1 (St.mk [(13, (vI (↑k : Int))), (12, (vI (↑(List.length xs) : Int))), (1, AV.sl (List.map eU8 ys)), (0, AV.sl (List.map eU8 xs))] []) = some (xs, ys, k) := unenc_of stEqb_inj (xs, ys, k) rfl

theorem unstEqb0 (xs : List Int) (ys : List Int)  : unenc stEqb1 (St.mk [(13, (vI (0 : Int))), (12, (vI (↑(List.length xs) : Int))), (1, AV.sl (List.map eU8 ys)), (0, AV.sl (List.map eU8 xs))] []) = some (xs, ys, 0) := unenc_of stEqb_inj (xs, ys, 0) rfl

noncomputable def outEqb (xs : List Int) (ys : List Int) (k : Nat) : T (Ex × St) := .ifB (((xs.zip ys).drop k).all fun p => (fun a b : Int => a == b) p.1 p.2) (.ret (.exit 0, ⟨[], []⟩)) (.ret (.ret, ⟨[(4, vB false)], []⟩))

noncomputable def prlEqb (xs : List Int) (ys : List Int) (k : Nat) : Bool := decide (xs.length ≤ 9223372036854775807) && decide (k ≤ xs.length) && decide (xs.length = ys.length)

noncomputable def lpEqb : Nat × (St → T (Ex × St)) := (4, lpo [13, 12, 1, 0] [] stEqb1 (fun a => prlEqb a.1 a.2.1 a.2.2) fun a => outEqb a.1 a.2.1 a.2.2)

noncomputable def enEqb : Env := envH ty noG lksT [] [] [] [lpEqb]

theorem enEqb_ok : EnvOK Tryz.prog enEqb := by
  refine envH_ok lksT_ok ty_ok ?_ ?_
  · simp
  · simp

theorem evEqbL (xs : List Int) (ys : List Int) (k : Nat) : ((exec enEqb (loopN Tryz.f10 0) (stEqb xs ys k)).bind (lessX ([13, 12, 1, 0], []) ([], []) ([4], []))).val =
  bif decide ((↑k : Int) < (↑(List.length xs) : Int)) then Option.bind (unenc (List.map eU8) (List.map eU8 xs)) fun (z : List Int) => bif decide (k < List.length z) then
  Option.bind (unenc (List.map eU8) (List.map eU8 ys)) fun (z_1 : List Int) => bif decide (k < List.length z_1) then bif List.getD z k (0 : Int) != List.getD z_1 k (0 : Int)
  then some (Ex.ret, St.mk [(4, (vB false))] []) else some (Ex.normal, St.mk [(13, (vI (IntKind.wrap IntKind.i64 ((↑k : Int) + (1 : Int))))), (12, (vI (↑(List.length xs) :
  Int))), (1, AV.sl (List.map eU8 ys)), (0, AV.sl (List.map eU8 xs))] []) else none else none else some (Ex.exit (0 : Nat), St.mk [] []) := (execR_bind _ _ _).symm.trans (by kernel_rfl)

theorem lpEqb_ok (xs : List Int) (ys : List Int) (k : Nat) (hp : prlEqb xs ys k = true) : ∀ ex s', (outEqb xs ys k).val = some (ex, s') → LoopOK enEqb (loopN Tryz.f10 0) (stEqb xs ys k) ex s' := by
  simp only [prlEqb, Bool.and_eq_true, decide_eq_true_eq] at hp
  obtain ⟨⟨h1, h2⟩, h3⟩ := hp
  have hz : (xs.zip ys).length = xs.length := by rw [List.length_zip]; omega
  refine loop_all (xs := xs.zip ys) (st := stEqb xs ys) (p := fun p => (fun a b : Int => a == b) p.1 p.2) (n := ([13, 12, 1, 0], [])) (e := ([], [])) (r := ([4], [])) ?_ ⟨by simp, rfl⟩ ⟨by simp, rfl⟩ (fun _ => rfl) ?_ k (by omega)
  · rw [hz]; rw [evEqbL]; simp
  · intro k y hy
    rw [List.getElem?_zip_eq_some] at hy
    obtain ⟨ha, hb⟩ := hy
    have hlt := lt_at ha
    have hlt' := lt_at hb
    rw [evEqbL]
    simp only [unstEqb, unstEqb0, prlEqb, outEqb, etaEnt, etaLst, etaSeg, etaRot, etaBeat, etaSpan, etaHole, etaSmp, etaStd, etaScr, etaWsh, etaGrp, etaPlc, etaPln, etaSnd, etaStrm, etaMas, etaOtp, etaLic, Option.bind_some, List.length_map, unStrs, unInts, unBools, unU8s, unEnts, unLsts, unSegs, uneL_eSegs, unRots, unBeats, unSpans, unHoles, unSmps, unStds, unScrs, unWshs, unGrps, unPlcs, unPlns, unSnds, unStrms, unMass, F.lt, F.le, cond_true, cond_false, Bool.and_true, Bool.true_and, cast_lt hlt, decide_eq_true hlt, decide_eq_true hlt', next_at hlt h1, getD_at ha, getD_at hb, stEqb, id, bne]
    first | (generalize (_ && _) = b0; cases b0 <;> rfl) | (generalize (_ == _) = b0; cases b0 <;> rfl) | (generalize (y.1 == y.2) = b0; cases b0 <;> rfl)

theorem evEqb (xs : List Int) (ys : List Int) : (runF enEqb false Tryz.f10 [.sl (xs.map eU8), .sl (ys.map eU8)]).val =
  bif (↑(List.length (List.map eU8 xs)) : Int) != (↑(List.length (List.map eU8 ys)) : Int) then some ((vB false), []) else Option.bind (unenc stEqb1 (St.mk [(13, (vI (0 :
  Int))), (12, (vI (↑(List.length (List.map eU8 xs)) : Int))), (1, AV.sl (List.map eU8 ys)), (0, AV.sl (List.map eU8 xs))] [])) fun (z : List Int × List Int × Nat) => bif
  decide (List.length z.fst ≤ (9223372036854775807 : Nat)) && decide (z.snd.snd ≤ List.length z.fst) && decide (List.length z.fst = List.length z.snd.fst) && true then bif
  List.all (List.drop z.snd.snd (List.zip z.fst z.snd.fst)) fun (p : Int × Int) => (fun (a b : Int) => a == b) p.fst p.snd then some ((vB true), []) else some ((vB false),
  []) else none := (runFR_val).symm.trans (by kernel_rfl)

def encEqb1 (xs : List Int) (ys : List Int) : List AV := [.sl (xs.map eU8), .sl (ys.map eU8)]

def encEqb (a : (List Int) × (List Int)) : List AV := encEqb1 a.1 a.2

theorem encEqb_inj (a a' : (List Int) × (List Int)) (h : encEqb a = encEqb a') : a = a' := by
  simp only [encEqb, encEqb1] at h
  try simp [strs_inj, ints_inj, bools_inj, u8s_inj, eEnts_inj, eEnt_iff, eLsts_inj, eLst_iff, eSegs_inj, eSeg_iff, eL_eSegs_inj, eRots_inj, eRot_iff, eBeats_inj, eBeat_iff, eSpans_inj, eSpan_iff, eHoles_inj, eHole_iff, eSmps_inj, eSmp_iff, eStds_inj, eStd_iff, eScrs_inj, eScr_iff, eWshs_inj, eWsh_iff, eGrps_inj, eGrp_iff, ePlcs_inj, ePlc_iff, ePlns_inj, ePln_iff, eSnds_inj, eSnd_iff, eStrms_inj, eStrm_iff, eMass_inj, eMas_iff] at h
  grind

theorem unEqb (xs : List Int) (ys : List Int) : unenc encEqb ([AV.sl (List.map eU8 xs), AV.sl (List.map eU8 ys)]) = some (xs, ys) := unenc_of encEqb_inj (xs, ys) rfl

noncomputable def resEqb1 (xs : List Int) (ys : List Int) : AV × Heap := (vB (F.eqL (fun a b : Int => a == b) xs ys), [])

noncomputable def preEqb1 (xs : List Int) (ys : List Int) : Bool := true

noncomputable def oEqb : Orc := orc 10 true encEqb (fun a => preEqb1 a.1 a.2) fun a => resEqb1 a.1 a.2

theorem okEqb : OrcOK Tryz.prog noG oEqb := by
  refine mk_ok Tryz.f10 (keep := false) (by kernel_rfl) (by kernel_rfl) enEqb_ok mixed (one_loop (x0 := loopN Tryz.f10 0) (by kernel_rfl) (lpo_ok ?_)) (by first | exact fun _ _ => ⟨rfl, rfl⟩ | (intro h; cases h)) ?_
  · rintro ⟨xs, ys, k⟩ hp
    exact lpEqb_ok xs ys k hp
  rintro ⟨xs, ys⟩ hpre hok
  show (runF enEqb false _ (encEqb1 _ _)).val = some (resEqb1 _ _)
  unfold encEqb1 resEqb1
  rw [evEqb]
  have hx : xs.length ≤ 9223372036854775807 := by simpa using (okA_sl (hok _ (List.mem_cons_self ..))).1
  simp only [unstEqb, unstEqb0, prlEqb, outEqb, etaEnt, etaLst, etaSeg, etaRot, etaBeat, etaSpan, etaHole, etaSmp, etaStd, etaScr, etaWsh, etaGrp, etaPlc, etaPln, etaSnd, etaStrm, etaMas, etaOtp, etaLic, Option.bind_some, List.length_map, unStrs, unInts, unBools, unU8s, unEnts, unLsts, unSegs, uneL_eSegs, unRots, unBeats, unSpans, unHoles, unSmps, unStds, unScrs, unWshs, unGrps, unPlcs, unPlns, unSnds, unStrms, unMass, F.lt, F.le, cond_true, cond_false, Bool.and_true, Bool.true_and, hx, List.drop_zero, Nat.zero_le, decide_true, len_eq, bne, F.eqL]
  cases h : decide (xs.length = ys.length)
  · rfl
  · simp only [Bool.not_true, cond_false, cond_true, Bool.true_and]
    cases ((xs.zip ys).all fun p => (fun a b : Int => a == b) p.1 p.2) <;> rfl

theorem sU_eq : ByteArray.mk (Array.mk [117]) = F.sU := rfl

theorem sTv_eq : ByteArray.mk (Array.mk [116, 118]) = F.sTv := rfl

theorem sAll_eq : ByteArray.mk (Array.mk [97, 108, 108]) = F.sAll := rfl

theorem eqL_self (b : List Int) : F.eqL (fun a b : Int => a == b) b b = true := by
  unfold F.eqL
  rw [decide_eq_true rfl, Bool.true_and, List.all_eq_true]
  intro p hp
  obtain ⟨i, hi⟩ := List.getElem?_of_mem hp
  rw [List.getElem?_zip_eq_some] at hi
  have := hi.1.symm.trans hi.2
  simp only [Option.some.injEq] at this
  simp [this]

noncomputable def stTlS (ps : List Int) (r : Rot) (s : List Int) (b : List Int) (x : Lic) (t : Int) (la : Int) (i : Nat) : St := ⟨[(21, vI i), (20, .ptr 20 0 0), (19, .ptr 19 0 0), (18, vI la), (16, .sl (ps.map eI)), (10, .ptr 10 0 0), (5, .sl (b.map eU8)), (4, .sl (s.map eU8))], [(20, ⟨true, 0, 0, [[vI t, vI (-1), vS F.sTv, vI 720]]⟩), (19, ⟨true, 0, 0, [eLic x]⟩), (10, ⟨true, 0, 0, [eRot r]⟩)]⟩

noncomputable def outTlS (ps : List Int) (r : Rot) (s : List Int) (b : List Int) (x : Lic) (t : Int) (la : Int) (i : Nat) : T (Ex × St) := .ifB (decide (i < ps.length) && (decide (100 < s.length) || decide (100000 < b.length))) (.ret (.ret, ⟨[(14, vB true)], []⟩)) (.ret (.exit 0, ⟨[(20, .ptr 20 0 0), (19, .ptr 19 0 0), (18, vI la), (16, .sl (ps.map eI))], [(20, ⟨true, 0, 0, [[vI t, vI (-1), vS F.sTv, vI 720]]⟩), (19, ⟨true, 0, 0, [eLic x]⟩)]⟩))

noncomputable def prlTlS (ps : List Int) (r : Rot) (s : List Int) (b : List Int) (x : Lic) (t : Int) (la : Int) (i : Nat) : Bool := decide (i ≤ ps.length) && F.pB (F.tlOk ps r b x t)

noncomputable def stTlO (ps : List Int) (r : Rot) (s : List Int) (b : List Int) (pf : Int) (pt : Int) («to» : Int) (t : Int) (la : Int) (i : Nat) : St := ⟨[(21, vI i), (20, .ptr 20 0 0), (19, .ptr 19 0 0), (18, vI la), (16, .sl (ps.map eI)), (10, .ptr 10 0 0), (5, .sl (b.map eU8)), (4, .sl (s.map eU8))], [(84, ⟨false, 37, 2, [[vS F.sTv, vI 1080]]⟩), (20, ⟨true, 0, 0, [[vI t, vI (-1), vS F.sTv, vI 720]]⟩), (19, ⟨true, 0, 0, [[vS F.sU, vS F.sAll, vI pf, vI pt, vI t, vI «to», vI 0, .own 84]]⟩), (10, ⟨true, 0, 0, [eRot r]⟩)]⟩

noncomputable def stTlO1 (a : (List Int) × Rot × (List Int) × (List Int) × Int × Int × Int × Int × Int × Nat) : St := stTlO a.1 a.2.1 a.2.2.1 a.2.2.2.1 a.2.2.2.2.1 a.2.2.2.2.2.1 a.2.2.2.2.2.2.1 a.2.2.2.2.2.2.2.1 a.2.2.2.2.2.2.2.2.1 a.2.2.2.2.2.2.2.2.2

theorem stTlO_inj (a a' : (List Int) × Rot × (List Int) × (List Int) × Int × Int × Int × Int × Int × Nat) (h : stTlO1 a = stTlO1 a') : a = a' := by
  simp only [stTlO1, stTlO] at h
  (simp [ints_inj, u8s_inj, eRot_iff] at h; grind)

theorem unstTlO (ps : List Int) (r : Rot) (s : List Int) (b : List Int) (pf : Int) (pt : Int) («to» : Int) (t : Int) (la : Int) (i : Nat) : unenc stTlO1 (St.mk [(21, (vI (↑i : Int))), (20, .ptr 20 0 0), (19, .ptr 19 0 0), (18, (vI la)), (16, AV.sl (List.map eI ps)), (10, .ptr 10 0 0), (5, AV.sl (List.map eU8 b)), (4, AV.sl
  (List.map eU8 s))] [(84, Blk.mk false 37 2 [[(vS F.sTv), (vI (1080 : Int))]]), (20, Blk.mk true 0 0 [[(vI t), (vI (-1 : Int)), (vS F.sTv), (vI (720 : Int))]]), (19, Blk.mk
  true 0 0 [[(vS F.sU), (vS F.sAll), (vI pf), (vI pt), (vI t), (vI «to»), (vI (0 : Int)), .own 84]]), (10, Blk.mk true 0 0 [[(vI r.begin), (vI r.every), (vI r.lead), AV.sl
  (List.map eU8 r.seed)]])]) = some (ps, r, s, b, pf, pt, «to», t, la, i) := unenc_of stTlO_inj (ps, r, s, b, pf, pt, «to», t, la, i) rfl

theorem unstTlO0 (ps : List Int) (r : Rot) (s : List Int) (b : List Int) (pf : Int) (pt : Int) («to» : Int) (t : Int) (la : Int)  : unenc stTlO1 (St.mk [(21, (vI (0 : Int))), (20, .ptr 20 0 0), (19, .ptr 19 0 0), (18, (vI la)), (16, AV.sl (List.map eI ps)), (10, .ptr 10 0 0), (5, AV.sl (List.map eU8 b)), (4, AV.sl
  (List.map eU8 s))] [(84, Blk.mk false 37 2 [[(vS F.sTv), (vI (1080 : Int))]]), (20, Blk.mk true 0 0 [[(vI t), (vI (-1 : Int)), (vS F.sTv), (vI (720 : Int))]]), (19, Blk.mk
  true 0 0 [[(vS F.sU), (vS F.sAll), (vI pf), (vI pt), (vI t), (vI «to»), (vI (0 : Int)), .own 84]]), (10, Blk.mk true 0 0 [[(vI r.begin), (vI r.every), (vI r.lead), AV.sl
  (List.map eU8 r.seed)]])]) = some (ps, r, s, b, pf, pt, «to», t, la, 0) := unenc_of stTlO_inj (ps, r, s, b, pf, pt, «to», t, la, 0) rfl

noncomputable def outTlO (ps : List Int) (r : Rot) (s : List Int) (b : List Int) (pf : Int) (pt : Int) («to» : Int) (t : Int) (la : Int) (i : Nat) : T (Ex × St) := .ifB (decide (i < ps.length) && (decide (100 < s.length) || decide (100000 < b.length))) (.ret (.ret, ⟨[(14, vB true)], []⟩)) (.ret (.exit 0, ⟨[(20, .ptr 20 0 0), (19, .ptr 19 0 0), (18, vI la), (16, .sl (ps.map eI))], [(20, ⟨true, 0, 0, [[vI t, vI (-1), vS F.sTv, vI 720]]⟩), (19, ⟨true, 0, 0, [eLic ⟨F.sU, F.sAll, pf, pt, t, «to», 0, [⟨F.sTv, 1080⟩]⟩]⟩)]⟩))

noncomputable def prlTlO (ps : List Int) (r : Rot) (s : List Int) (b : List Int) (pf : Int) (pt : Int) («to» : Int) (t : Int) (la : Int) (i : Nat) : Bool := decide (i ≤ ps.length) && F.pB (F.tlOk ps r b ⟨F.sU, F.sAll, pf, pt, t, «to», 0, [⟨F.sTv, 1080⟩]⟩ t)

noncomputable def lpTlO : Nat × (St → T (Ex × St)) := (10, lpo [21, 20, 19, 18, 16, 10, 5, 4] [84, 20, 19, 10] stTlO1 (fun a => prlTlO a.1 a.2.1 a.2.2.1 a.2.2.2.1 a.2.2.2.2.1 a.2.2.2.2.2.1 a.2.2.2.2.2.2.1 a.2.2.2.2.2.2.2.1 a.2.2.2.2.2.2.2.2.1 a.2.2.2.2.2.2.2.2.2) fun a => outTlO a.1 a.2.1 a.2.2.1 a.2.2.2.1 a.2.2.2.2.1 a.2.2.2.2.2.1 a.2.2.2.2.2.2.1 a.2.2.2.2.2.2.2.1 a.2.2.2.2.2.2.2.2.1 a.2.2.2.2.2.2.2.2.2)

noncomputable def enTl : Env := envH ty noG lksT [oKey, oComs, oMay, oKof, oPro, oOpe, oEqb] [] [] [lpTlO]

theorem enTl_ok : EnvOK Tryz.prog enTl := by
  refine envH_ok lksT_ok ty_ok ?_ ?_
  · simp only [List.forall_mem_cons]
    exact ⟨okKey, okComs, okMay, okKof, okPro, okOpe, okEqb, by simp⟩
  · simp

theorem evTlSL (ps : List Int) (r : Rot) (s : List Int) (b : List Int) (x : Lic) (t : Int) (la : Int) (i : Nat) : ((exec enTl (loopN Tryz.f3 0) (stTlS ps r s b x t la i)).bind (lessX ([21, 20, 19, 18, 16, 10, 5, 4], [20, 19, 10]) ([20, 19, 18, 16], [20, 19]) ([14], []))).val =
  (fun (q : Option (Ex × St)) => (fun (q_1 : AV) => (fun (q_2 : Option (Ex × St)) => (fun (q_3 : List AV) => (fun (q_4 : List AV) => (fun (q_5 : Nat × Blk) => (fun (q_6 :
  List Row) => (fun (q_7 : Nat × Blk) => bif decide ((↑i : Int) < (↑(List.length (List.map eI ps)) : Int)) then Option.bind (unenc (List.map eI) (List.map eI ps)) fun (z :
  List Int) => bif decide (i < List.length z) then Option.bind (unenc encMay [AV.sl q_6, (vS (ByteArray.mk (Array.mk [(117 : UInt8)]))), (vI (List.getD z i (0 : Int))),
  AV.agg q_3]) fun (z : Lic × Int × Int) => bif F.pB (F.isLic z.fst ∧ z.snd.snd = z.fst.fr ∧ (0 : Int) ≤ z.snd.fst ∧ z.snd.fst ≤ (1000000000 : Int)) then bif bif !F.inP
  z.fst z.snd.fst then true else !ByteArray.toList (bif F.inP z.fst z.snd.fst then z.fst.id else ByteArray.mk (Array.mk [])) == ByteArray.toList (ByteArray.mk (Array.mk [(97
  : UInt8), (108 : UInt8), (108 : UInt8)])) then q else Option.bind (unenc (List.map eI) (List.map eI ps)) fun (z : List Int) => bif decide (i < List.length z) then
  Option.bind (unenc encKof [AV.agg q_4, AV.sl (List.map eU8 s), (vI (List.getD z i (0 : Int)))]) fun (z : Rot × List Int × Int) => (fun (q_8 : List (List AV)) => (fun (q_9
  : AV) => (fun (q_10 : Bool) => bif (F.keyO z.fst z.snd.fst z.snd.snd).snd != (0 : Int) then bif (↑(List.length q_8) : Int) == (0 : Int) then q_2 else q else bif q_10 then
  Option.bind (unenc encPro [q_1, AV.sl q_8, q_9, AV.sl (List.map eU8 b), AV.sl []]) fun (z : List Int × List Int × List Int) => bif (F.coC z.fst z.snd.fst z.snd.snd).snd !=
  (0 : Int) then bif (↑(List.length (List.map eU8 (F.coC z.fst z.snd.fst z.snd.snd).fst)) : Int) == (0 : Int) then q_2 else q else bif q_10 then Option.bind (unenc encOpe
  [q_1, AV.sl q_8, q_9, AV.sl (List.map eU8 (F.coC z.fst z.snd.fst z.snd.snd).fst), AV.sl []]) fun (z : List Int × List Int × List Int) => bif !(F.ucC z.fst z.snd.fst
  z.snd.snd).snd != (0 : Int) then Option.bind (unenc encEqb [AV.sl (List.map eU8 (F.ucC z.fst z.snd.fst z.snd.snd).fst), AV.sl (List.map eU8 b)]) fun (z : List Int × List
  Int) => bif !F.eqL (fun (a b : Int) => a == b) z.fst z.snd then q else some (Ex.normal, St.mk [(21, (vI (IntKind.wrap IntKind.i64 ((↑i : Int) + (1 : Int))))), (20, .ptr 20
  0 0), (19, .ptr 19 0 0), (18, (vI la)), (16, AV.sl (List.map eI ps)), (10, .ptr 10 0 0), (5, AV.sl (List.map eU8 b)), (4, AV.sl (List.map eU8 s))] [q_5, q_7, (10, Blk.mk
  true 0 0 [q_4])]) else q else none else none) (Nat.ble (8 : Nat) (List.length q_8) && List.all q_8 fun (r : Row) => Nat.beq (List.length r) (1 : Nat))) (AV.sl (List.take
  (8 : Nat) q_8))) (List.map eU8 (F.keyO z.fst z.snd.fst z.snd.snd).fst) else none else none else none else some (Ex.exit (0 : Nat), St.mk [(20, .ptr 20 0 0), (19, .ptr 19 0
  0), (18, (vI la)), (16, AV.sl (List.map eI ps))] [q_5, q_7])) (19, Blk.mk true 0 0 q_6)) [[(vS x.user), (vS x.id), (vI x.pf), (vI x.pt), (vI x.fr), (vI x.to), (vI x.lng),
  AV.sl (List.map eOtp x.outs)]]) (20, Blk.mk true 0 0 [q_3])) [(vI r.begin), (vI r.every), (vI r.lead), AV.sl (List.map eU8 r.seed)]) [(vI t), (vI (-1 : Int)), (vS F.sTv),
  (vI (720 : Int))]) (Option.bind (unenc encComs []) fun (z : Unit) => some (Ex.ret, St.mk [(14, (vB true))] []))) (AV.agg [(vI (2 : Int)), (vI (1 : Int)), (vI (2 : Int))]))
  (some (Ex.ret, St.mk [(14, (vB false))] [])) := (execR_bind _ _ _).symm.trans (by kernel_rfl)

theorem lpTlS_ok (ps : List Int) (r : Rot) (s : List Int) (b : List Int) (x : Lic) (t : Int) (la : Int) (i : Nat) (hp : prlTlS ps r s b x t la i = true) : ∀ ex s', (outTlS ps r s b x t la i).val = some (ex, s') → LoopOK enTl (loopN Tryz.f3 0) (stTlS ps r s b x t la i) ex s' := by
  simp only [prlTlS, Bool.and_eq_true, decide_eq_true_eq] at hp
  rw [F.pB_iff] at hp
  obtain ⟨h1, h2⟩ := hp
  refine loop_gen (st := stTlS ps r s b x t la) (out := outTlS ps r s b x t la) (I := fun i => i ≤ ps.length) (n := ([21, 20, 19, 18, 16, 10, 5, 4], [20, 19, 10])) (e := ([20, 19, 18, 16], [20, 19])) (r := ([14], [])) (fun i => ps.length - i) ?_ i h1
  clear h1
  intro i h1
  by_cases hi : i < ps.length
  · have hy : ps[i]? = some ps[i] := List.getElem?_eq_getElem hi
    have hm : ps[i] ∈ ps := List.getElem_mem hi
    generalize ps[i] = p at hy hm
    obtain ⟨g1, g2, g3, g4, g5, g6⟩ := h2
    obtain ⟨p1, p2, p3⟩ := g3 p hm
    have q1 : F.pB (F.isLic x ∧ t = x.fr ∧ 0 ≤ p ∧ p ≤ 1000000000) = true := F.pB_iff.2 ⟨g1, g2, by have := g1.2.2.1; omega, p3⟩
    have q2 : F.inP x p = true := by
      unfold F.inP
      rw [decide_eq_true p1, decide_eq_true p2]
      rfl
    have q3 : (x.id.toList == F.sAll.toList) = true := by rw [g1.2.1]; exact beq_self_eq_true _
    have q4 : F.out p 0 1000000000 = false := by
      unfold F.out
      rw [decide_eq_false (show ¬ p < 0 by have := g1.2.2.1; omega), decide_eq_false (show ¬ 1000000000 < p by omega)]
      rfl
    have nx : IntKind.i64.wrap ((i : Int) + 1) = ((i + 1 : Nat) : Int) := next_at hi (by omega)
    by_cases hs : 100 < s.length
    · have k1 : F.keyO r s p = ([], 2) := by
        unfold F.keyO F.lt
        rw [g4, decide_eq_true (show (100 : Int) < (s.length : Int) by omega)]
        rfl
      left
      refine ⟨(.ret, ⟨[(14, vB true)], []⟩), ?_, ?_, by simp, rfl⟩
      · rw [evTlSL]
        simp only [unKey, unComs, unMay, unKof, unPro, unOpe, unEqb, unKeyw, unMayw, unKofw, preKey1, preComs1, preMay1, preKof1, prePro1, preOpe1, preEqb1, unstTlO, unstTlO0, prlTlO, outTlO, etaEnt, etaLst, etaSeg, etaRot, etaBeat, etaSpan, etaHole, etaSmp, etaStd, etaScr, etaWsh, etaGrp, etaPlc, etaPln, etaSnd, etaStrm, etaMas, etaOtp, etaLic, Option.bind_some, List.length_map, unStrs, unInts, unBools, unU8s, unEnts, unLsts, unSegs, uneL_eSegs, unRots, unBeats, unSpans, unHoles, unSmps, unStds, unScrs, unWshs, unGrps, unPlcs, unPlns, unSnds, unStrms, unMass, F.lt, F.le, cond_true, cond_false, Bool.and_true, Bool.true_and, sU_eq, sTv_eq, sAll_eq, cast_lt hi, decide_eq_true hi, getD_at hy, q1, q2, q3, k1]
        rfl
      · simp only [outTlS, decide_eq_true hi, decide_eq_true hs]
        rfl
    · have k1 : F.keyO r s p = (F.dgst (s ++ F.kid r p), 0) := by
        unfold F.keyO F.lt
        rw [g4, decide_eq_false (show ¬ (100 : Int) < (s.length : Int) by omega), q4]
        rfl
      obtain ⟨k, hk⟩ : ∃ k, F.dgst (s ++ F.kid r p) = k := ⟨_, rfl⟩
      have kl : k.length = 16 := by rw [← hk]; exact F.dgst_len _
      have kb : ∀ y ∈ k, F.byB y := by rw [← hk]; exact F.dgst_by _
      rw [hk] at k1
      have il : (k.take 8).length = 8 := by rw [List.length_take]; omega
      by_cases hb : 100000 < b.length
      · have c1 : F.coC k (k.take 8) b = ([], 2) := by
          have hm : F.modeF k (k.take 8) b = 2 := by
            unfold F.modeF
            rw [kl, il, decide_eq_true (show (100000 : Int) < (b.length : Int) by omega)]
            rfl
          unfold F.coC
          rw [hm]
          rfl
        left
        refine ⟨(.ret, ⟨[(14, vB true)], []⟩), ?_, ?_, by simp, rfl⟩
        · rw [evTlSL]
          simp only [unKey, unComs, unMay, unKof, unPro, unOpe, unEqb, unKeyw, unMayw, unKofw, preKey1, preComs1, preMay1, preKof1, prePro1, preOpe1, preEqb1, unstTlO, unstTlO0, prlTlO, outTlO, etaEnt, etaLst, etaSeg, etaRot, etaBeat, etaSpan, etaHole, etaSmp, etaStd, etaScr, etaWsh, etaGrp, etaPlc, etaPln, etaSnd, etaStrm, etaMas, etaOtp, etaLic, Option.bind_some, List.length_map, unStrs, unInts, unBools, unU8s, unEnts, unLsts, unSegs, uneL_eSegs, unRots, unBeats, unSpans, unHoles, unSmps, unStds, unScrs, unWshs, unGrps, unPlcs, unPlns, unSnds, unStrms, unMass, F.lt, F.le, cond_true, cond_false, Bool.and_true, Bool.true_and, sU_eq, sTv_eq, sAll_eq, cast_lt hi, decide_eq_true hi, getD_at hy, q1, q2, q3, k1, ← List.map_take, all_u8s, c1, ble_t (show 8 ≤ k.length by omega)]
          rfl
        · simp only [outTlS, decide_eq_true hi, decide_eq_true hb]
          cases decide (100 < s.length) <;> rfl
      · obtain ⟨o1, o2⟩ := F.open_back kl il (fun y hy => kb y (List.mem_of_mem_take hy)) g5 (show b.length ≤ 100000 by omega)
        right
        refine ⟨i + 1, ?_, rfl, hi, by omega, ?_⟩
        · rw [evTlSL]
          simp only [unKey, unComs, unMay, unKof, unPro, unOpe, unEqb, unKeyw, unMayw, unKofw, preKey1, preComs1, preMay1, preKof1, prePro1, preOpe1, preEqb1, unstTlO, unstTlO0, prlTlO, outTlO, etaEnt, etaLst, etaSeg, etaRot, etaBeat, etaSpan, etaHole, etaSmp, etaStd, etaScr, etaWsh, etaGrp, etaPlc, etaPln, etaSnd, etaStrm, etaMas, etaOtp, etaLic, Option.bind_some, List.length_map, unStrs, unInts, unBools, unU8s, unEnts, unLsts, unSegs, uneL_eSegs, unRots, unBeats, unSpans, unHoles, unSmps, unStds, unScrs, unWshs, unGrps, unPlcs, unPlns, unSnds, unStrms, unMass, F.lt, F.le, cond_true, cond_false, Bool.and_true, Bool.true_and, sU_eq, sTv_eq, sAll_eq, cast_lt hi, decide_eq_true hi, getD_at hy, q1, q2, q3, k1, ← List.map_take, all_u8s, o1, o2, nx, stTlS, ble_t (show 8 ≤ k.length by omega), eqL_self]
          rfl
        · simp only [outTlS, decide_eq_false hs, decide_eq_false hb]
          cases decide (i + 1 < ps.length) <;> cases decide (i < ps.length) <;> rfl
  · left
    obtain rfl : i = ps.length := by omega
    refine ⟨(.exit 0, ⟨[(20, .ptr 20 0 0), (19, .ptr 19 0 0), (18, vI la), (16, .sl (ps.map eI))], [(20, ⟨true, 0, 0, [[vI t, vI (-1), vS F.sTv, vI 720]]⟩), (19, ⟨true, 0, 0, [eLic x]⟩)]⟩), ?_, ?_, by simp, rfl⟩
    · rw [evTlSL]
      simp only [unKey, unComs, unMay, unKof, unPro, unOpe, unEqb, unKeyw, unMayw, unKofw, preKey1, preComs1, preMay1, preKof1, prePro1, preOpe1, preEqb1, unstTlO, unstTlO0, prlTlO, outTlO, etaEnt, etaLst, etaSeg, etaRot, etaBeat, etaSpan, etaHole, etaSmp, etaStd, etaScr, etaWsh, etaGrp, etaPlc, etaPln, etaSnd, etaStrm, etaMas, etaOtp, etaLic, Option.bind_some, List.length_map, unStrs, unInts, unBools, unU8s, unEnts, unLsts, unSegs, uneL_eSegs, unRots, unBeats, unSpans, unHoles, unSmps, unStds, unScrs, unWshs, unGrps, unPlcs, unPlns, unSnds, unStrms, unMass, F.lt, F.le, cond_true, cond_false, Bool.and_true, Bool.true_and, cast_ge]
      rfl
    · simp only [outTlS, decide_eq_false (Nat.lt_irrefl ps.length)]
      rfl

theorem lpTlO_ok (ps : List Int) (r : Rot) (s : List Int) (b : List Int) (pf pt «to» t la : Int) (i : Nat) (hp : prlTlO ps r s b pf pt «to» t la i = true) : ∀ ex s', (outTlO ps r s b pf pt «to» t la i).val = some (ex, s') → LoopOK enTl (loopN Tryz.f3 0) (stTlO ps r s b pf pt «to» t la i) ex s' := fun ex s' h => LoopOK.frz [84] (lpTlS_ok ps r s b ⟨F.sU, F.sAll, pf, pt, t, «to», 0, [⟨F.sTv, 1080⟩]⟩ t la i hp ex s' h)

theorem evTl (l : Lst) (sg : List Seg) (by_ : Int) (r : Rot) (s : List Int) (b : List Int) (t : Int) : (runF enTl false Tryz.f3 [.agg (eLst l), .sl (sg.map eSeg), vI by_, .agg (eRot r), .sl (s.map eU8), .sl (b.map eU8), vI t]).val =
  (fun (q : AV) => (fun (q_1 : Option (AV × Heap)) => (fun (q_2 : List AV) => Option.bind (unenc encKey [AV.agg [(vI l.target), (vI l.first), (vI l.breaks), AV.sl (List.map
  eEnt l.entries), (vB l.ended)], AV.sl (List.map eSeg sg), (vI by_), AV.agg q_2]) fun (z : Lst × List Seg × Int × Rot) => (fun (q_3 : List Int × Int) => (fun (q_4 : List
  (List AV)) => (fun (q_5 : Int) => (fun (q_6 : Option (List Int)) => (fun (q_7 : Bool) => bif bif bif bif q_3.snd != (0 : Int) then true else q_7 then true else decide (t <
  (0 : Int)) then true else decide ((1000000000000000 : Int) ≤ t) then bif bif q_3.snd == (0 : Int) then true else q_7 then q_1 else some ((vB false), []) else Option.bind
  (idx (IntKind.wrap IntKind.i64 (q_5 - (1 : Int)))) fun (z : Nat) => Option.bind q_6 fun (z_1 : List Int) => bif decide (z < List.length z_1) then bif decide ((1000000000 :
  Int) < List.getD z_1 z (0 : Int)) then q_1 else Option.bind q_6 fun (z_2 : List Int) => bif decide ((0 : Nat) < List.length z_2) then Option.bind (unenc stTlO1 (St.mk
  [(21, (vI (0 : Int))), (20, .ptr 20 0 0), (19, .ptr 19 0 0), (18, (vI (List.getD z_1 z (0 : Int)))), (16, AV.sl q_4), (10, .ptr 10 0 0), (5, AV.sl (List.map eU8 b)), (4,
  AV.sl (List.map eU8 s))] [(84, Blk.mk false 37 2 [[q, (vI (1080 : Int))]]), (20, Blk.mk true 0 0 [[(vI t), (vI (-1 : Int)), q, (vI (720 : Int))]]), (19, Blk.mk true 0 0
  [[(vS (ByteArray.mk (Array.mk [(117 : UInt8)]))), (vS (ByteArray.mk (Array.mk [(97 : UInt8), (108 : UInt8), (108 : UInt8)]))), (vI (List.getD z_2 (0 : Nat) (0 : Int))),
  (vI (IntKind.wrap IntKind.i64 (List.getD z_1 z (0 : Int) + (1 : Int)))), (vI t), (vI (IntKind.wrap IntKind.i64 (t + (1 : Int)))), (vI (0 : Int)), .own 84]]), (10, Blk.mk
  true 0 0 [q_2])])) fun (z : List Int × Rot × List Int × List Int × Int × Int × Int × Int × Int × Nat) => (fun (q : Int × Int × Int × Nat) => (fun (q_8 : Int) => (fun (q_9
  : Nat) => bif decide (q_9 ≤ List.length z.fst) && F.pB (F.tlOk z.fst z.snd.fst z.snd.snd.snd.fst (Lic.mk F.sU F.sAll z.snd.snd.snd.snd.fst z.snd.snd.snd.snd.snd.fst q_8
  q.fst (0 : Int) [Otp.mk F.sTv (1080 : Int)]) q_8) && true then bif decide (q_9 < List.length z.fst) && (decide ((100 : Nat) < List.length z.snd.snd.fst) || decide ((100000
  : Nat) < List.length z.snd.snd.snd.fst)) then some ((vB true), []) else bif (↑(List.length (List.map eI z.fst)) : Int) == (1 : Int) then q_1 else Option.bind (unenc encMay
  [AV.sl [[(vS F.sU), (vS F.sAll), (vI z.snd.snd.snd.snd.fst), (vI q.snd.snd.fst), (vI q_8), (vI q.fst), (vI (0 : Int)), AV.sl [[(vS F.sTv), (vI (1080 : Int))]]]], (vS
  (ByteArray.mk (Array.mk [(117 : UInt8)]))), (vI q.snd.snd.fst), AV.agg [(vI q_8), (vI (-1 : Int)), (vS F.sTv), (vI (720 : Int))]]) fun (z : Lic × Int × Int) => bif F.pB
  (F.isLic z.fst ∧ z.snd.snd = z.fst.fr ∧ (0 : Int) ≤ z.snd.fst ∧ z.snd.fst ≤ (1000000000 : Int)) then bif !F.inP z.fst z.snd.fst then q_1 else some ((vB false), []) else
  none else none) q.snd.snd.snd) q.snd.fst) z.snd.snd.snd.snd.snd.snd else none else none) (q_5 == (0 : Int))) (unenc (List.map eI) q_4)) (↑(List.length q_4) : Int))
  (List.map eI q_3.fst)) (F.keyed z.fst z.snd.fst z.snd.snd.fst z.snd.snd.snd).snd) [(vI r.begin), (vI r.every), (vI r.lead), AV.sl (List.map eU8 r.seed)]) (Option.bind
  (unenc encComs []) fun (z : Unit) => some ((vB true), []))) ((vS (ByteArray.mk (Array.mk [(116 : UInt8), (118 : UInt8)])))) := (runFR_val).symm.trans (by kernel_rfl)

def encTl1 (l : Lst) (sg : List Seg) (by_ : Int) (r : Rot) (s : List Int) (b : List Int) (t : Int) : List AV := [.agg (eLst l), .sl (sg.map eSeg), vI by_, .agg (eRot r), .sl (s.map eU8), .sl (b.map eU8), vI t]

def encTl (a : Lst × (List Seg) × Int × Rot × (List Int) × (List Int) × Int) : List AV := encTl1 a.1 a.2.1 a.2.2.1 a.2.2.2.1 a.2.2.2.2.1 a.2.2.2.2.2.1 a.2.2.2.2.2.2

theorem encTl_inj (a a' : Lst × (List Seg) × Int × Rot × (List Int) × (List Int) × Int) (h : encTl a = encTl a') : a = a' := by
  simp only [encTl, encTl1] at h
  try simp [strs_inj, ints_inj, bools_inj, u8s_inj, eEnts_inj, eEnt_iff, eLsts_inj, eLst_iff, eSegs_inj, eSeg_iff, eL_eSegs_inj, eRots_inj, eRot_iff, eBeats_inj, eBeat_iff, eSpans_inj, eSpan_iff, eHoles_inj, eHole_iff, eSmps_inj, eSmp_iff, eStds_inj, eStd_iff, eScrs_inj, eScr_iff, eWshs_inj, eWsh_iff, eGrps_inj, eGrp_iff, ePlcs_inj, ePlc_iff, ePlns_inj, ePln_iff, eSnds_inj, eSnd_iff, eStrms_inj, eStrm_iff, eMass_inj, eMas_iff] at h
  grind

noncomputable def resTl1 (l : Lst) (sg : List Seg) (by_ : Int) (r : Rot) (s : List Int) (b : List Int) (t : Int) : AV × Heap := (vB true, [])

noncomputable def preTl1 (l : Lst) (sg : List Seg) (by_ : Int) (r : Rot) (s : List Int) (b : List Int) (t : Int) : Bool := true

noncomputable def oTl : Orc := orc 3 false encTl (fun a => preTl1 a.1 a.2.1 a.2.2.1 a.2.2.2.1 a.2.2.2.2.1 a.2.2.2.2.2.1 a.2.2.2.2.2.2) fun a => resTl1 a.1 a.2.1 a.2.2.1 a.2.2.2.1 a.2.2.2.2.1 a.2.2.2.2.2.1 a.2.2.2.2.2.2

theorem okTl : OrcOK Tryz.prog noG oTl := by
  refine mk_ok Tryz.f3 (keep := false) (by kernel_rfl) (by kernel_rfl) enTl_ok mixed (one_loop (x0 := loopN Tryz.f3 0) (by kernel_rfl) (lpo_ok ?_)) (by first | exact fun _ _ => ⟨rfl, rfl⟩ | (intro h; cases h)) ?_
  · rintro ⟨ps, r, s, b, pf, pt, «to», t, la, i⟩ hp
    exact lpTlO_ok ps r s b pf pt «to» t la i hp
  rintro ⟨l, sg, by_, r, s, b, t⟩ hpre hok
  show (runF enTl false _ (encTl1 _ _ _ _ _ _ _)).val = some (resTl1 _ _ _ _ _ _ _)
  unfold encTl1 resTl1
  rw [evTl]
  obtain ⟨ps, hps⟩ : ∃ ps, (F.keyed l sg by_ r).2.1 = ps := ⟨_, rfl⟩
  obtain ⟨f, hf⟩ : ∃ f, (F.keyed l sg by_ r).2.2 = f := ⟨_, rfl⟩
  have hb := by_of (hok (.sl (b.map eU8)) (by simp [encTl, encTl1]))
  obtain ⟨k1, k2⟩ := F.keyed_ps l sg by_ r
  rw [hps, hf] at k1 k2
  simp only [unKey, unComs, unMay, unKof, unPro, unOpe, unEqb, unKeyw, unMayw, unKofw, preKey1, preComs1, preMay1, preKof1, prePro1, preOpe1, preEqb1, unstTlO, unstTlO0, prlTlO, outTlO, etaEnt, etaLst, etaSeg, etaRot, etaBeat, etaSpan, etaHole, etaSmp, etaStd, etaScr, etaWsh, etaGrp, etaPlc, etaPln, etaSnd, etaStrm, etaMas, etaOtp, etaLic, Option.bind_some, List.length_map, unStrs, unInts, unBools, unU8s, unEnts, unLsts, unSegs, uneL_eSegs, unRots, unBeats, unSpans, unHoles, unSmps, unStds, unScrs, unWshs, unGrps, unPlcs, unPlns, unSnds, unStrms, unMass, F.lt, F.le, cond_true, cond_false, Bool.and_true, Bool.true_and, sU_eq, sTv_eq, sAll_eq, hps, hf]
  by_cases h0 : f = 0
  case neg =>
    rw [k1 h0]
    rw [show (f != 0) = true by simpa using h0]
    show (bif bif f == 0 then true else true then _ else _) = _
    cases (f == 0) <;> rfl
  obtain ⟨c0, c1, c2, c3⟩ := k2 h0
  subst h0
  rw [show ((0 : Int) != 0) = false from rfl, show ((0 : Int) == 0) = true from rfl]
  cases hz : (((ps.length : Nat) : Int) == 0)
  case true => rfl
  cases ht1 : decide (t < 0)
  case true => rfl
  cases ht2 : decide (1000000000000000 ≤ t)
  case true => rfl
  simp only [decide_eq_false_iff_not] at ht1 ht2
  obtain ⟨j, hj⟩ : ∃ j, ps.length = j + 1 := by
    have : ps.length ≠ 0 := fun e => by rw [e] at hz; cases hz
    exact ⟨ps.length - 1, by omega⟩
  obtain ⟨la, hla⟩ : ∃ la, ps.getD j 0 = la := ⟨_, rfl⟩
  obtain ⟨fi, hfi⟩ : ∃ fi, ps.getD 0 0 = fi := ⟨_, rfl⟩
  have he := F.pw_ends c1 hj
  have hml : la ∈ ps := by
    rw [← hla, List.getD_eq_getElem?_getD, List.getElem?_eq_getElem (by omega)]
    exact List.getElem_mem _
  have hmf : fi ∈ ps := by
    rw [← hfi, List.getD_eq_getElem?_getD, List.getElem?_eq_getElem (by omega)]
    exact List.getElem_mem _
  rw [hla, hfi] at he
  have hfl := (he fi hmf).2
  have hf0 := c2 fi hmf
  rw [hj, idx_sub (by omega)]
  simp only [cond_false, Option.bind_some, hla, hfi, decide_eq_true (show j < j + 1 by omega), cond_true, decide_eq_true (show 0 < j + 1 by omega), decide_eq_true (Nat.zero_le (j + 1)), Bool.true_and]
  cases hl : decide (1000000000 < la)
  case true => rfl
  simp only [decide_eq_false_iff_not] at hl
  have w1 : IntKind.i64.wrap (la + 1) = la + 1 := wrap_id (by omega) (by omega)
  have w2 : IntKind.i64.wrap (t + 1) = t + 1 := wrap_id (by omega) (by omega)
  have ok1 : F.pB (F.tlOk ps r b ⟨F.sU, F.sAll, fi, la + 1, t, t + 1, 0, [⟨F.sTv, 1080⟩]⟩ t) = true := F.pB_iff.2 ⟨⟨rfl, rfl, hf0, by show fi < la + 1; omega, by show la + 1 ≤ _; omega, by show 0 ≤ t; omega, by show t < _; omega, rfl, rfl, rfl⟩, rfl, fun p hp => ⟨(he p hp).1, by have := (he p hp).2; show p < la + 1; omega, by have := (he p hp).2; omega⟩, c0, hb, c3⟩
  rw [w1, w2, ok1]
  simp only [cond_true, cond_false]
  cases hc : (decide (100 < s.length) || decide (100000 < b.length))
  case true => rfl
  simp only [cond_false]
  by_cases hj0 : j = 0
  · subst hj0
    rfl
  rw [show ((((j + 1 : Nat) : Int)) == 1) = false by rw [beq_eq_false_iff_ne]; omega]
  have hlt : fi < la := by
    rw [← hla, ← hfi, List.getD_eq_getElem?_getD, List.getD_eq_getElem?_getD, List.getElem?_eq_getElem (by omega), List.getElem?_eq_getElem (by omega)]
    exact List.pairwise_iff_getElem.1 c1 0 j (by omega) (by omega) (by omega)
  have eM : unenc encMay [.sl [[vS F.sU, vS F.sAll, vI fi, vI la, vI t, vI (t + 1), vI 0, .sl [[vS F.sTv, vI 1080]]]], vS F.sU, vI la, .agg [vI t, vI (-1), vS F.sTv, vI 720]] = some (⟨F.sU, F.sAll, fi, la, t, t + 1, 0, [⟨F.sTv, 1080⟩]⟩, la, t) := unMay ⟨F.sU, F.sAll, fi, la, t, t + 1, 0, [⟨F.sTv, 1080⟩]⟩ la t
  have ok2 : F.pB (F.isLic ⟨F.sU, F.sAll, fi, la, t, t + 1, 0, [⟨F.sTv, 1080⟩]⟩ ∧ True ∧ 0 ≤ la ∧ la ≤ 1000000000) = true := F.pB_iff.2 ⟨⟨rfl, rfl, hf0, hlt, by show la ≤ _; omega, by show 0 ≤ t; omega, by show t < _; omega, rfl, rfl, rfl⟩, trivial, by omega, by omega⟩
  have in2 : F.inP ⟨F.sU, F.sAll, fi, la, t, t + 1, 0, [⟨F.sTv, 1080⟩]⟩ la = false := by
    unfold F.inP
    rw [show decide (la < la) = false from decide_eq_false (by omega), Bool.and_false]
  simp only [cond_false, eM, Option.bind_some, ok2, in2, cond_true, Bool.not_false]

end M

end Go.Proofs.YteoldedcobibaaaGreatDoor

namespace Go.Proofs.YteoldedcobibaaaGreatDoor.M
open Go.ChangeShapes Go.WideShapes Go.ChangeAt Go.RowKit Go.Deep
set_option linter.unusedVariables false

theorem own : ownKnob Tryz.prog.godebug = none := by kernel_rfl

theorem laidOut : laidOutB Tryz.prog = true := by kernel_rfl

def cU8 (n : Int) : List AV := [.v (.int .u8 n)]

theorem opn_u8 {P : Program} {t : TypeId} (ht : P.underlying t = some (.int .u8)) : Opn P t cU8 (fun _ => True) := by
  intro H enc w fuel cs d p h hw
  obtain ⟨n, rfl, _, hn⟩ := DataW.trod_int ht h
  refine ⟨n, ⟨.v ?_, trivial⟩, trivial⟩
  have := bounds_u8 hn
  simp only [okAtom, IntKind.min, IntKind.max, IntKind.signed, IntKind.bits]
  simp
  omega

theorem op_string : OpnU Tryz.prog 9 (cS) (smS) := opnU_str Tryz.underlying9

theorem cells_string : Tryz.prog.cellsOf 9 = 1 := by kernel_rfl

theorem op_int : OpnU Tryz.prog 3 (cI) (fun _ => True) := (opn_int Tryz.underlying3).small

theorem cells_int : Tryz.prog.cellsOf 3 = 1 := by kernel_rfl

theorem op_bool : OpnU Tryz.prog 4 (cB) (fun _ => True) := (opn_bool Tryz.underlying4).small

theorem cells_bool : Tryz.prog.cellsOf 4 = 1 := by kernel_rfl

theorem bytes_string : Tryz.prog.bytesOf 9 = 16 := by kernel_rfl

theorem cells_sstring : Tryz.prog.cellsOf 60 = 1 := by kernel_rfl

theorem op_sstring : OpnU Tryz.prog 60 (cSl (cS)) (KU (smS)) := opnU_slice Tryz.underlying60 cells_string bytes_string (by decide) (fun _ => rfl) op_string

def kEnt (x : Ent) : Prop := (smS) x.uri ∧ (smS) x.key ∧ (KU (smS)) x.extra

theorem cells_Ent : Tryz.prog.cellsOf 62 = 7 := by kernel_rfl

set_option maxRecDepth 100000 in
theorem op_Ent : OpnU Tryz.prog 62 eEnt kEnt := by
  intro H enc w fuel cs d p h hw hbk
  obtain ⟨hl, hf⟩ := opnU_fields Tryz.underlying62 h hw hbk
  obtain ⟨x0, r0, k0⟩ : ∃ x, RL (R0 w (Inn w)) ((cS) x) ((cs.drop 0).take (Tryz.prog.cellsOf 9)) ∧ (smS) x := hf 0 _ rfl op_string
  rw [cells_string] at r0
  obtain ⟨x1, r1, k1⟩ : ∃ x, RL (R0 w (Inn w)) ((cI) x) ((cs.drop 1).take (Tryz.prog.cellsOf 3)) ∧ (fun _ => True) x := hf 1 _ rfl op_int
  rw [cells_int] at r1
  obtain ⟨x2, r2, k2⟩ : ∃ x, RL (R0 w (Inn w)) ((cB) x) ((cs.drop 2).take (Tryz.prog.cellsOf 4)) ∧ (fun _ => True) x := hf 2 _ rfl op_bool
  rw [cells_bool] at r2
  obtain ⟨x3, r3, k3⟩ : ∃ x, RL (R0 w (Inn w)) ((cI) x) ((cs.drop 3).take (Tryz.prog.cellsOf 3)) ∧ (fun _ => True) x := hf 3 _ rfl op_int
  rw [cells_int] at r3
  obtain ⟨x4, r4, k4⟩ : ∃ x, RL (R0 w (Inn w)) ((cS) x) ((cs.drop 4).take (Tryz.prog.cellsOf 9)) ∧ (smS) x := hf 4 _ rfl op_string
  rw [cells_string] at r4
  obtain ⟨x5, r5, k5⟩ : ∃ x, RL (R0 w (Inn w)) ((cB) x) ((cs.drop 5).take (Tryz.prog.cellsOf 4)) ∧ (fun _ => True) x := hf 5 _ rfl op_bool
  rw [cells_bool] at r5
  obtain ⟨x6, r6, k6⟩ : ∃ x, RL (R0 w (Inn w)) ((cSl (cS)) x) ((cs.drop 6).take (Tryz.prog.cellsOf 60)) ∧ (KU (smS)) x := hf 6 _ rfl op_sstring
  rw [cells_sstring] at r6
  rw [cells_Ent] at hl
  match cs, hl with
  | [c0, c1, c2, c3, c4, c5, c6], _ =>
    refine ⟨⟨x0, x1, x2, x3, x4, x5, x6⟩, ?_, k0, k4, k6⟩
    show RL (R0 w (Inn w)) (((cS) x0) ++ (((cI) x1) ++ (((cB) x2) ++ (((cI) x3) ++ (((cS) x4) ++ (((cB) x5) ++ (((cSl (cS)) x6)))))))) ([c0] ++ ([c1] ++ ([c2] ++ ([c3] ++ ([c4] ++ ([c5] ++ ([c6])))))))
    exact RL.append r0 (RL.append r1 (RL.append r2 (RL.append r3 (RL.append r4 (RL.append r5 (r6))))))

theorem bytes_Ent : Tryz.prog.bytesOf 62 = 88 := by kernel_rfl

theorem cells_sEnt : Tryz.prog.cellsOf 22 = 1 := by kernel_rfl

theorem op_sEnt : OpnU Tryz.prog 22 (cSl (eEnt)) (KU (kEnt)) := opnU_slice Tryz.underlying22 cells_Ent bytes_Ent (by decide) (fun _ => rfl) op_Ent

def kLst (x : Lst) : Prop := (KU (kEnt)) x.entries

theorem cells_Lst : Tryz.prog.cellsOf 24 = 5 := by kernel_rfl

set_option maxRecDepth 100000 in
theorem op_Lst : OpnU Tryz.prog 24 eLst kLst := by
  intro H enc w fuel cs d p h hw hbk
  obtain ⟨hl, hf⟩ := opnU_fields Tryz.underlying24 h hw hbk
  obtain ⟨x0, r0, k0⟩ : ∃ x, RL (R0 w (Inn w)) ((cI) x) ((cs.drop 0).take (Tryz.prog.cellsOf 3)) ∧ (fun _ => True) x := hf 0 _ rfl op_int
  rw [cells_int] at r0
  obtain ⟨x1, r1, k1⟩ : ∃ x, RL (R0 w (Inn w)) ((cI) x) ((cs.drop 1).take (Tryz.prog.cellsOf 3)) ∧ (fun _ => True) x := hf 1 _ rfl op_int
  rw [cells_int] at r1
  obtain ⟨x2, r2, k2⟩ : ∃ x, RL (R0 w (Inn w)) ((cI) x) ((cs.drop 2).take (Tryz.prog.cellsOf 3)) ∧ (fun _ => True) x := hf 2 _ rfl op_int
  rw [cells_int] at r2
  obtain ⟨x3, r3, k3⟩ : ∃ x, RL (R0 w (Inn w)) ((cSl (eEnt)) x) ((cs.drop 3).take (Tryz.prog.cellsOf 22)) ∧ (KU (kEnt)) x := hf 3 _ rfl op_sEnt
  rw [cells_sEnt] at r3
  obtain ⟨x4, r4, k4⟩ : ∃ x, RL (R0 w (Inn w)) ((cB) x) ((cs.drop 4).take (Tryz.prog.cellsOf 4)) ∧ (fun _ => True) x := hf 4 _ rfl op_bool
  rw [cells_bool] at r4
  rw [cells_Lst] at hl
  match cs, hl with
  | [c0, c1, c2, c3, c4], _ =>
    refine ⟨⟨x0, x1, x2, x3, x4⟩, ?_, k3⟩
    show RL (R0 w (Inn w)) (((cI) x0) ++ (((cI) x1) ++ (((cI) x2) ++ (((cSl (eEnt)) x3) ++ (((cB) x4)))))) ([c0] ++ ([c1] ++ ([c2] ++ ([c3] ++ ([c4])))))
    exact RL.append r0 (RL.append r1 (RL.append r2 (RL.append r3 (r4))))

def kSeg (x : Seg) : Prop := True

theorem cells_Seg : Tryz.prog.cellsOf 56 = 7 := by kernel_rfl

set_option maxRecDepth 100000 in
theorem op_Seg : OpnU Tryz.prog 56 eSeg kSeg := by
  intro H enc w fuel cs d p h hw hbk
  obtain ⟨hl, hf⟩ := opnU_fields Tryz.underlying56 h hw hbk
  obtain ⟨x0, r0, k0⟩ : ∃ x, RL (R0 w (Inn w)) ((cI) x) ((cs.drop 0).take (Tryz.prog.cellsOf 3)) ∧ (fun _ => True) x := hf 0 _ rfl op_int
  rw [cells_int] at r0
  obtain ⟨x1, r1, k1⟩ : ∃ x, RL (R0 w (Inn w)) ((cI) x) ((cs.drop 1).take (Tryz.prog.cellsOf 3)) ∧ (fun _ => True) x := hf 1 _ rfl op_int
  rw [cells_int] at r1
  obtain ⟨x2, r2, k2⟩ : ∃ x, RL (R0 w (Inn w)) ((cI) x) ((cs.drop 2).take (Tryz.prog.cellsOf 3)) ∧ (fun _ => True) x := hf 2 _ rfl op_int
  rw [cells_int] at r2
  obtain ⟨x3, r3, k3⟩ : ∃ x, RL (R0 w (Inn w)) ((cI) x) ((cs.drop 3).take (Tryz.prog.cellsOf 3)) ∧ (fun _ => True) x := hf 3 _ rfl op_int
  rw [cells_int] at r3
  obtain ⟨x4, r4, k4⟩ : ∃ x, RL (R0 w (Inn w)) ((cI) x) ((cs.drop 4).take (Tryz.prog.cellsOf 3)) ∧ (fun _ => True) x := hf 4 _ rfl op_int
  rw [cells_int] at r4
  obtain ⟨x5, r5, k5⟩ : ∃ x, RL (R0 w (Inn w)) ((cI) x) ((cs.drop 5).take (Tryz.prog.cellsOf 3)) ∧ (fun _ => True) x := hf 5 _ rfl op_int
  rw [cells_int] at r5
  obtain ⟨x6, r6, k6⟩ : ∃ x, RL (R0 w (Inn w)) ((cI) x) ((cs.drop 6).take (Tryz.prog.cellsOf 3)) ∧ (fun _ => True) x := hf 6 _ rfl op_int
  rw [cells_int] at r6
  rw [cells_Seg] at hl
  match cs, hl with
  | [c0, c1, c2, c3, c4, c5, c6], _ =>
    refine ⟨⟨x0, x1, x2, x3, x4, x5, x6⟩, ?_, trivial⟩
    show RL (R0 w (Inn w)) (((cI) x0) ++ (((cI) x1) ++ (((cI) x2) ++ (((cI) x3) ++ (((cI) x4) ++ (((cI) x5) ++ (((cI) x6)))))))) ([c0] ++ ([c1] ++ ([c2] ++ ([c3] ++ ([c4] ++ ([c5] ++ ([c6])))))))
    exact RL.append r0 (RL.append r1 (RL.append r2 (RL.append r3 (RL.append r4 (RL.append r5 (r6))))))

theorem op_uint8 : OpnU Tryz.prog 5 (cU8) (fun _ => True) := (opn_u8 Tryz.underlying5).small

theorem cells_uint8 : Tryz.prog.cellsOf 5 = 1 := by kernel_rfl

theorem bytes_uint8 : Tryz.prog.bytesOf 5 = 1 := by kernel_rfl

theorem cells_suint8 : Tryz.prog.cellsOf 26 = 1 := by kernel_rfl

theorem op_suint8 : OpnU Tryz.prog 26 (cSl (cU8)) (KU (fun _ => True)) := opnU_slice Tryz.underlying26 cells_uint8 bytes_uint8 (by decide) (fun _ => rfl) op_uint8

def kRot (x : Rot) : Prop := (KU (fun _ => True)) x.seed

theorem cells_Rot : Tryz.prog.cellsOf 28 = 4 := by kernel_rfl

set_option maxRecDepth 100000 in
theorem op_Rot : OpnU Tryz.prog 28 eRot kRot := by
  intro H enc w fuel cs d p h hw hbk
  obtain ⟨hl, hf⟩ := opnU_fields Tryz.underlying28 h hw hbk
  obtain ⟨x0, r0, k0⟩ : ∃ x, RL (R0 w (Inn w)) ((cI) x) ((cs.drop 0).take (Tryz.prog.cellsOf 3)) ∧ (fun _ => True) x := hf 0 _ rfl op_int
  rw [cells_int] at r0
  obtain ⟨x1, r1, k1⟩ : ∃ x, RL (R0 w (Inn w)) ((cI) x) ((cs.drop 1).take (Tryz.prog.cellsOf 3)) ∧ (fun _ => True) x := hf 1 _ rfl op_int
  rw [cells_int] at r1
  obtain ⟨x2, r2, k2⟩ : ∃ x, RL (R0 w (Inn w)) ((cI) x) ((cs.drop 2).take (Tryz.prog.cellsOf 3)) ∧ (fun _ => True) x := hf 2 _ rfl op_int
  rw [cells_int] at r2
  obtain ⟨x3, r3, k3⟩ : ∃ x, RL (R0 w (Inn w)) ((cSl (cU8)) x) ((cs.drop 3).take (Tryz.prog.cellsOf 26)) ∧ (KU (fun _ => True)) x := hf 3 _ rfl op_suint8
  rw [cells_suint8] at r3
  rw [cells_Rot] at hl
  match cs, hl with
  | [c0, c1, c2, c3], _ =>
    refine ⟨⟨x0, x1, x2, x3⟩, ?_, k3⟩
    show RL (R0 w (Inn w)) (((cI) x0) ++ (((cI) x1) ++ (((cI) x2) ++ (((cSl (cU8)) x3))))) ([c0] ++ ([c1] ++ ([c2] ++ ([c3]))))
    exact RL.append r0 (RL.append r1 (RL.append r2 (r3)))

theorem bytes_Seg : Tryz.prog.bytesOf 56 = 56 := by kernel_rfl

theorem op_sSeg : OpnU Tryz.prog 25 (cSl (eSeg)) (KU (kSeg)) := opnU_slice Tryz.underlying25 cells_Seg bytes_Seg (by decide) (fun _ => rfl) op_Seg

end Go.Proofs.YteoldedcobibaaaGreatDoor.M

namespace Go.Proofs.YteoldedcobibaaaGreatDoor.M
open Go.ChangeShapes Go.WideShapes Go.ChangeAt Go.RowKit Go.Deep
set_option linter.unusedVariables false

theorem noG_at {W : World} {laid : List (String × DataW Unit)} (hsh : W.ShapedOpen Tryz.prog) (hL : laidMetH Tryz.prog laid W)
    (hp : (laid.all fun x => x.2.handleName?.isNone) = true := by kernel_rfl)
    (m3 : ∃ i : Nat, laid[i]? = some ("internal/strconv.uint64pow10", Rows.laid_internal_strconv_uint64pow10) := by first | exact ⟨0, rfl⟩ | exact ⟨1, rfl⟩ | exact ⟨2, rfl⟩ | exact ⟨3, rfl⟩ | exact ⟨4, rfl⟩ | exact ⟨5, rfl⟩ | exact ⟨6, rfl⟩ | exact ⟨7, rfl⟩) :
    ∀ g r, noG g = some r → GlobAt W (Inn W) g r := by
  obtain ⟨_, m3⟩ := m3
  rw [MakeChecks.laidMetH_plain _ _ _ hp] at hL
  have hr : Lib.VarReads Tryz.prog W "internal/strconv.uint64pow10" Rows.laid_internal_strconv_uint64pow10 := Lib.laidMet.reads hL (List.mem_of_getElem? m3)
  intro g r hg
  unfold noG at hg
  split at hg
  · rename_i hb
    have e : g = 2 := beq_true.1 hb
    subst e
    cases hg
    obtain ⟨g', t, cs, fuel, p, h1, h2, h3, h4⟩ := hr
    have hn : Tryz.prog.globalNamed "internal/strconv.uint64pow10" = some 2 := by kernel_rfl
    obtain rfl := Option.some.inj (hn.symm.trans h1)
    obtain rfl := Option.some.inj ((show (Tryz.prog.globals[2]?).map (·.type) = some 166 by kernel_rfl).symm.trans h2)
    have hd : (Rows.laid_internal_strconv_uint64pow10 : DataW Unit) = Lib.tabData .u64 Lib.pow10Tab := by kernel_rfl
    rw [hd] at h4
    have hcs := Lib.cells_of_tab Tryz.underlying166 Tryz.underlying93 (by kernel_rfl) (by kernel_rfl) h4
    obtain ⟨ty, o, hh⟩ := var_cells hn h3
    exact glob_mk hh (by rw [← hcs])
  · cases hg

end Go.Proofs.YteoldedcobibaaaGreatDoor.M

namespace Go.Proofs.YteoldedcobibaaaGreatDoor
open Go.ChangeShapes Go.WideShapes Go.ChangeAt Go.RowKit Go.Deep M
open Go.ChangeMaps (open_string shut_string)
set_option linter.unusedVariables false

set_option maxRecDepth 100000 in
theorem topLicencesCoverLists_contract (H : Type) (enc : TypeId × Value → H) (W : World) (base : Nat) (args : Array Value) (ds gs : List (DataW H)) (before : List MemPlace)
    (hval0 : ∀ (j : Nat) t v, Tryz.f3.params[j]? = some t → args[j]? = some v → Value.okWide Tryz.prog W .any base t v)
    (hW : DataW.Whole enc Tryz.prog Tryz.f3.params.toList Rows.topLicencesCoverListsSpec.vars false W args.toList ds gs before) (hbulk : Rows.uptoBulkAll (ds ++ gs) ≤ 1048576)
    (hsz0 : (DataW.weightsEach Tryz.prog (Tryz.f3.params.toList ++ Rows.topLicencesCoverListsSpec.plain.varTypes Tryz.prog) (ds ++ gs)).all (· ≤ reachBytes) = true)
    (hL : laidMetH Tryz.prog Rows.topLicencesCoverListsUptoRow.laid W) (hsh : W.ShapedOpen Tryz.prog) :
    Calls Tryz.prog 3 args W fun e W' => ∃ v, e = .returned v ∧ Rows.topLicencesCoverListsSpec.post enc Tryz.prog Tryz.f3 false true false false W args v W' := by
  have hval : ∀ (j : Nat) t v, Tryz.f3.params[j]? = some t → args[j]? = some v → Value.okWide Tryz.prog W .any base t v := hval0
  have hW' := hW
  obtain ⟨p, q, hA0, hV, rfl, hfz, hnd⟩ := hW
  have hA : DataW.TrodAll enc Tryz.prog W 0 (fun _ => true) true Tryz.f3.params.toList args.toList ds p := hA0
  have hsz : ∀ n ∈ DataW.weightsEach Tryz.prog (Tryz.f3.params.toList ++ Rows.topLicencesCoverListsSpec.plain.varTypes Tryz.prog) (ds ++ gs), n ≤ reachBytes := by
    intro n hn; have := List.all_eq_true.1 hsz0 n hn; simpa using this
  rw [Tryz.params3] at hA hval hsz
  obtain ⟨v0, vs0, d0, ds0, p0, q0, hargs, rfl, rfl, h0, r0⟩ := trodAll_cons hA
  obtain ⟨v1, vs1, d1, ds1, p1, q1, rfl, rfl, rfl, h1, r1⟩ := trodAll_cons r0
  obtain ⟨v2, vs2, d2, ds2, p2, q2, rfl, rfl, rfl, h2, r2⟩ := trodAll_cons r1
  obtain ⟨v3, vs3, d3, ds3, p3, q3, rfl, rfl, rfl, h3, r3⟩ := trodAll_cons r2
  obtain ⟨v4, vs4, d4, ds4, p4, q4, rfl, rfl, rfl, h4, r4⟩ := trodAll_cons r3
  obtain ⟨v5, vs5, d5, ds5, p5, q5, rfl, rfl, rfl, h5, r5⟩ := trodAll_cons r4
  obtain ⟨v6, vs6, d6, ds6, p6, q6, rfl, rfl, rfl, h6, r6⟩ := trodAll_cons r5
  obtain ⟨rfl, rfl, rfl⟩ := trodAll_nil r6
  obtain rfl : args = #[v0, v1, v2, v3, v4, v5, v6] := by cases args; simp_all
  obtain ⟨rfl, rfl⟩ := trodVars_none hV
  have bk0 : Rows.uptoBulk d0 ≤ 1048576 := Nat.le_trans (bulks.part_le (by simp)) hbulk
  obtain ⟨cs0, rfl, _⟩ := okWide_struct Tryz.underlying24 (hval 0 24 v0 rfl rfl)
  have b0 := h0
  have lt0 : ∀ x ∈ p0, x.block < W.heap.size := by obtain ⟨m, hm⟩ := b0; exact DataW.trod_lt m _ _ _ hm
  obtain ⟨fuel0, hf0⟩ := h0
  obtain ⟨x0, e0, k0⟩ := op_Lst H enc W fuel0 (Value.cells (.agg cs0)).toList _ _ hf0 (fun n hn => hsz n (weights_each (j := 0) rfl rfl n hn)) bk0
  have bk1 : Rows.uptoBulk d1 ≤ 1048576 := Nat.le_trans (bulks.part_le (by simp)) hbulk
  obtain ⟨A1, len1, cap1, rfl⟩ := okWide_slice Tryz.underlying25 (hval 1 25 v1 rfl rfl)
  have b1 := h1
  have lt1 : ∀ x ∈ p1, x.block < W.heap.size := by obtain ⟨m, hm⟩ := b1; exact DataW.trod_lt m _ _ _ hm
  obtain ⟨fuel1, hf1⟩ := h1
  obtain ⟨x1, e1, k1⟩ := op_sSeg H enc W fuel1 (Value.cells (.slice A1 len1 cap1)).toList _ _ hf1 (fun n hn => hsz n (weights_each (j := 1) rfl rfl n hn)) bk1
  have bk2 : Rows.uptoBulk d2 ≤ 1048576 := Nat.le_trans (bulks.part_le (by simp)) hbulk
  obtain ⟨x2, rfl, rfl, rfl, w2⟩ := open_int Tryz.underlying3 (hval 2 3 v2 rfl rfl) h2
  have bk3 : Rows.uptoBulk d3 ≤ 1048576 := Nat.le_trans (bulks.part_le (by simp)) hbulk
  obtain ⟨cs3, rfl, _⟩ := okWide_struct Tryz.underlying28 (hval 3 28 v3 rfl rfl)
  have b3 := h3
  have lt3 : ∀ x ∈ p3, x.block < W.heap.size := by obtain ⟨m, hm⟩ := b3; exact DataW.trod_lt m _ _ _ hm
  obtain ⟨fuel3, hf3⟩ := h3
  obtain ⟨x3, e3, k3⟩ := op_Rot H enc W fuel3 (Value.cells (.agg cs3)).toList _ _ hf3 (fun n hn => hsz n (weights_each (j := 3) rfl rfl n hn)) bk3
  have bk4 : Rows.uptoBulk d4 ≤ 1048576 := Nat.le_trans (bulks.part_le (by simp)) hbulk
  obtain ⟨A4, len4, cap4, rfl⟩ := okWide_slice Tryz.underlying26 (hval 4 26 v4 rfl rfl)
  have b4 := h4
  have lt4 : ∀ x ∈ p4, x.block < W.heap.size := by obtain ⟨m, hm⟩ := b4; exact DataW.trod_lt m _ _ _ hm
  obtain ⟨fuel4, hf4⟩ := h4
  obtain ⟨x4, e4, k4⟩ := op_suint8 H enc W fuel4 (Value.cells (.slice A4 len4 cap4)).toList _ _ hf4 (fun n hn => hsz n (weights_each (j := 4) rfl rfl n hn)) bk4
  have bk5 : Rows.uptoBulk d5 ≤ 1048576 := Nat.le_trans (bulks.part_le (by simp)) hbulk
  obtain ⟨A5, len5, cap5, rfl⟩ := okWide_slice Tryz.underlying26 (hval 5 26 v5 rfl rfl)
  have b5 := h5
  have lt5 : ∀ x ∈ p5, x.block < W.heap.size := by obtain ⟨m, hm⟩ := b5; exact DataW.trod_lt m _ _ _ hm
  obtain ⟨fuel5, hf5⟩ := h5
  obtain ⟨x5, e5, k5⟩ := op_suint8 H enc W fuel5 (Value.cells (.slice A5 len5 cap5)).toList _ _ hf5 (fun n hn => hsz n (weights_each (j := 5) rfl rfl n hn)) bk5
  have bk6 : Rows.uptoBulk d6 ≤ 1048576 := Nat.le_trans (bulks.part_le (by simp)) hbulk
  obtain ⟨x6, rfl, rfl, rfl, w6⟩ := open_int Tryz.underlying3 (hval 6 3 v6 rfl rfl) h6
  clear hA0 hval0
  have hpre : preTl1 x0 x1 x2 x3 x4 x5 x6 = true := by rfl
  have hspec := orc_at okTl encTl_inj (x0, x1, x2, x3, x4, x5, x6) hpre
  refine (law_calls (W := W) (cargs := [.agg cs0, .slice A1 len1 cap1, .int .i64 x2, .agg cs3, .slice A4 len4 cap4, .slice A5 len5 cap5, .int .i64 x6]) hspec (noG_at hsh hL) ⟨rv_agg_of e0, rv_sl_of e1, rv_int_of w2, rv_agg_of e3, rv_sl_of e4, rv_sl_of e5, rv_int_of w6, trivial⟩).mono fun e W1 ⟨he, bel⟩ => ?_
  subst he
  exact ⟨_, rfl, _, _, _, [], _, [], hW', trodAll_mk1 (shut_bool Tryz.underlying4 _), (trodAll_cons_mk (Below.trod laidOut (by kernel_rfl) (of_decide_eq_true (by kernel_rfl)) b0 bel lt0) (trodAll_cons_mk (Below.trod laidOut (by kernel_rfl) (of_decide_eq_true (by kernel_rfl)) b1 bel lt1) (trodAll_cons_mk (shut_int Tryz.underlying3 w2) (trodAll_cons_mk (Below.trod laidOut (by kernel_rfl) (of_decide_eq_true (by kernel_rfl)) b3 bel lt3) (trodAll_cons_mk (Below.trod laidOut (by kernel_rfl) (of_decide_eq_true (by kernel_rfl)) b4 bel lt4) (trodAll_cons_mk (Below.trod laidOut (by kernel_rfl) (of_decide_eq_true (by kernel_rfl)) b5 bel lt5) (trodAll_cons_mk (shut_int Tryz.underlying3 w6) trodAll_mk0))))))), rfl, bel.frame _, fun h => by cases h⟩

theorem topLicencesCoverLists_reads (os : Os) {H : Type} (enc : TypeId × Value → H) : ∃ places, DataW.whole enc Tryz.prog ((World.laidAll Tryz.prog os Rows.topLicencesCoverListsUptoRow.laid).forCall (fun _ _ => 0) ⟨#[], #[.agg #[.int .i64 0, .int .i64 0, .int .i64 0, .slice none 0 0, .bool false], .slice none 0 0, .int .i64 0, .agg #[.int .i64 0, .int .i64 0, .int .i64 0, .slice none 0 0], .slice none 0 0, .slice none 0 0, .int .i64 0], []⟩).memory Tryz.f3.params.toList Rows.topLicencesCoverListsSpec.vars false (#[.agg #[.int .i64 0, .int .i64 0, .int .i64 0, .slice none 0 0, .bool false], .slice none 0 0, .int .i64 0, .agg #[.int .i64 0, .int .i64 0, .int .i64 0, .slice none 0 0], .slice none 0 0, .slice none 0 0, .int .i64 0] : Array Value).toList 8 = some ([.agg [.lit (.int .i64 0), .lit (.int .i64 0), .lit (.int .i64 0), .nil, .lit (.bool false)], .nil, .lit (.int .i64 0), .agg [.lit (.int .i64 0), .lit (.int .i64 0), .lit (.int .i64 0), .nil], .nil, .nil, .lit (.int .i64 0)], [], places) :=
  ⟨[], by kernel_rfl⟩

theorem topLicencesCoverLists_met (os : Os) : laidMet Tryz.prog Rows.topLicencesCoverListsUptoRow.laid ((World.laidAll Tryz.prog os Rows.topLicencesCoverListsUptoRow.laid).forCall (fun _ _ => 0) ⟨#[], #[.agg #[.int .i64 0, .int .i64 0, .int .i64 0, .slice none 0 0, .bool false], .slice none 0 0, .int .i64 0, .agg #[.int .i64 0, .int .i64 0, .int .i64 0, .slice none 0 0], .slice none 0 0, .slice none 0 0, .int .i64 0], []⟩).memory := laidMet_laidAll _ (by kernel_rfl) (by kernel_rfl)

set_option maxRecDepth 100000 in
theorem topLicencesCoverLists_lifted (os : Os) (started : os.Started) (H : Type) (enc : TypeId × Value → H) (F : Stop.Interp) :
    ReturnsInHanded {} Tryz.checked os 3 .any ((Rows.OpenSpec.upto Rows.topLicencesCoverListsSpec).preRow enc Tryz.prog Tryz.f3 Rows.topLicencesCoverListsUptoRow.domain false Rows.topLicencesCoverListsUptoRow.laid) (((Rows.OpenSpec.upto Rows.topLicencesCoverListsSpec).at F).post enc Tryz.prog Tryz.f3 false true false false) := by
  obtain ⟨places, hx⟩ := topLicencesCoverLists_reads os enc
  refine returnsInHanded_of_row (C := Tryz.checked) (s := Rows.OpenSpec.upto Rows.topLicencesCoverListsSpec) own started (by kernel_rfl) Tryz.func3
    (witness_row_at (enc := enc) (C := Tryz.checked) false (World.laidAll Tryz.prog os Rows.topLicencesCoverListsUptoRow.laid) #[.agg #[.int .i64 0, .int .i64 0, .int .i64 0, .slice none 0 0, .bool false], .slice none 0 0, .int .i64 0, .agg #[.int .i64 0, .int .i64 0, .int .i64 0, .slice none 0 0], .slice none 0 0, .slice none 0 0, .int .i64 0] (World.laidAll_os _ _ _) (by kernel_rfl) (by kernel_rfl) (by kernel_rfl)
      (OpenSpec.preRow_of_cond 8 hx (by kernel_rfl) (fun k hk => by cases hk; kernel_rfl) (by kernel_rfl) (topLicencesCoverLists_met os))) ?_
  intro W base args ds gs before hval hW _ hcond hsz hL hsh _
  exact topLicencesCoverLists_contract H enc W base args ds gs before hval hW (bulks.bound (hcond _ rfl)) hsz hL hsh

theorem topLicencesCoverLists_upto : Rows.TopLicencesCoverListsUptoSaid :=
  OpenClaim.holds_of_cond 3 Tryz.f3 rfl rfl rfl rfl rfl rfl rfl ⟨rfl, rfl, rfl, rfl, rfl⟩ rfl rfl rfl rfl rfl (by kernel_rfl) Tryz.func3 (by kernel_rfl)
    (of_decide_eq_true (by kernel_rfl)) (by unfold Func.isWrapper; first | (rw [if_pos (by decide +kernel)]; kernel_rfl) | (rw [if_neg (by decide +kernel)]; exact ⟨rfl, rfl⟩))
    (fun os started H enc _ F => by rw [OpenClaim.pre_eq_preRow]; exact topLicencesCoverLists_lifted os started H enc F)
#print axioms topLicencesCoverLists_upto

theorem topLicencesCoverLists_plain (f : FuncId) (fn : Func) (hf : Tryz.pinned.checked.prog.funcNamed "headend/headendtop.TopLicencesCoverLists" = some f) (hfn : Tryz.pinned.checked.prog.funcs[f]? = some fn) :
    false = Tryz.pinned.checked.prog.looks [] ∧ ∀ (j : Nat) t, fn.params[j]? = some t → Tryz.pinned.checked.prog.wantsStandIn t = false := by
  obtain rfl : f = 3 := Option.some.inj ((show Tryz.prog.funcNamed "headend/headendtop.TopLicencesCoverLists" = some 3 by kernel_rfl).symm.trans hf) |>.symm
  obtain rfl : fn = Tryz.f3 := (Option.some.inj (Tryz.func3.symm.trans hfn)).symm
  refine ⟨by kernel_rfl, fun j t ht => ?_⟩
  rw [Tryz.params3] at ht
  have hm : t ∈ [24, 25, 3, 28, 26, 26, 3] := by simpa using Array.mem_of_getElem? ht
  have hall : ([24, 25, 3, 28, 26, 26, 3].all fun u => !Tryz.prog.wantsStandIn u) = true := by kernel_rfl
  exact (show Tryz.prog.wantsStandIn t = false by simpa using List.all_eq_true.1 hall t hm)

theorem topLicencesCoverLists_card : Rows.TopLicencesCoverListsUptoCardSaid :=
  Claim7.holds_tied_plain_at .later [] _ _ _ _ topLicencesCoverLists_upto (fun _ h => by cases h) (by kernel_rfl) (fun _ h => by cases h) topLicencesCoverListsUpto_row_tie rfl ⟨rfl, rfl⟩ (by kernel_rfl) rfl topLicencesCoverLists_plain (by kernel_rfl)
#print axioms topLicencesCoverLists_card
end Go.Proofs.YteoldedcobibaaaGreatDoor
