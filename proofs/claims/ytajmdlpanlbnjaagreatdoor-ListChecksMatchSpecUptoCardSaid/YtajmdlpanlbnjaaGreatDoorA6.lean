/- What is proved here: the statement ListChecksMatchSpec where what it reads is of bulk at most 1048576: the law returns true, and each argument reads as it did; tied to the program's text where variables are listed. -/
import Derived.Lib.LaidU8
import Derived.MakeChecks
import Derived.Shelf.Vars
import Derived.Test.YtajmdlpanlbnjaaGreatDoorRows
import Derived.Test.YtajmdlpanlbnjaaGreatDoorChecked
import Derived.Test.YtajmdlpanlbnjaaGreatDoorCards
import Derived.Test.YtajmdlpanlbnjaaGreatDoorTie
import Derived.SevenTiedAt
import Derived.Lay
import Derived.Test.YtajmdlpanlbnjaaGreatDoorA5

namespace Go.Proofs.YtajmdlpanlbnjaaGreatDoor
open Go Go.RowKit
set_option linter.unusedVariables false
set_option linter.unusedSimpArgs false

def F.pl (s : ByteArray) (l : List ByteArray) : ByteArray := F.cat s l ++ ⟨⟨[10]⟩⟩

theorem F.pl_le (s : ByteArray) (l : List ByteArray) : s.size ≤ (F.cat s l).size ∧ (F.cat s l).size ≤ (F.pl s l).size := by
  refine ⟨F.cat_le l s, ?_⟩
  unfold F.pl
  rw [ByteArray.size_append]
  omega

def F.tX (s : ByteArray) : List ByteArray → ByteArray
  | [] => s
  | x :: l => F.tX (F.pl s [x]) l

theorem F.tX_le : ∀ (l : List ByteArray) (s : ByteArray), s.size ≤ (F.tX s l).size
  | [], s => Nat.le_refl _
  | x :: l, s => by
    have h1 := F.tX_le l (F.pl s [x])
    have h2 := F.pl_le s [x]
    rw [F.tX]
    omega

def F.e1 (s : ByteArray) (brk : Bool) : ByteArray := bif brk then F.pl s [F.kBrk] else s

def F.e2 (s : ByteArray) (d : Int) : ByteArray := bif decide (0 ≤ d) then F.pl s [F.kDatS, F.dtS d] else s

def F.e3 (s key ky : ByteArray) : ByteArray := bif F.seq ky key then s else F.pl s [F.kKeyS, F.dsh ky]

def F.e4 (s : ByteArray) (g : Bool) : ByteArray := bif g then F.pl s [F.kGap] else s

def F.bE' (s key : ByteArray) (u : ByteArray) (m : Int) (b : Bool) (d : Int) (ky : ByteArray) (g : Bool) : ByteArray := F.pl (F.pl (F.e4 (F.e3 (F.e2 (F.e1 s b) d) key ky) g) [F.kTimS, F.tmS m]) [u]

def F.bE (s key : ByteArray) (e : Ent) : ByteArray := F.bE' (F.tX s e.extra) key e.uri e.milli e.brk e.date e.key e.gap

def F.tE (s key : ByteArray) : List Ent → ByteArray
  | [] => s
  | e :: l => F.tE (F.bE s key e) e.key l

theorem F.e_le (s key : ByteArray) (b : Bool) (d : Int) (ky : ByteArray) (g : Bool) : s.size ≤ (F.e1 s b).size ∧ (F.e1 s b).size ≤ (F.e2 (F.e1 s b) d).size ∧ (F.e2 (F.e1 s b) d).size ≤ (F.e3 (F.e2 (F.e1 s b) d) key ky).size ∧ (F.e3 (F.e2 (F.e1 s b) d) key ky).size ≤ (F.e4 (F.e3 (F.e2 (F.e1 s b) d) key ky) g).size := by
  have hpl : ∀ (s : ByteArray) (l : List ByteArray), s.size ≤ (F.pl s l).size := fun s l => by have := F.pl_le s l; omega
  refine ⟨?_, ?_, ?_, ?_⟩
  · generalize s = z
    unfold F.e1
    cases b
    · exact Nat.le_refl _
    · exact hpl _ _
  · generalize F.e1 s b = z
    unfold F.e2
    cases decide (0 ≤ d)
    · exact Nat.le_refl _
    · exact hpl _ _
  · generalize F.e2 (F.e1 s b) d = z
    unfold F.e3
    cases F.seq ky key
    · exact hpl _ _
    · exact Nat.le_refl _
  · generalize F.e3 (F.e2 (F.e1 s b) d) key ky = z
    unfold F.e4
    cases g
    · exact Nat.le_refl _
    · exact hpl _ _

theorem F.bE_le (s key : ByteArray) (e : Ent) : (F.tX s e.extra).size ≤ (F.bE s key e).size := by
  obtain ⟨h1, h2, h3, h4⟩ := F.e_le (F.tX s e.extra) key e.brk e.date e.key e.gap
  unfold F.bE F.bE'
  have h5 := F.pl_le (F.e4 (F.e3 (F.e2 (F.e1 (F.tX s e.extra) e.brk) e.date) key e.key) e.gap) [F.kTimS, F.tmS e.milli]
  have h6 := F.pl_le (F.pl (F.e4 (F.e3 (F.e2 (F.e1 (F.tX s e.extra) e.brk) e.date) key e.key) e.gap) [F.kTimS, F.tmS e.milli]) [e.uri]
  omega

theorem F.tE_le : ∀ (l : List Ent) (s key : ByteArray), s.size ≤ (F.tE s key l).size
  | [], s, key => Nat.le_refl _
  | e :: l, s, key => by
    have h1 := F.tE_le l (F.bE s key e) e.key
    have h2 := F.bE_le s key e
    have h3 := F.tX_le e.extra s
    rw [F.tE]
    omega

def F.entW (e : Ent) : Bool := decide (0 ≤ e.milli) && decide (e.milli ≤ 3600000) && decide (e.date ≤ 253402300799999) && decide (e.extra.length ≤ 1000)

def F.tEB (s key : ByteArray) (l : List Ent) : Bool := decide ((F.tE s key l).size ≤ 80000000)

theorem F.tEB_iff {s key : ByteArray} {l : List Ent} : F.tEB s key l = true ↔ (F.tE s key l).size ≤ 80000000 := by
  unfold F.tEB
  exact decide_eq_true_iff

namespace M

theorem evDsh (s : ByteArray) : (runF en0 false Tryz.f53 [vS s]).val =
  bif ByteArray.toList s == ByteArray.toList (ByteArray.mk (Array.mk [])) then some ((vS (ByteArray.mk (Array.mk [(45 : UInt8)]))), []) else some ((vS s), []) := (runFR_val).symm.trans (by kernel_rfl)

def encDsh1 (s : ByteArray) : List AV := [vS s]

def encDsh (a : ByteArray) : List AV := encDsh1 a

theorem encDsh_inj (a a' : ByteArray) (h : encDsh a = encDsh a') : a = a' := by
  simp only [encDsh, encDsh1] at h
  try simp [eUs_inj, strs_inj, ints_inj, ents_inj, eEnt_iff, eLst_iff, eSnds_inj, eStrms_inj] at h
  grind

theorem unDsh (s : ByteArray) : unenc encDsh ([(vS s)]) = some (s) := unenc_of encDsh_inj (s) rfl

def resDsh1 (s : ByteArray) : AV × Heap := (vS (F.dsh s), [])

def preDsh1 (s : ByteArray) : Bool := true

noncomputable def oDsh : Orc := orc 53 true encDsh (fun a => preDsh1 a) fun a => resDsh1 a

theorem okDsh : OrcOK Tryz.prog noG oDsh := by
  refine mk_ok Tryz.f53 (keep := false) (by kernel_rfl) (by kernel_rfl) en0_ok mixed (no_loops (by kernel_rfl)) (by first | exact fun _ _ => ⟨rfl, rfl⟩ | (intro h; cases h)) ?_
  rintro s hpre hok
  show (runF en0 false _ (encDsh1 _)).val = some (resDsh1 _)
  unfold encDsh1 resDsh1
  rw [evDsh]
  simp only [etaEnt, etaLst, etaSnd, etaStrm, etaMas, Option.bind_some, List.length_map, unStrs, unInts, unBools, unEnts, unItms, unTrns, cond_true, cond_false, Bool.and_true, Bool.true_and, unWstU, unBstU, F.bldS_some, F.bldLen_some, F.dsh, F.seq]
  cases s.toList == (⟨⟨[]⟩⟩ : ByteArray).toList <;> rfl

def stTx2 (t : Int) (f : Int) (b : Int) (es : List Ent) (en : Bool) (i : Nat) (key : ByteArray) (u : ByteArray) (m : Int) (br : Bool) (d : Int) (ky : ByteArray) (g : Bool) (x : List ByteArray) (s : ByteArray) (j : Nat) : St := ⟨[(50, vI j), (49, vI x.length), (48, .sl (x.map eStr)), (43, vI i), (42, vI es.length), (41, .sl (es.map eEnt)), (9, .ptr 9 0 0), (7, vS key), (6, .fn 49 [.ptr 5 0 0]), (5, .ptr 5 0 0), (2, .ptr 2 0 0)], [(20000, ⟨false, 5, 1, F.eUs s⟩), (9, ⟨true, 0, 0, [[vS u, vI m, vB br, vI d, vS ky, vB g, .sl (x.map eStr)]]⟩), (5, ⟨true, 81, 0, [[.ptr 5 0 0, .own 20000]]⟩), (2, ⟨true, 0, 0, [[vI t, vI f, vI b, .sl (es.map eEnt), vB en]]⟩)]⟩

def stTx21 (a : Int × Int × Int × (List Ent) × Bool × Nat × ByteArray × ByteArray × Int × Bool × Int × ByteArray × Bool × (List ByteArray) × ByteArray × Nat) : St := stTx2 a.1 a.2.1 a.2.2.1 a.2.2.2.1 a.2.2.2.2.1 a.2.2.2.2.2.1 a.2.2.2.2.2.2.1 a.2.2.2.2.2.2.2.1 a.2.2.2.2.2.2.2.2.1 a.2.2.2.2.2.2.2.2.2.1 a.2.2.2.2.2.2.2.2.2.2.1 a.2.2.2.2.2.2.2.2.2.2.2.1 a.2.2.2.2.2.2.2.2.2.2.2.2.1 a.2.2.2.2.2.2.2.2.2.2.2.2.2.1 a.2.2.2.2.2.2.2.2.2.2.2.2.2.2.1 a.2.2.2.2.2.2.2.2.2.2.2.2.2.2.2

theorem stTx2_inj (a a' : Int × Int × Int × (List Ent) × Bool × Nat × ByteArray × ByteArray × Int × Bool × Int × ByteArray × Bool × (List ByteArray) × ByteArray × Nat) (h : stTx21 a = stTx21 a') : a = a' := by
  simp only [stTx21, stTx2] at h
  try simp [eUs_inj, strs_inj, ints_inj, ents_inj, eEnt_iff, eLst_iff, eSnds_inj, eStrms_inj] at h
  grind

theorem unstTx2 (t : Int) (f : Int) (b : Int) (es : List Ent) (en : Bool) (i : Nat) (key : ByteArray) (u : ByteArray) (m : Int) (br : Bool) (d : Int) (ky : ByteArray) (g : Bool) (x : List ByteArray) (s : ByteArray) (j : Nat) : unenc stTx21 (St.mk [(50, (vI (↑j : Int))), (49, (vI (↑(List.length x) : Int))), (48, AV.sl (List.map eStr x)), (43, (vI (↑i : Int))), (42, (vI (↑(List.length es) : Int))), (41, AV.sl
  (List.map eEnt es)), (9, .ptr 9 0 0), (7, (vS key)), (6, AV.fn (49 : FuncId) [.ptr 5 0 0]), (5, .ptr 5 0 0), (2, .ptr 2 0 0)] [(20000, Blk.mk false 5 1 (F.eUs s)), (9,
  Blk.mk true 0 0 [[(vS u), (vI m), (vB br), (vI d), (vS ky), (vB g), AV.sl (List.map eStr x)]]), (5, Blk.mk true 81 0 [[.ptr 5 0 0, .own 20000]]), (2, Blk.mk true 0 0 [[(vI
  t), (vI f), (vI b), AV.sl (List.map eEnt es), (vB en)]])]) = some (t, f, b, es, en, i, key, u, m, br, d, ky, g, x, s, j) := unenc_of stTx2_inj (t, f, b, es, en, i, key, u, m, br, d, ky, g, x, s, j) rfl

theorem unstTx20 (t : Int) (f : Int) (b : Int) (es : List Ent) (en : Bool) (i : Nat) (key : ByteArray) (u : ByteArray) (m : Int) (br : Bool) (d : Int) (ky : ByteArray) (g : Bool) (x : List ByteArray) (s : ByteArray)  : unenc stTx21 (St.mk [(50, (vI (0 : Int))), (49, (vI (↑(List.length x) : Int))), (48, AV.sl (List.map eStr x)), (43, (vI (↑i : Int))), (42, (vI (↑(List.length es) : Int))), (41, AV.sl
  (List.map eEnt es)), (9, .ptr 9 0 0), (7, (vS key)), (6, AV.fn (49 : FuncId) [.ptr 5 0 0]), (5, .ptr 5 0 0), (2, .ptr 2 0 0)] [(20000, Blk.mk false 5 1 (F.eUs s)), (9,
  Blk.mk true 0 0 [[(vS u), (vI m), (vB br), (vI d), (vS ky), (vB g), AV.sl (List.map eStr x)]]), (5, Blk.mk true 81 0 [[.ptr 5 0 0, .own 20000]]), (2, Blk.mk true 0 0 [[(vI
  t), (vI f), (vI b), AV.sl (List.map eEnt es), (vB en)]])]) = some (t, f, b, es, en, i, key, u, m, br, d, ky, g, x, s, 0) := unenc_of stTx2_inj (t, f, b, es, en, i, key, u, m, br, d, ky, g, x, s, 0) rfl

def outTx2 (t : Int) (f : Int) (b : Int) (es : List Ent) (en : Bool) (i : Nat) (key : ByteArray) (u : ByteArray) (m : Int) (br : Bool) (d : Int) (ky : ByteArray) (g : Bool) (x : List ByteArray) (s : ByteArray) (j : Nat) : T (Ex × St) := .ret (.exit 2, ⟨[(43, vI i), (42, vI es.length), (41, .sl (es.map eEnt)), (9, .ptr 9 0 0), (7, vS key), (6, .fn 49 [.ptr 5 0 0]), (5, .ptr 5 0 0), (2, .ptr 2 0 0)], [(20000, ⟨false, 5, 1, F.eUs (F.tX s (x.drop j))⟩), (9, ⟨true, 0, 0, [[vS u, vI m, vB br, vI d, vS ky, vB g, .sl (x.map eStr)]]⟩), (5, ⟨true, 81, 0, [[.ptr 5 0 0, .own 20000]]⟩), (2, ⟨true, 0, 0, [[vI t, vI f, vI b, .sl (es.map eEnt), vB en]]⟩)]⟩)

noncomputable def prlTx2 (t : Int) (f : Int) (b : Int) (es : List Ent) (en : Bool) (i : Nat) (key : ByteArray) (u : ByteArray) (m : Int) (br : Bool) (d : Int) (ky : ByteArray) (g : Bool) (x : List ByteArray) (s : ByteArray) (j : Nat) : Bool := decide (x.length ≤ 1000) && decide (j ≤ x.length) && decide ((F.tX s (x.drop j)).size ≤ 80000000)

noncomputable def lpTx2 : Nat × (St → T (Ex × St)) := (13, lpo [50, 49, 48, 43, 42, 41, 9, 7, 6, 5, 2] [20000, 9, 5, 2] stTx21 (fun a => prlTx2 a.1 a.2.1 a.2.2.1 a.2.2.2.1 a.2.2.2.2.1 a.2.2.2.2.2.1 a.2.2.2.2.2.2.1 a.2.2.2.2.2.2.2.1 a.2.2.2.2.2.2.2.2.1 a.2.2.2.2.2.2.2.2.2.1 a.2.2.2.2.2.2.2.2.2.2.1 a.2.2.2.2.2.2.2.2.2.2.2.1 a.2.2.2.2.2.2.2.2.2.2.2.2.1 a.2.2.2.2.2.2.2.2.2.2.2.2.2.1 a.2.2.2.2.2.2.2.2.2.2.2.2.2.2.1 a.2.2.2.2.2.2.2.2.2.2.2.2.2.2.2) fun a => outTx2 a.1 a.2.1 a.2.2.1 a.2.2.2.1 a.2.2.2.2.1 a.2.2.2.2.2.1 a.2.2.2.2.2.2.1 a.2.2.2.2.2.2.2.1 a.2.2.2.2.2.2.2.2.1 a.2.2.2.2.2.2.2.2.2.1 a.2.2.2.2.2.2.2.2.2.2.1 a.2.2.2.2.2.2.2.2.2.2.2.1 a.2.2.2.2.2.2.2.2.2.2.2.2.1 a.2.2.2.2.2.2.2.2.2.2.2.2.2.1 a.2.2.2.2.2.2.2.2.2.2.2.2.2.2.1 a.2.2.2.2.2.2.2.2.2.2.2.2.2.2.2)

def stTx1 (t : Int) (f : Int) (b : Int) (es : List Ent) (en : Bool) (s : ByteArray) (key : ByteArray) (i : Nat) : St := ⟨[(43, vI i), (42, vI es.length), (41, .sl (es.map eEnt)), (7, vS key), (6, .fn 49 [.ptr 5 0 0]), (5, .ptr 5 0 0), (2, .ptr 2 0 0)], [(20000, ⟨false, 5, 1, F.eUs s⟩), (5, ⟨true, 81, 0, [[.ptr 5 0 0, .own 20000]]⟩), (2, ⟨true, 0, 0, [[vI t, vI f, vI b, .sl (es.map eEnt), vB en]]⟩)]⟩

def stTx11 (a : Int × Int × Int × (List Ent) × Bool × ByteArray × ByteArray × Nat) : St := stTx1 a.1 a.2.1 a.2.2.1 a.2.2.2.1 a.2.2.2.2.1 a.2.2.2.2.2.1 a.2.2.2.2.2.2.1 a.2.2.2.2.2.2.2

theorem stTx1_inj (a a' : Int × Int × Int × (List Ent) × Bool × ByteArray × ByteArray × Nat) (h : stTx11 a = stTx11 a') : a = a' := by
  simp only [stTx11, stTx1] at h
  try simp [eUs_inj, strs_inj, ints_inj, ents_inj, eEnt_iff, eLst_iff, eSnds_inj, eStrms_inj] at h
  grind

theorem unstTx1 (t : Int) (f : Int) (b : Int) (es : List Ent) (en : Bool) (s : ByteArray) (key : ByteArray) (i : Nat) : unenc stTx11 (St.mk [(43, (vI (↑i : Int))), (42, (vI (↑(List.length es) : Int))), (41, AV.sl (List.map eEnt es)), (7, (vS key)), (6, AV.fn (49 : FuncId) [.ptr 5 0 0]), (5, .ptr 5 0 0),
  (2, .ptr 2 0 0)] [(20000, Blk.mk false 5 1 (F.eUs s)), (5, Blk.mk true 81 0 [[.ptr 5 0 0, .own 20000]]), (2, Blk.mk true 0 0 [[(vI t), (vI f), (vI b), AV.sl (List.map eEnt
  es), (vB en)]])]) = some (t, f, b, es, en, s, key, i) := unenc_of stTx1_inj (t, f, b, es, en, s, key, i) rfl

theorem unstTx10 (t : Int) (f : Int) (b : Int) (es : List Ent) (en : Bool) (s : ByteArray)  : unenc stTx11 (St.mk [(43, (vI (0 : Int))), (42, (vI (↑(List.length es) : Int))), (41, AV.sl (List.map eEnt es)), (7, (vS (ByteArray.mk (Array.mk [])))), (6, AV.fn (49 : FuncId) [.ptr 5
  0 0]), (5, .ptr 5 0 0), (2, .ptr 2 0 0)] [(20000, Blk.mk false 5 1 (F.eUs s)), (5, Blk.mk true 81 0 [[.ptr 5 0 0, .own 20000]]), (2, Blk.mk true 0 0 [[(vI t), (vI f), (vI
  b), AV.sl (List.map eEnt es), (vB en)]])]) = some (t, f, b, es, en, s, ⟨⟨[]⟩⟩, 0) := unenc_of stTx1_inj (t, f, b, es, en, s, ⟨⟨[]⟩⟩, 0) rfl

def outTx1 (t : Int) (f : Int) (b : Int) (es : List Ent) (en : Bool) (s : ByteArray) (key : ByteArray) (i : Nat) : T (Ex × St) := .ret (.exit 0, ⟨[(6, .fn 49 [.ptr 5 0 0]), (5, .ptr 5 0 0), (2, .ptr 2 0 0)], [(20000, ⟨false, 5, 1, F.eUs (F.tE s key (es.drop i))⟩), (5, ⟨true, 81, 0, [[.ptr 5 0 0, .own 20000]]⟩), (2, ⟨true, 0, 0, [[vI t, vI f, vI b, .sl (es.map eEnt), vB en]]⟩)]⟩)

noncomputable def prlTx1 (t : Int) (f : Int) (b : Int) (es : List Ent) (en : Bool) (s : ByteArray) (key : ByteArray) (i : Nat) : Bool := decide (es.length ≤ 1000) && decide (i ≤ es.length) && es.all F.entW && F.tEB s key (es.drop i)

noncomputable def lpTx1 : Nat × (St → T (Ex × St)) := (10, lpo [43, 42, 41, 7, 6, 5, 2] [20000, 5, 2] stTx11 (fun a => prlTx1 a.1 a.2.1 a.2.2.1 a.2.2.2.1 a.2.2.2.2.1 a.2.2.2.2.2.1 a.2.2.2.2.2.2.1 a.2.2.2.2.2.2.2) fun a => outTx1 a.1 a.2.1 a.2.2.1 a.2.2.2.1 a.2.2.2.2.1 a.2.2.2.2.2.1 a.2.2.2.2.2.2.1 a.2.2.2.2.2.2.2)

theorem pre_ok (s : ByteArray) (l : List ByteArray) (h1 : l.length ≤ 1000) (h2 : (F.pl s l).size ≤ 80000000) : F.putB (some s) l = true := by
  have h3 := F.pl_le s l
  show (decide (l.length ≤ 1000) && decide ((F.cat s l).size ≤ 90000000)) = true
  rw [decide_eq_true h1, decide_eq_true (by omega)]
  rfl

theorem fpl (s : ByteArray) (l : List ByteArray) : F.cat s l ++ (⟨⟨[10]⟩⟩ : ByteArray) = F.pl s l := rfl

noncomputable def enTx : Env := envH ty noG lks [oIta, oDte, oDcm, oDsh] [oPut, oWst, oBst] [20000] [lpTx1, lpTx2]

theorem enTx_ok : EnvOK Tryz.prog enTx := by
  refine envH_ok lks_ok ty_ok ?_ ?_
  · simp only [List.forall_mem_cons]
    exact ⟨okIta, okDte, okDcm, okDsh, by simp⟩
  · simp only [List.forall_mem_cons]
    exact ⟨okPut, okWst, okBst, by simp⟩

theorem evTx2L (t : Int) (f : Int) (b : Int) (es : List Ent) (en : Bool) (i : Nat) (key : ByteArray) (u : ByteArray) (m : Int) (br : Bool) (d : Int) (ky : ByteArray) (g : Bool) (x : List ByteArray) (s : ByteArray) (j : Nat) : ((exec enTx (loopN Tryz.f26 1) (stTx2 t f b es en i key u m br d ky g x s j)).bind (lessX ([50, 49, 48, 43, 42, 41, 9, 7, 6, 5, 2], [20000, 9, 5, 2]) ([43, 42, 41, 9, 7, 6, 5, 2], [20000, 9, 5, 2]) ([], []))).val =
  (fun (q : List (Nat × AV)) => (fun (q_1 : List (Nat × Blk)) => bif decide ((↑j : Int) < (↑(List.length x) : Int)) then Option.bind (unenc (List.map eStr) (List.map eStr x)) fun (z : List ByteArray) => bif decide (j < List.length z) then Option.bind (unenc encPut ([.own 900, .ptr 901 0 0], [(902, Blk.mk false 5 1 (F.eUs s)), (901, Blk.mk true 81 0 [[.ptr 901 0 0, .own 902]]), (900, Blk.mk false 9 1 [[(vS (List.getD z j (ByteArray.mk (Array.mk []))))]])])) fun (z : Option ByteArray × List ByteArray) => bif F.putB z.fst z.snd then bif match z.fst with | some val => false | none => true then none else some (Ex.normal, St.mk ((50, (vI (IntKind.wrap IntKind.i64 ((↑j : Int) + (1 : Int))))) :: (49, (vI (↑(List.length x) : Int))) :: (48, AV.sl (List.map eStr x)) :: q) ((20000, Blk.mk false 5 1 (F.eUs (F.cat (F.bldS z.fst) z.snd ++ ByteArray.mk (Array.mk [(10 : UInt8)])))) :: q_1)) else none else none else some (Ex.exit (2 : Nat), St.mk q ((20000, Blk.mk false 5 1 (F.eUs s)) :: q_1))) [(9, Blk.mk true 0 0 [[(vS u), (vI m), (vB br), (vI d), (vS ky), (vB g), AV.sl (List.map eStr x)]]), (5, Blk.mk true 81 0 [[.ptr 5 0 0, .own 20000]]), (2, Blk.mk true 0 0 [[(vI t), (vI f), (vI b), AV.sl (List.map eEnt es), (vB en)]])]) [(43, (vI (↑i : Int))), (42, (vI (↑(List.length es) : Int))), (41, AV.sl (List.map eEnt es)), (9, .ptr 9 0 0), (7, (vS key)), (6, AV.fn (49 : FuncId) [.ptr 5 0 0]), (5, .ptr 5 0 0), (2, .ptr 2 0 0)] := (execR_bind _ _ _).symm.trans (by kernel_rfl)

theorem lpTx2_ok (t : Int) (f : Int) (b : Int) (es : List Ent) (en : Bool) (i : Nat) (key : ByteArray) (u : ByteArray) (m : Int) (br : Bool) (d : Int) (ky : ByteArray) (g : Bool) (x : List ByteArray) (s : ByteArray) (j : Nat) (hp : prlTx2 t f b es en i key u m br d ky g x s j = true) : ∀ ex s', (outTx2 t f b es en i key u m br d ky g x s j).val = some (ex, s') → LoopOK enTx (loopN Tryz.f26 1) (stTx2 t f b es en i key u m br d ky g x s j) ex s' := by
  simp only [prlTx2, Bool.and_eq_true, decide_eq_true_eq] at hp
  obtain ⟨⟨h1, h2⟩, h3⟩ := hp
  refine loop_gen (st := fun p : ByteArray × Nat => stTx2 t f b es en i key u m br d ky g x p.1 p.2) (out := fun p => outTx2 t f b es en i key u m br d ky g x p.1 p.2) (I := fun p => p.2 ≤ x.length ∧ (F.tX p.1 (x.drop p.2)).size ≤ 80000000) (n := ([50, 49, 48, 43, 42, 41, 9, 7, 6, 5, 2], [20000, 9, 5, 2])) (e := ([43, 42, 41, 9, 7, 6, 5, 2], [20000, 9, 5, 2])) (r := ([], [])) (fun p => x.length - p.2) ?_ (s, j) ⟨h2, h3⟩
  clear h2 h3
  rintro ⟨s, j⟩ ⟨h2, h3⟩
  simp only at h2 h3
  by_cases hlt : j < x.length
  · have hy : x[j]? = some x[j] := List.getElem?_eq_getElem hlt
    generalize x[j] = y at hy
    have hdd := drop_y hy
    rw [hdd, F.tX] at h3
    have hc := F.tX_le (x.drop (j + 1)) (F.pl s [y])
    have hc2 := F.pl_le s [y]
    have hc3 : F.cat s [y] = s ++ y := rfl
    right
    refine ⟨(F.pl s [y], j + 1), ?_, rfl, ⟨hlt, h3⟩, by simp only; omega, ?_⟩
    · rw [evTx2L]
      simp only [unIta, unDte, unDcm, unDsh, unPut, unWst, unBst, preIta1, preDte1, preDcm1, preDsh1, prePut1, preWst1, preBst1, unstTx1, unstTx2, unstTx10, unstTx20, prlTx1, prlTx2, outTx1, outTx2, etaEnt, etaLst, etaSnd, etaStrm, etaMas, Option.bind_some, List.length_map, unStrs, unInts, unBools, unEnts, unItms, unTrns, cond_true, cond_false, Bool.and_true, Bool.true_and, unWstU, unBstU, F.bldS_some, F.bldLen_some, cast_lt hlt, decide_eq_true hlt, getD_at hy, unPut1, resPut, fpl]
      rw [pre_ok s [y] (Nat.le_of_ble_eq_true rfl) (by omega), next_at hlt (by omega : x.length ≤ 9223372036854775807)]
      rfl
    · simp only [outTx2, hdd, F.tX]
  · have : j = x.length := by omega
    subst this
    left
    refine ⟨(.exit 2, ⟨[(43, vI i), (42, vI es.length), (41, .sl (es.map eEnt)), (9, .ptr 9 0 0), (7, vS key), (6, .fn 49 [.ptr 5 0 0]), (5, .ptr 5 0 0), (2, .ptr 2 0 0)], [(20000, ⟨false, 5, 1, F.eUs s⟩), (9, ⟨true, 0, 0, [[vS u, vI m, vB br, vI d, vS ky, vB g, .sl (x.map eStr)]]⟩), (5, ⟨true, 81, 0, [[.ptr 5 0 0, .own 20000]]⟩), (2, ⟨true, 0, 0, [[vI t, vI f, vI b, .sl (es.map eEnt), vB en]]⟩)]⟩), ?_, ?_, by simp, rfl⟩
    · rw [evTx2L]
      simp
    · simp only [outTx2, List.drop_length, F.tX]
      rfl

theorem evTx1L (t : Int) (f : Int) (b : Int) (es : List Ent) (en : Bool) (s : ByteArray) (key : ByteArray) (i : Nat) : ((exec enTx (loopN Tryz.f26 0) (stTx1 t f b es en s key i)).bind (lessX ([43, 42, 41, 7, 6, 5, 2], [20000, 5, 2]) ([6, 5, 2], [20000, 5, 2]) ([], []))).val =
  (fun (q : ByteArray) => (fun (q_1 : List AV) => (fun (q_2 : List AV) => (fun (q_3 : Ent) => (fun (q_4 : Nat × Blk) => (fun (q_5 : Nat × Blk) => (fun (q_6 : List AV) => (fun (q_7 : List AV) => (fun (q_8 : List AV) => (fun (q_9 : List (Nat × AV)) => (fun (q_10 : List (Nat × Blk)) => (fun (q_11 : List (Nat × Blk)) => bif decide ((↑i : Int) < (↑(List.length es) : Int)) then Option.bind (unenc (List.map eEnt) (List.map eEnt es)) fun (z : List Ent) => bif decide (i < List.length z) then Option.bind (unenc stTx21 (St.mk ((50, (vI (0 : Int))) :: (49, (vI (↑(List.length (List.map eStr (List.getD z i q_3).extra)) : Int))) :: (48, AV.sl (List.map eStr (List.getD z i q_3).extra)) :: (43, (vI (↑i : Int))) :: (42, (vI (↑(List.length es) : Int))) :: (41, AV.sl (List.map eEnt es)) :: (9, .ptr 9 0 0) :: (7, (vS key)) :: q_9) ((20000, Blk.mk false 5 1 (F.eUs s)) :: (9, Blk.mk true 0 0 [[(vS (List.getD z i q_3).uri), (vI (List.getD z i q_3).milli), (vB (List.getD z i q_3).brk), (vI (List.getD z i q_3).date), (vS (List.getD z i q_3).key), (vB (List.getD z i q_3).gap), AV.sl (List.map eStr (List.getD z i q_3).extra)]]) :: q_11))) fun (z : Int × Int × Int × List Ent × Bool × Nat × ByteArray × ByteArray × Int × Bool × Int × ByteArray × Bool × List ByteArray × ByteArray × Nat) => (fun (q_12 : AV) => (fun (q_13 : Bool × Int × ByteArray × Bool × List ByteArray × ByteArray × Nat) => (fun (q_14 : Nat × AV) => (fun (q_15 : Int) => (fun (q_16 : ByteArray) => (fun (q_17 : Bool) => (fun (q_18 : List ByteArray × ByteArray × Nat) => (fun (q_19 : Nat) => (fun (q_20 : Nat) => (fun (q_21 : Option Int) => (fun (q_22 : Nat × AV) => (fun (q_23 : Option ByteArray) => (fun (q_24 : Option Int) => (fun (q_25 : Bool) => (fun (q_26 : List (Nat × Blk)) => (fun (q_27 : ByteArray) => (fun (q_28 : List (Nat × Blk)) => (fun (q_29 : List (Nat × AV)) => (fun (q_30 : Nat × Blk) => (fun (q_31 : List (Nat × AV)) => bif decide (q_19 ≤ (1000 : Nat)) && decide (q_20 ≤ q_19) && decide (ByteArray.size q_27 ≤ (80000000 : Nat)) && true then bif q_13.fst then Option.bind (unenc encPut (q_1, [q_30, q_5, (900, Blk.mk false 9 1 [[(vS (ByteArray.mk (Array.mk [(35 : UInt8), (66 : UInt8), (82 : UInt8), (69 : UInt8), (65 : UInt8), (75 : UInt8)])))]])])) fun (z : Option ByteArray × List ByteArray) => (fun (q_32 : Nat × Blk) => bif F.putB z.fst z.snd then bif match z.fst with | some val => false | none => true then none else bif decide ((0 : Int) ≤ q_15) then Option.bind q_24 fun (z : Int) => bif decide ((0 : Int) ≤ z) && decide (z ≤ (253402300799999 : Int)) then Option.bind (unenc encPut (q_1, [q_32, q_5, (900, Blk.mk false 9 1 [q_8, [(vS (F.dtS z))]])])) fun (z : Option ByteArray × List ByteArray) => (fun (q_33 : Nat × Blk) => bif F.putB z.fst z.snd then bif match z.fst with | some val => false | none => true then none else bif q_25 then Option.bind q_23 fun (z : ByteArray) => Option.bind (unenc encPut (q_1, [q_33, q_5, (900, Blk.mk false 9 1 [q_6, [(vS (F.dsh z))]])])) fun (z : Option ByteArray × List ByteArray) => (fun (q_34 : Nat × Blk) => bif F.putB z.fst z.snd then bif match z.fst with | some val => false | none => true then none else bif q_17 then Option.bind (unenc encPut (q_1, q_34 :: q_10)) fun (z : Option ByteArray × List ByteArray) => bif F.putB z.fst z.snd then bif match z.fst with | some val => false | none => true then none else Option.bind q_21 fun (z_1 : Int) => bif decide ((0 : Int) ≤ z_1) && decide (z_1 ≤ (3600000 : Int)) then Option.bind (unenc encPut (q_1, [(902, Blk.mk false 5 1 (F.eUs (F.cat (F.bldS z.fst) z.snd ++ q))), q_5, (900, Blk.mk false 9 1 [q_7, [(vS (F.tmS z_1))]])])) fun (z : Option ByteArray × List ByteArray) => bif F.putB z.fst z.snd then bif match z.fst with | some val => false | none => true then none else Option.bind (unenc encPut (q_1, (902, Blk.mk false 5 1 (F.eUs (F.cat (F.bldS z.fst) z.snd ++ q))) :: q_26)) fun (z : Option ByteArray × List ByteArray) => bif F.putB z.fst z.snd then bif match z.fst with | some val => false | none => true then none else some (Ex.normal, St.mk q_31 ((20000, Blk.mk false 5 1 (F.eUs (F.cat (F.bldS z.fst) z.snd ++ q))) :: q_28)) else none else none else none else none else Option.bind q_21 fun (z : Int) => bif decide ((0 : Int) ≤ z) && decide (z ≤ (3600000 : Int)) then Option.bind (unenc encPut (q_1, [q_34, q_5, (900, Blk.mk false 9 1 [q_7, [(vS (F.tmS z))]])])) fun (z : Option ByteArray × List ByteArray) => bif F.putB z.fst z.snd then bif match z.fst with | some val => false | none => true then none else Option.bind (unenc encPut (q_1, (902, Blk.mk false 5 1 (F.eUs (F.cat (F.bldS z.fst) z.snd ++ q))) :: q_26)) fun (z : Option ByteArray × List ByteArray) => bif F.putB z.fst z.snd then bif match z.fst with | some val => false | none => true then none else some (Ex.normal, St.mk q_31 ((20000, Blk.mk false 5 1 (F.eUs (F.cat (F.bldS z.fst) z.snd ++ q))) :: q_28)) else none else none else none else none) (902, Blk.mk false 5 1 (F.eUs (F.cat (F.bldS z.fst) z.snd ++ q))) else bif q_17 then Option.bind (unenc encPut (q_1, q_33 :: q_10)) fun (z : Option ByteArray × List ByteArray) => bif F.putB z.fst z.snd then bif match z.fst with | some val => false | none => true then none else Option.bind q_21 fun (z_1 : Int) => bif decide ((0 : Int) ≤ z_1) && decide (z_1 ≤ (3600000 : Int)) then Option.bind (unenc encPut (q_1, [(902, Blk.mk false 5 1 (F.eUs (F.cat (F.bldS z.fst) z.snd ++ q))), q_5, (900, Blk.mk false 9 1 [q_7, [(vS (F.tmS z_1))]])])) fun (z : Option ByteArray × List ByteArray) => bif F.putB z.fst z.snd then bif match z.fst with | some val => false | none => true then none else Option.bind (unenc encPut (q_1, (902, Blk.mk false 5 1 (F.eUs (F.cat (F.bldS z.fst) z.snd ++ q))) :: q_26)) fun (z : Option ByteArray × List ByteArray) => bif F.putB z.fst z.snd then bif match z.fst with | some val => false | none => true then none else some (Ex.normal, St.mk q_29 ((20000, Blk.mk false 5 1 (F.eUs (F.cat (F.bldS z.fst) z.snd ++ q))) :: q_28)) else none else none else none else none else Option.bind q_21 fun (z : Int) => bif decide ((0 : Int) ≤ z) && decide (z ≤ (3600000 : Int)) then Option.bind (unenc encPut (q_1, [q_33, q_5, (900, Blk.mk false 9 1 [q_7, [(vS (F.tmS z))]])])) fun (z : Option ByteArray × List ByteArray) => bif F.putB z.fst z.snd then bif match z.fst with | some val => false | none => true then none else Option.bind (unenc encPut (q_1, (902, Blk.mk false 5 1 (F.eUs (F.cat (F.bldS z.fst) z.snd ++ q))) :: q_26)) fun (z : Option ByteArray × List ByteArray) => bif F.putB z.fst z.snd then bif match z.fst with | some val => false | none => true then none else some (Ex.normal, St.mk q_29 ((20000, Blk.mk false 5 1 (F.eUs (F.cat (F.bldS z.fst) z.snd ++ q))) :: q_28)) else none else none else none else none) (902, Blk.mk false 5 1 (F.eUs (F.cat (F.bldS z.fst) z.snd ++ q))) else none else bif q_25 then Option.bind q_23 fun (z : ByteArray) => Option.bind (unenc encPut (q_1, [q_32, q_5, (900, Blk.mk false 9 1 [q_6, [(vS (F.dsh z))]])])) fun (z : Option ByteArray × List ByteArray) => (fun (q_33 : Nat × Blk) => bif F.putB z.fst z.snd then bif match z.fst with | some val => false | none => true then none else bif q_17 then Option.bind (unenc encPut (q_1, q_33 :: q_10)) fun (z : Option ByteArray × List ByteArray) => bif F.putB z.fst z.snd then bif match z.fst with | some val => false | none => true then none else Option.bind q_21 fun (z_1 : Int) => bif decide ((0 : Int) ≤ z_1) && decide (z_1 ≤ (3600000 : Int)) then Option.bind (unenc encPut (q_1, [(902, Blk.mk false 5 1 (F.eUs (F.cat (F.bldS z.fst) z.snd ++ q))), q_5, (900, Blk.mk false 9 1 [q_7, [(vS (F.tmS z_1))]])])) fun (z : Option ByteArray × List ByteArray) => bif F.putB z.fst z.snd then bif match z.fst with | some val => false | none => true then none else Option.bind (unenc encPut (q_1, (902, Blk.mk false 5 1 (F.eUs (F.cat (F.bldS z.fst) z.snd ++ q))) :: q_26)) fun (z : Option ByteArray × List ByteArray) => bif F.putB z.fst z.snd then bif match z.fst with | some val => false | none => true then none else some (Ex.normal, St.mk q_31 ((20000, Blk.mk false 5 1 (F.eUs (F.cat (F.bldS z.fst) z.snd ++ q))) :: q_28)) else none else none else none else none else Option.bind q_21 fun (z : Int) => bif decide ((0 : Int) ≤ z) && decide (z ≤ (3600000 : Int)) then Option.bind (unenc encPut (q_1, [q_33, q_5, (900, Blk.mk false 9 1 [q_7, [(vS (F.tmS z))]])])) fun (z : Option ByteArray × List ByteArray) => bif F.putB z.fst z.snd then bif match z.fst with | some val => false | none => true then none else Option.bind (unenc encPut (q_1, (902, Blk.mk false 5 1 (F.eUs (F.cat (F.bldS z.fst) z.snd ++ q))) :: q_26)) fun (z : Option ByteArray × List ByteArray) => bif F.putB z.fst z.snd then bif match z.fst with | some val => false | none => true then none else some (Ex.normal, St.mk q_31 ((20000, Blk.mk false 5 1 (F.eUs (F.cat (F.bldS z.fst) z.snd ++ q))) :: q_28)) else none else none else none else none) (902, Blk.mk false 5 1 (F.eUs (F.cat (F.bldS z.fst) z.snd ++ q))) else bif q_17 then Option.bind (unenc encPut (q_1, q_32 :: q_10)) fun (z : Option ByteArray × List ByteArray) => bif F.putB z.fst z.snd then bif match z.fst with | some val => false | none => true then none else Option.bind q_21 fun (z_1 : Int) => bif decide ((0 : Int) ≤ z_1) && decide (z_1 ≤ (3600000 : Int)) then Option.bind (unenc encPut (q_1, [(902, Blk.mk false 5 1 (F.eUs (F.cat (F.bldS z.fst) z.snd ++ q))), q_5, (900, Blk.mk false 9 1 [q_7, [(vS (F.tmS z_1))]])])) fun (z : Option ByteArray × List ByteArray) => bif F.putB z.fst z.snd then bif match z.fst with | some val => false | none => true then none else Option.bind (unenc encPut (q_1, (902, Blk.mk false 5 1 (F.eUs (F.cat (F.bldS z.fst) z.snd ++ q))) :: q_26)) fun (z : Option ByteArray × List ByteArray) => bif F.putB z.fst z.snd then bif match z.fst with | some val => false | none => true then none else some (Ex.normal, St.mk q_29 ((20000, Blk.mk false 5 1 (F.eUs (F.cat (F.bldS z.fst) z.snd ++ q))) :: q_28)) else none else none else none else none else Option.bind q_21 fun (z : Int) => bif decide ((0 : Int) ≤ z) && decide (z ≤ (3600000 : Int)) then Option.bind (unenc encPut (q_1, [q_32, q_5, (900, Blk.mk false 9 1 [q_7, [(vS (F.tmS z))]])])) fun (z : Option ByteArray × List ByteArray) => bif F.putB z.fst z.snd then bif match z.fst with | some val => false | none => true then none else Option.bind (unenc encPut (q_1, (902, Blk.mk false 5 1 (F.eUs (F.cat (F.bldS z.fst) z.snd ++ q))) :: q_26)) fun (z : Option ByteArray × List ByteArray) => bif F.putB z.fst z.snd then bif match z.fst with | some val => false | none => true then none else some (Ex.normal, St.mk q_29 ((20000, Blk.mk false 5 1 (F.eUs (F.cat (F.bldS z.fst) z.snd ++ q))) :: q_28)) else none else none else none else none) (902, Blk.mk false 5 1 (F.eUs (F.cat (F.bldS z.fst) z.snd ++ q))) else bif decide ((0 : Int) ≤ q_15) then Option.bind q_24 fun (z : Int) => bif decide ((0 : Int) ≤ z) && decide (z ≤ (253402300799999 : Int)) then Option.bind (unenc encPut (q_1, [q_30, q_5, (900, Blk.mk false 9 1 [q_8, [(vS (F.dtS z))]])])) fun (z : Option ByteArray × List ByteArray) => (fun (q_32 : Nat × Blk) => bif F.putB z.fst z.snd then bif match z.fst with | some val => false | none => true then none else bif q_25 then Option.bind q_23 fun (z : ByteArray) => Option.bind (unenc encPut (q_1, [q_32, q_5, (900, Blk.mk false 9 1 [q_6, [(vS (F.dsh z))]])])) fun (z : Option ByteArray × List ByteArray) => (fun (q_33 : Nat × Blk) => bif F.putB z.fst z.snd then bif match z.fst with | some val => false | none => true then none else bif q_17 then Option.bind (unenc encPut (q_1, q_33 :: q_10)) fun (z : Option ByteArray × List ByteArray) => bif F.putB z.fst z.snd then bif match z.fst with | some val => false | none => true then none else Option.bind q_21 fun (z_1 : Int) => bif decide ((0 : Int) ≤ z_1) && decide (z_1 ≤ (3600000 : Int)) then Option.bind (unenc encPut (q_1, [(902, Blk.mk false 5 1 (F.eUs (F.cat (F.bldS z.fst) z.snd ++ q))), q_5, (900, Blk.mk false 9 1 [q_7, [(vS (F.tmS z_1))]])])) fun (z : Option ByteArray × List ByteArray) => bif F.putB z.fst z.snd then bif match z.fst with | some val => false | none => true then none else Option.bind (unenc encPut (q_1, (902, Blk.mk false 5 1 (F.eUs (F.cat (F.bldS z.fst) z.snd ++ q))) :: q_26)) fun (z : Option ByteArray × List ByteArray) => bif F.putB z.fst z.snd then bif match z.fst with | some val => false | none => true then none else some (Ex.normal, St.mk q_31 ((20000, Blk.mk false 5 1 (F.eUs (F.cat (F.bldS z.fst) z.snd ++ q))) :: q_28)) else none else none else none else none else Option.bind q_21 fun (z : Int) => bif decide ((0 : Int) ≤ z) && decide (z ≤ (3600000 : Int)) then Option.bind (unenc encPut (q_1, [q_33, q_5, (900, Blk.mk false 9 1 [q_7, [(vS (F.tmS z))]])])) fun (z : Option ByteArray × List ByteArray) => bif F.putB z.fst z.snd then bif match z.fst with | some val => false | none => true then none else Option.bind (unenc encPut (q_1, (902, Blk.mk false 5 1 (F.eUs (F.cat (F.bldS z.fst) z.snd ++ q))) :: q_26)) fun (z : Option ByteArray × List ByteArray) => bif F.putB z.fst z.snd then bif match z.fst with | some val => false | none => true then none else some (Ex.normal, St.mk q_31 ((20000, Blk.mk false 5 1 (F.eUs (F.cat (F.bldS z.fst) z.snd ++ q))) :: q_28)) else none else none else none else none) (902, Blk.mk false 5 1 (F.eUs (F.cat (F.bldS z.fst) z.snd ++ q))) else bif q_17 then Option.bind (unenc encPut (q_1, q_32 :: q_10)) fun (z : Option ByteArray × List ByteArray) => bif F.putB z.fst z.snd then bif match z.fst with | some val => false | none => true then none else Option.bind q_21 fun (z_1 : Int) => bif decide ((0 : Int) ≤ z_1) && decide (z_1 ≤ (3600000 : Int)) then Option.bind (unenc encPut (q_1, [(902, Blk.mk false 5 1 (F.eUs (F.cat (F.bldS z.fst) z.snd ++ q))), q_5, (900, Blk.mk false 9 1 [q_7, [(vS (F.tmS z_1))]])])) fun (z : Option ByteArray × List ByteArray) => bif F.putB z.fst z.snd then bif match z.fst with | some val => false | none => true then none else Option.bind (unenc encPut (q_1, (902, Blk.mk false 5 1 (F.eUs (F.cat (F.bldS z.fst) z.snd ++ q))) :: q_26)) fun (z : Option ByteArray × List ByteArray) => bif F.putB z.fst z.snd then bif match z.fst with | some val => false | none => true then none else some (Ex.normal, St.mk q_29 ((20000, Blk.mk false 5 1 (F.eUs (F.cat (F.bldS z.fst) z.snd ++ q))) :: q_28)) else none else none else none else none else Option.bind q_21 fun (z : Int) => bif decide ((0 : Int) ≤ z) && decide (z ≤ (3600000 : Int)) then Option.bind (unenc encPut (q_1, [q_32, q_5, (900, Blk.mk false 9 1 [q_7, [(vS (F.tmS z))]])])) fun (z : Option ByteArray × List ByteArray) => bif F.putB z.fst z.snd then bif match z.fst with | some val => false | none => true then none else Option.bind (unenc encPut (q_1, (902, Blk.mk false 5 1 (F.eUs (F.cat (F.bldS z.fst) z.snd ++ q))) :: q_26)) fun (z : Option ByteArray × List ByteArray) => bif F.putB z.fst z.snd then bif match z.fst with | some val => false | none => true then none else some (Ex.normal, St.mk q_29 ((20000, Blk.mk false 5 1 (F.eUs (F.cat (F.bldS z.fst) z.snd ++ q))) :: q_28)) else none else none else none else none) (902, Blk.mk false 5 1 (F.eUs (F.cat (F.bldS z.fst) z.snd ++ q))) else none else bif q_25 then Option.bind q_23 fun (z : ByteArray) => Option.bind (unenc encPut (q_1, [q_30, q_5, (900, Blk.mk false 9 1 [q_6, [(vS (F.dsh z))]])])) fun (z : Option ByteArray × List ByteArray) => (fun (q_32 : Nat × Blk) => bif F.putB z.fst z.snd then bif match z.fst with | some val => false | none => true then none else bif q_17 then Option.bind (unenc encPut (q_1, q_32 :: q_10)) fun (z : Option ByteArray × List ByteArray) => bif F.putB z.fst z.snd then bif match z.fst with | some val => false | none => true then none else Option.bind q_21 fun (z_1 : Int) => bif decide ((0 : Int) ≤ z_1) && decide (z_1 ≤ (3600000 : Int)) then Option.bind (unenc encPut (q_1, [(902, Blk.mk false 5 1 (F.eUs (F.cat (F.bldS z.fst) z.snd ++ q))), q_5, (900, Blk.mk false 9 1 [q_7, [(vS (F.tmS z_1))]])])) fun (z : Option ByteArray × List ByteArray) => bif F.putB z.fst z.snd then bif match z.fst with | some val => false | none => true then none else Option.bind (unenc encPut (q_1, (902, Blk.mk false 5 1 (F.eUs (F.cat (F.bldS z.fst) z.snd ++ q))) :: q_26)) fun (z : Option ByteArray × List ByteArray) => bif F.putB z.fst z.snd then bif match z.fst with | some val => false | none => true then none else some (Ex.normal, St.mk q_31 ((20000, Blk.mk false 5 1 (F.eUs (F.cat (F.bldS z.fst) z.snd ++ q))) :: q_28)) else none else none else none else none else Option.bind q_21 fun (z : Int) => bif decide ((0 : Int) ≤ z) && decide (z ≤ (3600000 : Int)) then Option.bind (unenc encPut (q_1, [q_32, q_5, (900, Blk.mk false 9 1 [q_7, [(vS (F.tmS z))]])])) fun (z : Option ByteArray × List ByteArray) => bif F.putB z.fst z.snd then bif match z.fst with | some val => false | none => true then none else Option.bind (unenc encPut (q_1, (902, Blk.mk false 5 1 (F.eUs (F.cat (F.bldS z.fst) z.snd ++ q))) :: q_26)) fun (z : Option ByteArray × List ByteArray) => bif F.putB z.fst z.snd then bif match z.fst with | some val => false | none => true then none else some (Ex.normal, St.mk q_31 ((20000, Blk.mk false 5 1 (F.eUs (F.cat (F.bldS z.fst) z.snd ++ q))) :: q_28)) else none else none else none else none) (902, Blk.mk false 5 1 (F.eUs (F.cat (F.bldS z.fst) z.snd ++ q))) else bif q_17 then Option.bind (unenc encPut (q_1, q_30 :: q_10)) fun (z : Option ByteArray × List ByteArray) => bif F.putB z.fst z.snd then bif match z.fst with | some val => false | none => true then none else Option.bind q_21 fun (z_1 : Int) => bif decide ((0 : Int) ≤ z_1) && decide (z_1 ≤ (3600000 : Int)) then Option.bind (unenc encPut (q_1, [(902, Blk.mk false 5 1 (F.eUs (F.cat (F.bldS z.fst) z.snd ++ q))), q_5, (900, Blk.mk false 9 1 [q_7, [(vS (F.tmS z_1))]])])) fun (z : Option ByteArray × List ByteArray) => bif F.putB z.fst z.snd then bif match z.fst with | some val => false | none => true then none else Option.bind (unenc encPut (q_1, (902, Blk.mk false 5 1 (F.eUs (F.cat (F.bldS z.fst) z.snd ++ q))) :: q_26)) fun (z : Option ByteArray × List ByteArray) => bif F.putB z.fst z.snd then bif match z.fst with | some val => false | none => true then none else some (Ex.normal, St.mk q_29 ((20000, Blk.mk false 5 1 (F.eUs (F.cat (F.bldS z.fst) z.snd ++ q))) :: q_28)) else none else none else none else none else Option.bind q_21 fun (z : Int) => bif decide ((0 : Int) ≤ z) && decide (z ≤ (3600000 : Int)) then Option.bind (unenc encPut (q_1, [q_30, q_5, (900, Blk.mk false 9 1 [q_7, [(vS (F.tmS z))]])])) fun (z : Option ByteArray × List ByteArray) => bif F.putB z.fst z.snd then bif match z.fst with | some val => false | none => true then none else Option.bind (unenc encPut (q_1, (902, Blk.mk false 5 1 (F.eUs (F.cat (F.bldS z.fst) z.snd ++ q))) :: q_26)) fun (z : Option ByteArray × List ByteArray) => bif F.putB z.fst z.snd then bif match z.fst with | some val => false | none => true then none else some (Ex.normal, St.mk q_29 ((20000, Blk.mk false 5 1 (F.eUs (F.cat (F.bldS z.fst) z.snd ++ q))) :: q_28)) else none else none else none else none) (q_22 :: q_14 :: (41, q_12) :: (7, (vS q_16)) :: q_9)) (902, Blk.mk false 5 1 (F.eUs q_27))) (q_22 :: q_14 :: (41, q_12) :: (7, (vS z.snd.snd.snd.snd.snd.snd.fst)) :: q_9)) [q_4, (2, Blk.mk true 0 0 [[(vI z.fst), (vI z.snd.fst), (vI z.snd.snd.fst), q_12, (vB z.snd.snd.snd.snd.fst)]])]) (F.tX q_18.snd.fst (List.drop q_20 q_18.fst))) [q_5, (900, Blk.mk false 9 1 [[(vS z.snd.snd.snd.snd.snd.snd.snd.fst)]])]) !ByteArray.toList q_16 == ByteArray.toList z.snd.snd.snd.snd.snd.snd.fst) (unenc encDte [(vI q_15)])) (unenc encDsh [(vS q_16)])) (43, (vI (IntKind.wrap IntKind.i64 ((↑z.snd.snd.snd.snd.snd.fst : Int) + (1 : Int)))))) (unenc encDcm ((vI z.snd.snd.snd.snd.snd.snd.snd.snd.fst) :: q_2))) q_18.snd.snd) (List.length q_18.fst)) q_13.snd.snd.snd.snd) q_13.snd.snd.snd.fst) q_13.snd.snd.fst) q_13.snd.fst) (42, (vI (↑(List.length z.snd.snd.snd.fst) : Int)))) z.snd.snd.snd.snd.snd.snd.snd.snd.snd) (AV.sl (List.map eEnt z.snd.snd.snd.fst)) else none else some (Ex.exit (0 : Nat), St.mk q_9 ((20000, Blk.mk false 5 1 (F.eUs s)) :: q_11))) [q_4, (2, Blk.mk true 0 0 [[(vI t), (vI f), (vI b), AV.sl (List.map eEnt es), (vB en)]])]) [q_5, (900, Blk.mk false 9 1 [[(vS (ByteArray.mk (Array.mk [(35 : UInt8), (71 : UInt8), (65 : UInt8), (80 : UInt8)])))]])]) [(6, AV.fn (49 : FuncId) [.ptr 5 0 0]), (5, .ptr 5 0 0), (2, .ptr 2 0 0)]) [(vS (ByteArray.mk (Array.mk [(35 : UInt8), (68 : UInt8), (65 : UInt8), (84 : UInt8), (69 : UInt8), (32 : UInt8)])))]) [(vS (ByteArray.mk (Array.mk [(35 : UInt8), (84 : UInt8), (73 : UInt8), (77 : UInt8), (69 : UInt8), (32 : UInt8)])))]) [(vS (ByteArray.mk (Array.mk [(35 : UInt8), (75 : UInt8), (69 : UInt8), (89 : UInt8), (32 : UInt8)])))]) (901, Blk.mk true 81 0 [[.ptr 901 0 0, .own 902]])) (5, Blk.mk true 81 0 [[.ptr 5 0 0, .own 20000]])) (Ent.mk (ByteArray.mk (Array.mk [])) (0 : Int) false (0 : Int) (ByteArray.mk (Array.mk [])) false [])) [(vI (1000 : Int)), (vI (3 : Int))]) [.own 900, .ptr 901 0 0]) (ByteArray.mk (Array.mk [(10 : UInt8)])) := (execR_bind _ _ _).symm.trans (by kernel_rfl)

theorem lpTx1_ok (t : Int) (f : Int) (b : Int) (es : List Ent) (en : Bool) (s : ByteArray) (key : ByteArray) (i : Nat) (hp : prlTx1 t f b es en s key i = true) : ∀ ex s', (outTx1 t f b es en s key i).val = some (ex, s') → LoopOK enTx (loopN Tryz.f26 0) (stTx1 t f b es en s key i) ex s' := by
  simp only [prlTx1, Bool.and_eq_true, decide_eq_true_eq] at hp
  obtain ⟨⟨⟨h1, h2⟩, h4⟩, h3⟩ := hp
  have h3 := F.tEB_iff.1 h3
  refine loop_gen (st := fun p : ByteArray × ByteArray × Nat => stTx1 t f b es en p.1 p.2.1 p.2.2) (out := fun p => outTx1 t f b es en p.1 p.2.1 p.2.2) (I := fun p => p.2.2 ≤ es.length ∧ (F.tE p.1 p.2.1 (es.drop p.2.2)).size ≤ 80000000) (n := ([43, 42, 41, 7, 6, 5, 2], [20000, 5, 2])) (e := ([6, 5, 2], [20000, 5, 2])) (r := ([], [])) (fun p => es.length - p.2.2) ?_ (s, key, i) ⟨h2, h3⟩
  clear h2 h3
  rintro ⟨s, key, i⟩ ⟨h2, h3⟩
  simp only at h2 h3
  by_cases hlt : i < es.length
  · have hy : es[i]? = some es[i] := List.getElem?_eq_getElem hlt
    have hmem : es[i] ∈ es := List.getElem_mem hlt
    generalize es[i] = y at hy hmem
    have hdd := drop_y hy
    rw [hdd, F.tE] at h3
    have hw := List.all_eq_true.1 h4 y hmem
    unfold F.entW at hw
    simp only [Bool.and_eq_true, decide_eq_true_eq] at hw
    obtain ⟨⟨⟨m1, m2⟩, m3⟩, m4⟩ := hw
    right
    refine ⟨(F.bE s key y, y.key, i + 1), ?_, rfl, ⟨hlt, h3⟩, by simp only; omega, ?_⟩
    · rw [evTx1L]
      simp only [unIta, unDte, unDcm, unDsh, unPut, unWst, unBst, preIta1, preDte1, preDcm1, preDsh1, prePut1, preWst1, preBst1, unstTx1, unstTx2, unstTx10, unstTx20, prlTx1, prlTx2, outTx1, outTx2, etaEnt, etaLst, etaSnd, etaStrm, etaMas, Option.bind_some, List.length_map, unStrs, unInts, unBools, unEnts, unItms, unTrns, cond_true, cond_false, Bool.and_true, Bool.true_and, unWstU, unBstU, F.bldS_some, F.bldLen_some, cast_lt hlt, decide_eq_true hlt, getD_at hy, unPut1, unPut2, resPut, fpl, List.drop_zero]
      have qB : (⟨⟨[35, 66, 82, 69, 65, 75]⟩⟩ : ByteArray) = F.kBrk := rfl
      have qD : (⟨⟨[35, 68, 65, 84, 69, 32]⟩⟩ : ByteArray) = F.kDatS := rfl
      have qK : (⟨⟨[35, 75, 69, 89, 32]⟩⟩ : ByteArray) = F.kKeyS := rfl
      have qG : (⟨⟨[35, 71, 65, 80]⟩⟩ : ByteArray) = F.kGap := rfl
      have qT : (⟨⟨[35, 84, 73, 77, 69, 32]⟩⟩ : ByteArray) = F.kTimS := rfl
      have qs : (y.key.toList == key.toList) = F.seq y.key key := rfl
      rw [qB, qD, qK, qG, qT, qs]
      clear qB qD qK qG qT qs
      have hE := F.tE_le (es.drop (i + 1)) (F.bE s key y) y.key
      obtain ⟨l1, l2, l3, l4⟩ := F.e_le (F.tX s y.extra) key y.brk y.date y.key y.gap
      have hbE : F.bE s key y = F.bE' (F.tX s y.extra) key y.uri y.milli y.brk y.date y.key y.gap := rfl
      have hX := F.tX_le y.extra s
      have hE : (F.bE s key y).size ≤ 80000000 := by omega
      rw [hbE] at hE ⊢
      clear hbE
      unfold F.bE' at hE ⊢
      generalize F.tX s y.extra = T0 at *
      obtain ⟨X1, hX1⟩ : ∃ X1, F.e1 T0 y.brk = X1 := ⟨_, rfl⟩
      rw [hX1] at l1 l2 l3 l4 hE ⊢
      obtain ⟨X2, hX2⟩ : ∃ X2, F.e2 X1 y.date = X2 := ⟨_, rfl⟩
      rw [hX2] at l2 l3 l4 hE ⊢
      obtain ⟨X3, hX3⟩ : ∃ X3, F.e3 X2 key y.key = X3 := ⟨_, rfl⟩
      rw [hX3] at l3 l4 hE ⊢
      obtain ⟨X4, hX4⟩ : ∃ X4, F.e4 X3 y.gap = X4 := ⟨_, rfl⟩
      rw [hX4] at l4 hE ⊢
      have l5 := F.pl_le X4 [F.kTimS, F.tmS y.milli]
      have l6 := F.pl_le (F.pl X4 [F.kTimS, F.tmS y.milli]) [y.uri]
      rw [decide_eq_true m4, decide_eq_true (Nat.zero_le y.extra.length), decide_eq_true (by omega : T0.size ≤ 80000000), decide_eq_true m1, decide_eq_true m2, decide_eq_true m3]
      cases hb : y.brk
      case true =>
        have e : F.pl T0 [F.kBrk] = X1 := by rw [← hX1, hb]; rfl
        rw [pre_ok T0 [F.kBrk] (Nat.le_of_ble_eq_true rfl) (by rw [e]; omega), e]
        by_cases hd : 0 ≤ y.date
        rotate_left
        · have e : X1 = X2 := by rw [← hX2]; unfold F.e2; rw [decide_eq_false hd]; rfl
          rw [decide_eq_false hd, e]
          cases hk : F.seq y.key key
          · have e : F.pl X2 [F.kKeyS, F.dsh y.key] = X3 := by rw [← hX3]; unfold F.e3; rw [hk]; rfl
            rw [pre_ok X2 [F.kKeyS, F.dsh y.key] (Nat.le_of_ble_eq_true rfl) (by rw [e]; omega), e]
            cases hg : y.gap
            · have e : X3 = X4 := by rw [← hX4, hg]; rfl
              rw [e, pre_ok X4 [F.kTimS, F.tmS y.milli] (Nat.le_of_ble_eq_true rfl) (by omega), pre_ok (F.pl X4 [F.kTimS, F.tmS y.milli]) [y.uri] (Nat.le_of_ble_eq_true rfl) (by omega), next_at hlt (by omega : es.length ≤ 9223372036854775807)]
              first | rfl | (rw [hkk]; rfl)
            · have e : F.pl X3 [F.kGap] = X4 := by rw [← hX4, hg]; rfl
              rw [pre_ok X3 [F.kGap] (Nat.le_of_ble_eq_true rfl) (by rw [e]; omega), e, pre_ok X4 [F.kTimS, F.tmS y.milli] (Nat.le_of_ble_eq_true rfl) (by omega), pre_ok (F.pl X4 [F.kTimS, F.tmS y.milli]) [y.uri] (Nat.le_of_ble_eq_true rfl) (by omega), next_at hlt (by omega : es.length ≤ 9223372036854775807)]
              first | rfl | (rw [hkk]; rfl)
          · have e : X2 = X3 := by rw [← hX3]; unfold F.e3; rw [hk]; rfl
            have hkk : y.key = key := F.seq_iff.1 hk
            rw [e]
            cases hg : y.gap
            · have e : X3 = X4 := by rw [← hX4, hg]; rfl
              rw [e, pre_ok X4 [F.kTimS, F.tmS y.milli] (Nat.le_of_ble_eq_true rfl) (by omega), pre_ok (F.pl X4 [F.kTimS, F.tmS y.milli]) [y.uri] (Nat.le_of_ble_eq_true rfl) (by omega), next_at hlt (by omega : es.length ≤ 9223372036854775807)]
              first | rfl | (rw [hkk]; rfl)
            · have e : F.pl X3 [F.kGap] = X4 := by rw [← hX4, hg]; rfl
              rw [pre_ok X3 [F.kGap] (Nat.le_of_ble_eq_true rfl) (by rw [e]; omega), e, pre_ok X4 [F.kTimS, F.tmS y.milli] (Nat.le_of_ble_eq_true rfl) (by omega), pre_ok (F.pl X4 [F.kTimS, F.tmS y.milli]) [y.uri] (Nat.le_of_ble_eq_true rfl) (by omega), next_at hlt (by omega : es.length ≤ 9223372036854775807)]
              first | rfl | (rw [hkk]; rfl)
        · have e : F.pl X1 [F.kDatS, F.dtS y.date] = X2 := by rw [← hX2]; unfold F.e2; rw [decide_eq_true hd]; rfl
          rw [decide_eq_true hd, pre_ok X1 [F.kDatS, F.dtS y.date] (Nat.le_of_ble_eq_true rfl) (by rw [e]; omega), e]
          cases hk : F.seq y.key key
          · have e : F.pl X2 [F.kKeyS, F.dsh y.key] = X3 := by rw [← hX3]; unfold F.e3; rw [hk]; rfl
            rw [pre_ok X2 [F.kKeyS, F.dsh y.key] (Nat.le_of_ble_eq_true rfl) (by rw [e]; omega), e]
            cases hg : y.gap
            · have e : X3 = X4 := by rw [← hX4, hg]; rfl
              rw [e, pre_ok X4 [F.kTimS, F.tmS y.milli] (Nat.le_of_ble_eq_true rfl) (by omega), pre_ok (F.pl X4 [F.kTimS, F.tmS y.milli]) [y.uri] (Nat.le_of_ble_eq_true rfl) (by omega), next_at hlt (by omega : es.length ≤ 9223372036854775807)]
              first | rfl | (rw [hkk]; rfl)
            · have e : F.pl X3 [F.kGap] = X4 := by rw [← hX4, hg]; rfl
              rw [pre_ok X3 [F.kGap] (Nat.le_of_ble_eq_true rfl) (by rw [e]; omega), e, pre_ok X4 [F.kTimS, F.tmS y.milli] (Nat.le_of_ble_eq_true rfl) (by omega), pre_ok (F.pl X4 [F.kTimS, F.tmS y.milli]) [y.uri] (Nat.le_of_ble_eq_true rfl) (by omega), next_at hlt (by omega : es.length ≤ 9223372036854775807)]
              first | rfl | (rw [hkk]; rfl)
          · have e : X2 = X3 := by rw [← hX3]; unfold F.e3; rw [hk]; rfl
            have hkk : y.key = key := F.seq_iff.1 hk
            rw [e]
            cases hg : y.gap
            · have e : X3 = X4 := by rw [← hX4, hg]; rfl
              rw [e, pre_ok X4 [F.kTimS, F.tmS y.milli] (Nat.le_of_ble_eq_true rfl) (by omega), pre_ok (F.pl X4 [F.kTimS, F.tmS y.milli]) [y.uri] (Nat.le_of_ble_eq_true rfl) (by omega), next_at hlt (by omega : es.length ≤ 9223372036854775807)]
              first | rfl | (rw [hkk]; rfl)
            · have e : F.pl X3 [F.kGap] = X4 := by rw [← hX4, hg]; rfl
              rw [pre_ok X3 [F.kGap] (Nat.le_of_ble_eq_true rfl) (by rw [e]; omega), e, pre_ok X4 [F.kTimS, F.tmS y.milli] (Nat.le_of_ble_eq_true rfl) (by omega), pre_ok (F.pl X4 [F.kTimS, F.tmS y.milli]) [y.uri] (Nat.le_of_ble_eq_true rfl) (by omega), next_at hlt (by omega : es.length ≤ 9223372036854775807)]
              first | rfl | (rw [hkk]; rfl)
      case false =>
        have e : T0 = X1 := by rw [← hX1, hb]; rfl
        rw [e]
        by_cases hd : 0 ≤ y.date
        rotate_left
        · have e : X1 = X2 := by rw [← hX2]; unfold F.e2; rw [decide_eq_false hd]; rfl
          rw [decide_eq_false hd, e]
          cases hk : F.seq y.key key
          · have e : F.pl X2 [F.kKeyS, F.dsh y.key] = X3 := by rw [← hX3]; unfold F.e3; rw [hk]; rfl
            rw [pre_ok X2 [F.kKeyS, F.dsh y.key] (Nat.le_of_ble_eq_true rfl) (by rw [e]; omega), e]
            cases hg : y.gap
            · have e : X3 = X4 := by rw [← hX4, hg]; rfl
              rw [e, pre_ok X4 [F.kTimS, F.tmS y.milli] (Nat.le_of_ble_eq_true rfl) (by omega), pre_ok (F.pl X4 [F.kTimS, F.tmS y.milli]) [y.uri] (Nat.le_of_ble_eq_true rfl) (by omega), next_at hlt (by omega : es.length ≤ 9223372036854775807)]
              first | rfl | (rw [hkk]; rfl)
            · have e : F.pl X3 [F.kGap] = X4 := by rw [← hX4, hg]; rfl
              rw [pre_ok X3 [F.kGap] (Nat.le_of_ble_eq_true rfl) (by rw [e]; omega), e, pre_ok X4 [F.kTimS, F.tmS y.milli] (Nat.le_of_ble_eq_true rfl) (by omega), pre_ok (F.pl X4 [F.kTimS, F.tmS y.milli]) [y.uri] (Nat.le_of_ble_eq_true rfl) (by omega), next_at hlt (by omega : es.length ≤ 9223372036854775807)]
              first | rfl | (rw [hkk]; rfl)
          · have e : X2 = X3 := by rw [← hX3]; unfold F.e3; rw [hk]; rfl
            have hkk : y.key = key := F.seq_iff.1 hk
            rw [e]
            cases hg : y.gap
            · have e : X3 = X4 := by rw [← hX4, hg]; rfl
              rw [e, pre_ok X4 [F.kTimS, F.tmS y.milli] (Nat.le_of_ble_eq_true rfl) (by omega), pre_ok (F.pl X4 [F.kTimS, F.tmS y.milli]) [y.uri] (Nat.le_of_ble_eq_true rfl) (by omega), next_at hlt (by omega : es.length ≤ 9223372036854775807)]
              first | rfl | (rw [hkk]; rfl)
            · have e : F.pl X3 [F.kGap] = X4 := by rw [← hX4, hg]; rfl
              rw [pre_ok X3 [F.kGap] (Nat.le_of_ble_eq_true rfl) (by rw [e]; omega), e, pre_ok X4 [F.kTimS, F.tmS y.milli] (Nat.le_of_ble_eq_true rfl) (by omega), pre_ok (F.pl X4 [F.kTimS, F.tmS y.milli]) [y.uri] (Nat.le_of_ble_eq_true rfl) (by omega), next_at hlt (by omega : es.length ≤ 9223372036854775807)]
              first | rfl | (rw [hkk]; rfl)
        · have e : F.pl X1 [F.kDatS, F.dtS y.date] = X2 := by rw [← hX2]; unfold F.e2; rw [decide_eq_true hd]; rfl
          rw [decide_eq_true hd, pre_ok X1 [F.kDatS, F.dtS y.date] (Nat.le_of_ble_eq_true rfl) (by rw [e]; omega), e]
          cases hk : F.seq y.key key
          · have e : F.pl X2 [F.kKeyS, F.dsh y.key] = X3 := by rw [← hX3]; unfold F.e3; rw [hk]; rfl
            rw [pre_ok X2 [F.kKeyS, F.dsh y.key] (Nat.le_of_ble_eq_true rfl) (by rw [e]; omega), e]
            cases hg : y.gap
            · have e : X3 = X4 := by rw [← hX4, hg]; rfl
              rw [e, pre_ok X4 [F.kTimS, F.tmS y.milli] (Nat.le_of_ble_eq_true rfl) (by omega), pre_ok (F.pl X4 [F.kTimS, F.tmS y.milli]) [y.uri] (Nat.le_of_ble_eq_true rfl) (by omega), next_at hlt (by omega : es.length ≤ 9223372036854775807)]
              first | rfl | (rw [hkk]; rfl)
            · have e : F.pl X3 [F.kGap] = X4 := by rw [← hX4, hg]; rfl
              rw [pre_ok X3 [F.kGap] (Nat.le_of_ble_eq_true rfl) (by rw [e]; omega), e, pre_ok X4 [F.kTimS, F.tmS y.milli] (Nat.le_of_ble_eq_true rfl) (by omega), pre_ok (F.pl X4 [F.kTimS, F.tmS y.milli]) [y.uri] (Nat.le_of_ble_eq_true rfl) (by omega), next_at hlt (by omega : es.length ≤ 9223372036854775807)]
              first | rfl | (rw [hkk]; rfl)
          · have e : X2 = X3 := by rw [← hX3]; unfold F.e3; rw [hk]; rfl
            have hkk : y.key = key := F.seq_iff.1 hk
            rw [e]
            cases hg : y.gap
            · have e : X3 = X4 := by rw [← hX4, hg]; rfl
              rw [e, pre_ok X4 [F.kTimS, F.tmS y.milli] (Nat.le_of_ble_eq_true rfl) (by omega), pre_ok (F.pl X4 [F.kTimS, F.tmS y.milli]) [y.uri] (Nat.le_of_ble_eq_true rfl) (by omega), next_at hlt (by omega : es.length ≤ 9223372036854775807)]
              first | rfl | (rw [hkk]; rfl)
            · have e : F.pl X3 [F.kGap] = X4 := by rw [← hX4, hg]; rfl
              rw [pre_ok X3 [F.kGap] (Nat.le_of_ble_eq_true rfl) (by rw [e]; omega), e, pre_ok X4 [F.kTimS, F.tmS y.milli] (Nat.le_of_ble_eq_true rfl) (by omega), pre_ok (F.pl X4 [F.kTimS, F.tmS y.milli]) [y.uri] (Nat.le_of_ble_eq_true rfl) (by omega), next_at hlt (by omega : es.length ≤ 9223372036854775807)]
              first | rfl | (rw [hkk]; rfl)
    · simp only [outTx1, hdd, F.tE]
  · have : i = es.length := by omega
    subst this
    left
    refine ⟨(.exit 0, ⟨[(6, .fn 49 [.ptr 5 0 0]), (5, .ptr 5 0 0), (2, .ptr 2 0 0)], [(20000, ⟨false, 5, 1, F.eUs s⟩), (5, ⟨true, 81, 0, [[.ptr 5 0 0, .own 20000]]⟩), (2, ⟨true, 0, 0, [[vI t, vI f, vI b, .sl (es.map eEnt), vB en]]⟩)]⟩), ?_, ?_, by simp, rfl⟩
    · rw [evTx1L]
      simp
    · simp only [outTx1, List.drop_length, F.tE]
      rfl

end M
end Go.Proofs.YtajmdlpanlbnjaaGreatDoor

namespace Go.Proofs.YtajmdlpanlbnjaaGreatDoor
open Go Go.RowKit
set_option linter.unusedVariables false
set_option linter.unusedSimpArgs false
set_option maxHeartbeats 1000000

def F.xTg : ByteArray := ⟨⟨[35, 84, 65, 82, 71, 69, 84, 32]⟩⟩

def F.xFi : ByteArray := ⟨⟨[35, 70, 73, 82, 83, 84, 32]⟩⟩

def F.xBr : ByteArray := ⟨⟨[35, 66, 82, 69, 65, 75, 83, 32]⟩⟩

def F.h0 : ByteArray := F.kLst ++ ⟨⟨[10]⟩⟩

def F.hd3 (l : Lst) : ByteArray := F.pl (F.pl (F.pl F.h0 [F.xTg, F.itoa l.target]) [F.xFi, F.itoa l.first]) [F.xBr, F.itoa l.breaks]

def F.ltE (l : Lst) (x : ByteArray) : ByteArray := F.tE (F.hd3 l ++ x) ⟨⟨[]⟩⟩ l.entries

def F.ltB (l : Lst) (x : ByteArray) : ByteArray := bif l.ended then F.pl (F.ltE l x) [F.kEnd] else F.ltE l x

structure F.ESz (e : Ent) : Prop where
  uri : e.uri.size ≤ 200
  key : e.key.size ≤ 40
  num : e.extra.length ≤ 20
  ext : ∀ x ∈ e.extra, x.size ≤ 300

theorem F.esz_of {e : Ent} {t : Int} (h : F.entryFault e t = 0) : F.ESz e := by
  have hk0 := (F.eok_of h).key
  unfold F.entryFault at h
  split at h
  · rename_i hu; exact absurd h hu
  rename_i hu
  split at h
  · omega
  split at h
  · omega
  split at h
  · omega
  split at h
  · omega
  split at h
  · omega
  rename_i hx
  have hu : F.uriFault e.uri = 0 := by simpa using hu
  unfold F.uriFault at hu
  split at hu
  · omega
  rename_i hq
  unfold F.out at hq
  simp only [Bool.or_eq_true, decide_eq_true_eq, not_or] at hq
  refine ⟨by omega, ?_, by omega, fun x hxm => ?_⟩
  · rcases hk0 with h1 | h1
    · rw [h1]; decide
    · unfold F.isName at h1
      simp only [Bool.and_eq_true, decide_eq_true_eq] at h1
      exact h1.1.1.2
  · have := F.ffI_all h x hxm
    unfold F.extraFault at this
    split at this
    · omega
    · split at this
      · omega
      · omega

theorem F.entW_of {e : Ent} (h1 : F.EOk e) (h2 : F.ESz e) : F.entW e = true := by
  have a := h1.mil1
  have b := h1.mil2
  have c := h1.dat2
  have d := h2.num
  unfold F.entW
  rw [decide_eq_true (by omega), decide_eq_true (by omega), decide_eq_true c, decide_eq_true (by omega)]
  rfl

theorem F.pl_1 (s x : ByteArray) : (F.pl s [x]).size = s.size + x.size + 1 := by
  unfold F.pl
  simp only [F.cat, ByteArray.size_append]
  rfl

theorem F.pl_2 (s x y : ByteArray) : (F.pl s [x, y]).size = s.size + x.size + y.size + 1 := by
  unfold F.pl
  simp only [F.cat, ByteArray.size_append]
  rfl

theorem F.tX_sz : ∀ (l : List ByteArray) (s : ByteArray), (∀ x ∈ l, x.size ≤ 300) → (F.tX s l).size ≤ s.size + 301 * l.length
  | [], s, _ => by rw [F.tX]; exact Nat.le_add_right _ _
  | x :: l, s, h => by
    have h1 := F.tX_sz l (F.pl s [x]) (fun y hy => h y (List.mem_cons_of_mem _ hy))
    have h2 := h x (List.mem_cons_self ..)
    rw [F.pl_1] at h1
    rw [F.tX, List.length_cons]
    omega

theorem F.bE_sz {s key : ByteArray} {e : Ent} (h1 : F.EOk e) (h2 : F.ESz e) : (F.bE s key e).size ≤ s.size + 10000 := by
  have hx := F.tX_sz e.extra s h2.ext
  have hn := h2.num
  have hu := h2.uri
  have hk := h2.key
  obtain ⟨m, hm⟩ := Int.eq_ofNat_of_zero_le (show 0 ≤ e.milli by have := h1.mil1; omega)
  have hm2 := h1.mil2
  have ht : (F.tmS e.milli).size ≤ 25 := by
    have e1 : F.tmS e.milli = F.itoa ((m / 1000 : Nat) : Int) ++ F.dot ++ F.pad ((m % 1000 : Nat) : Int) 3 := by rw [hm]; rfl
    have t1 := F.itoa_size (n := ((m / 1000 : Nat) : Int)) (by omega) (by omega)
    have t2 := F.pad_size' (m % 1000) (by omega)
    have t3 : F.dot.size = 1 := rfl
    rw [e1, ByteArray.size_append, ByteArray.size_append]
    omega
  have hd : 0 ≤ e.date → (F.dtS e.date).size = 24 := fun hd => by
    obtain ⟨k, hk⟩ := Int.eq_ofNat_of_zero_le hd
    have hd2 := h1.dat2
    have := (F.dtS_ok (n := k) (by omega)).1
    rw [← hk] at this
    unfold F.dtOk at this
    rw [Bool.and_eq_true, Bool.and_eq_true, decide_eq_true_eq] at this
    exact this.1.1
  have hs : (F.dsh e.key).size ≤ 40 := by
    unfold F.dsh
    cases F.seq e.key ⟨⟨[]⟩⟩
    · exact hk
    · show F.dash.size ≤ 40
      decide
  have z1 : F.kBrk.size = 6 := rfl
  have z2 : F.kDatS.size = 6 := rfl
  have z3 : F.kKeyS.size = 5 := rfl
  have z4 : F.kGap.size = 4 := rfl
  have z5 : F.kTimS.size = 6 := rfl
  have a1 : ∀ T : ByteArray, (F.e1 T e.brk).size ≤ T.size + 7 := fun T => by
    unfold F.e1
    cases e.brk
    · rw [cond_false]; omega
    · rw [cond_true, F.pl_1]; omega
  have a2 : ∀ T : ByteArray, (F.e2 T e.date).size ≤ T.size + 31 := fun T => by
    unfold F.e2
    by_cases h : 0 ≤ e.date
    · rw [decide_eq_true h, cond_true, F.pl_2, hd h]; omega
    · rw [decide_eq_false h, cond_false]; omega
  have a3 : ∀ T : ByteArray, (F.e3 T key e.key).size ≤ T.size + 46 := fun T => by
    unfold F.e3
    cases F.seq e.key key
    · rw [cond_false, F.pl_2]; omega
    · rw [cond_true]; omega
  have a4 : ∀ T : ByteArray, (F.e4 T e.gap).size ≤ T.size + 5 := fun T => by
    unfold F.e4
    cases e.gap
    · rw [cond_false]; omega
    · rw [cond_true, F.pl_1]; omega
  unfold F.bE F.bE'
  rw [F.pl_1, F.pl_2]
  have b1 := a1 (F.tX s e.extra)
  have b2 := a2 (F.e1 (F.tX s e.extra) e.brk)
  have b3 := a3 (F.e2 (F.e1 (F.tX s e.extra) e.brk) e.date)
  have b4 := a4 (F.e3 (F.e2 (F.e1 (F.tX s e.extra) e.brk) e.date) key e.key)
  omega

theorem F.tE_sz : ∀ (l : List Ent) (s key : ByteArray), (∀ e ∈ l, F.EOk e ∧ F.ESz e) → (F.tE s key l).size ≤ s.size + 10000 * l.length
  | [], s, key, _ => by rw [F.tE]; exact Nat.le_add_right _ _
  | e :: l, s, key, h => by
    obtain ⟨e1, e2⟩ := h e (List.mem_cons_self ..)
    have h1 := F.tE_sz l (F.bE s key e) e.key (fun y hy => h y (List.mem_cons_of_mem _ hy))
    have h2 := F.bE_sz (s := s) (key := key) e1 e2
    rw [F.tE, List.length_cons]
    omega

theorem F.check_sz {l : Lst} (h : F.check l = 0) : l.entries.length ≤ 1000 ∧ ∀ e ∈ l.entries, F.EOk e ∧ F.ESz e := by
  unfold F.check at h
  split at h
  · omega
  split at h
  · omega
  exact ⟨by omega, fun e he => ⟨F.eok_of (F.ffI_all h e he), F.esz_of (F.ffI_all h e he)⟩⟩

theorem F.hd3_sz {l : Lst} (h : F.check l = 0) : (F.hd3 l).size ≤ 200 ∧ 6 ≤ (F.hd3 l).size := by
  obtain ⟨c1, c2, c3, c4, c5, c6, c7⟩ := F.checkW_ok h
  have t1 := F.itoa_size (n := l.target) (by omega) (by omega)
  have t2 := F.itoa_size (n := l.first) (by omega) (by omega)
  have t3 := F.itoa_size (n := l.breaks) (by omega) (by omega)
  have z0 : F.h0.size = 6 := by unfold F.h0; rw [ByteArray.size_append]; rfl
  have z1 : F.xTg.size = 8 := rfl
  have z2 : F.xFi.size = 7 := rfl
  have z3 : F.xBr.size = 8 := rfl
  unfold F.hd3
  rw [F.pl_2, F.pl_2, F.pl_2]
  omega

def F.txt (l : Lst) : ByteArray × Int :=
  bif F.check l != 0 then (⟨⟨[]⟩⟩, F.check l) else bif decide (500000 < (F.ltB l ⟨⟨[]⟩⟩).size) then (⟨⟨[]⟩⟩, 2) else (F.ltB l ⟨⟨[]⟩⟩, 0)

namespace M

theorem evLtx (l : Lst) (x : ByteArray) : (runF enTx false Tryz.f26 [.agg (eLst l), vS x]).val =
  (fun (q : ByteArray) => (fun (q_1 : List AV) => (fun (q_2 : Nat × Blk) => (fun (q_3 : List (Nat × Blk)) => Option.bind (unenc encPut (q_1, [(901, Blk.mk true 81 0 [[AV.v (Value.pointer none), AV.v (Value.slice none (0 : Nat) (0 : Nat))]]), (900, Blk.mk false 9 1 [[(vS (ByteArray.mk (Array.mk [(35 : UInt8), (76 : UInt8), (73 : UInt8), (83 : UInt8), (84 : UInt8)])))]])])) fun (z : Option ByteArray × List ByteArray) => bif F.putB z.fst z.snd then bif match z.fst with | some val => false | none => true then Option.bind (unenc encIta [(vI l.target)]) fun (z_1 : Int) => bif decide ((-9223372036854775808 : Int) ≤ z_1) && decide (z_1 ≤ (9223372036854775807 : Int)) then Option.bind (unenc encPut (q_1, [(902, Blk.mk false 5 1 (F.eUs ((match z.snd, ByteArray.mk (Array.mk []) with | [], fallback => fallback | a :: tail, x => a) ++ q))), q_2, (900, Blk.mk false 9 1 [[(vS (ByteArray.mk (Array.mk [(35 : UInt8), (84 : UInt8), (65 : UInt8), (82 : UInt8), (71 : UInt8), (69 : UInt8), (84 : UInt8), (32 : UInt8)])))], [(vS (F.itoa z_1))]])])) fun (z : Option ByteArray × List ByteArray) => bif F.putB z.fst z.snd then bif match z.fst with | some val => false | none => true then none else Option.bind (unenc encIta [(vI l.first)]) fun (z_2 : Int) => bif decide ((-9223372036854775808 : Int) ≤ z_2) && decide (z_2 ≤ (9223372036854775807 : Int)) then Option.bind (unenc encPut (q_1, [(902, Blk.mk false 5 1 (F.eUs (F.cat (F.bldS z.fst) z.snd ++ q))), q_2, (900, Blk.mk false 9 1 [[(vS (ByteArray.mk (Array.mk [(35 : UInt8), (70 : UInt8), (73 : UInt8), (82 : UInt8), (83 : UInt8), (84 : UInt8), (32 : UInt8)])))], [(vS (F.itoa z_2))]])])) fun (z : Option ByteArray × List ByteArray) => bif F.putB z.fst z.snd then bif match z.fst with | some val => false | none => true then none else Option.bind (unenc encIta [(vI l.breaks)]) fun (z_3 : Int) => bif decide ((-9223372036854775808 : Int) ≤ z_3) && decide (z_3 ≤ (9223372036854775807 : Int)) then Option.bind (unenc encPut (q_1, [(902, Blk.mk false 5 1 (F.eUs (F.cat (F.bldS z.fst) z.snd ++ q))), q_2, (900, Blk.mk false 9 1 [[(vS (ByteArray.mk (Array.mk [(35 : UInt8), (66 : UInt8), (82 : UInt8), (69 : UInt8), (65 : UInt8), (75 : UInt8), (83 : UInt8), (32 : UInt8)])))], [(vS (F.itoa z_3))]])])) fun (z : Option ByteArray × List ByteArray) => bif F.putB z.fst z.snd then bif match z.fst with | some val => false | none => true then none else Option.bind (unenc encWst ([.ptr 900 0 0, (vS x)], (901, Blk.mk false 5 1 (F.eUs (F.cat (F.bldS z.fst) z.snd ++ q))) :: q_3)) fun (z : Option ByteArray × ByteArray) => bif F.wstB z.fst z.snd then bif match z.fst with | some val => false | none => true then none else Option.bind (unenc stTx11 (St.mk [(43, (vI (0 : Int))), (42, (vI (↑(List.length (List.map eEnt l.entries)) : Int))), (41, AV.sl (List.map eEnt l.entries)), (7, (vS (ByteArray.mk (Array.mk [])))), (6, AV.fn (49 : Nat) [.ptr 5 0 0]), (5, .ptr 5 0 0), (2, .ptr 2 0 0)] [(20000, Blk.mk false 5 1 (F.eUs (F.bldS z.fst ++ z.snd))), (5, Blk.mk true 81 0 [[.ptr 5 0 0, .own 20000]]), (2, Blk.mk true 0 0 [[(vI l.target), (vI l.first), (vI l.breaks), AV.sl (List.map eEnt l.entries), (vB l.ended)]])])) fun (z : Int × Int × Int × List Ent × Bool × ByteArray × ByteArray × Nat) => (fun (q_4 : Nat) => (fun (q_5 : Nat) => (fun (q_6 : Blk) => bif decide (q_4 ≤ (1000 : Nat)) && decide (q_5 ≤ q_4) && List.all z.snd.snd.snd.fst F.entW && F.tEB z.snd.snd.snd.snd.snd.fst z.snd.snd.snd.snd.snd.snd.fst (List.drop q_5 z.snd.snd.snd.fst) && true then bif z.snd.snd.snd.snd.fst then Option.bind (unenc encPut (q_1, [(902, q_6), q_2, (900, Blk.mk false 9 1 [[(vS (ByteArray.mk (Array.mk [(35 : UInt8), (69 : UInt8), (78 : UInt8), (68 : UInt8)])))]])])) fun (z : Option ByteArray × List ByteArray) => bif F.putB z.fst z.snd then bif match z.fst with | some val => false | none => true then none else Option.bind (unenc encBst ([.ptr 900 0 0], (901, Blk.mk false 5 1 (F.eUs (F.cat (F.bldS z.fst) z.snd ++ q))) :: q_3)) fun (z : Option ByteArray) => bif F.bstB z then bif match z with | some val => false | none => true then none else some ((vS (F.bldS z)), []) else none else none else Option.bind (unenc encBst ([.ptr 900 0 0], (901, q_6) :: q_3)) fun (z : Option ByteArray) => bif F.bstB z then bif match z with | some val => false | none => true then none else some ((vS (F.bldS z)), []) else none else none) (Blk.mk false 5 1 (F.eUs (F.tE z.snd.snd.snd.snd.snd.fst z.snd.snd.snd.snd.snd.snd.fst (List.drop q_5 z.snd.snd.snd.fst))))) z.snd.snd.snd.snd.snd.snd.snd) (List.length z.snd.snd.snd.fst) else none else none else none else none else none else none else none else none else none) [(900, Blk.mk true 81 0 [[.ptr 900 0 0, .own 901]])]) (901, Blk.mk true 81 0 [[.ptr 901 0 0, .own 902]])) [.own 900, .ptr 901 0 0]) (ByteArray.mk (Array.mk [(10 : UInt8)])) := (runFR_val).symm.trans (by kernel_rfl)

def encLtx1 (l : Lst) (x : ByteArray) : List AV := [.agg (eLst l), vS x]

def encLtx (a : Lst × ByteArray) : List AV := encLtx1 a.1 a.2

theorem encLtx_inj (a a' : Lst × ByteArray) (h : encLtx a = encLtx a') : a = a' := by
  simp only [encLtx, encLtx1] at h
  try simp [eUs_inj, strs_inj, ints_inj, ents_inj, eEnt_iff, eLst_iff, eSnds_inj, eStrms_inj] at h
  grind

theorem unLtx (l : Lst) (x : ByteArray) : unenc encLtx ([AV.agg [(vI l.target), (vI l.first), (vI l.breaks), AV.sl (List.map eEnt l.entries), (vB l.ended)], (vS x)]) = some (l, x) := unenc_of encLtx_inj (l, x) rfl

theorem unLtxw (l_target : Int) (l_first : Int) (l_breaks : Int) (l_entries : List Ent) (l_ended : Bool) (x : ByteArray) : unenc encLtx ([AV.agg [(vI l_target), (vI l_first), (vI l_breaks), AV.sl (List.map eEnt l_entries), (vB l_ended)], (vS x)]) = some ((Lst.mk l_target l_first l_breaks l_entries l_ended), x) := unenc_of encLtx_inj ((Lst.mk l_target l_first l_breaks l_entries l_ended), x) rfl

def resLtx1 (l : Lst) (x : ByteArray) : AV × Heap := (vS (F.ltB l x), [])

def preLtx1 (l : Lst) (x : ByteArray) : Bool := decide (F.check l = 0) && decide (x.size ≤ 100)

noncomputable def oLtx : Orc := orc 26 true encLtx (fun a => preLtx1 a.1 a.2) fun a => resLtx1 a.1 a.2

theorem okLtx : OrcOK Tryz.prog noG oLtx := by
  refine mk_ok Tryz.f26 (keep := false) (by kernel_rfl) (by kernel_rfl) enTx_ok mixed (two_loops (x0 := loopN Tryz.f26 0) (x1 := loopN Tryz.f26 1) (by kernel_rfl) (lpo_ok ?_) (lpo_ok ?_)) (by first | exact fun _ _ => ⟨rfl, rfl⟩ | (intro h; cases h)) ?_
  · rintro ⟨t, f, b, es, en, s, key, i⟩ hp
    exact lpTx1_ok t f b es en s key i hp
  · rintro ⟨t, f, b, es, en, i, key, u, m, br, d, ky, g, x, s, j⟩ hp
    exact lpTx2_ok t f b es en i key u m br d ky g x s j hp
  rintro ⟨l, x⟩ hpre hok
  show (runF enTx false _ (encLtx1 _ _)).val = some (resLtx1 _ _)
  unfold encLtx1 resLtx1
  rw [evLtx]
  simp only [preLtx1, Bool.and_eq_true, decide_eq_true_eq] at hpre
  obtain ⟨hc, hx⟩ := hpre
  obtain ⟨c1, c2, c3, c4, c5, c6, c7⟩ := F.checkW_ok hc
  obtain ⟨s1, s2⟩ := F.check_sz hc
  obtain ⟨s3, s4⟩ := F.hd3_sz hc
  have qL : (⟨⟨[35, 76, 73, 83, 84]⟩⟩ : ByteArray) = F.kLst := rfl
  have q1 : (⟨⟨[35, 84, 65, 82, 71, 69, 84, 32]⟩⟩ : ByteArray) = F.xTg := rfl
  have q2 : (⟨⟨[35, 70, 73, 82, 83, 84, 32]⟩⟩ : ByteArray) = F.xFi := rfl
  have q3 : (⟨⟨[35, 66, 82, 69, 65, 75, 83, 32]⟩⟩ : ByteArray) = F.xBr := rfl
  have qE : (⟨⟨[35, 69, 78, 68]⟩⟩ : ByteArray) = F.kEnd := rfl
  simp only [unIta, unWst, unBst, preIta1, unstTx1, unstTx10, prlTx1, outTx1, etaEnt, etaLst, Option.bind_some, List.length_map, cond_true, cond_false, Bool.and_true, Bool.true_and, unWstU, unBstU, F.bldS_some, F.bldLen_some, unPut0, unPut1, unPut2, resPut, fpl, resWst, qL, q1, q2, q3, qE, List.drop_zero]
  have k0 : F.putB none [F.kLst] = true := rfl
  have f0 : F.kLst ++ (⟨⟨[10]⟩⟩ : ByteArray) = F.h0 := rfl
  have f3 : F.pl (F.pl (F.pl F.h0 [F.xTg, F.itoa l.target]) [F.xFi, F.itoa l.first]) [F.xBr, F.itoa l.breaks] = F.hd3 l := rfl
  have p1 := F.pl_le (F.pl F.h0 [F.xTg, F.itoa l.target]) [F.xFi, F.itoa l.first]
  have p2 := F.pl_le (F.pl (F.pl F.h0 [F.xTg, F.itoa l.target]) [F.xFi, F.itoa l.first]) [F.xBr, F.itoa l.breaks]
  rw [f3] at p2
  have hz : (F.hd3 l ++ x).size = (F.hd3 l).size + x.size := ByteArray.size_append
  have hT := F.tE_sz l.entries (F.hd3 l ++ x) ⟨⟨[]⟩⟩ s2
  have hL := F.tE_le l.entries (F.hd3 l ++ x) ⟨⟨[]⟩⟩
  have hw : l.entries.all F.entW = true := List.all_eq_true.2 fun e he => F.entW_of (s2 e he).1 (s2 e he).2
  have fE : F.tE (F.hd3 l ++ x) ⟨⟨[]⟩⟩ l.entries = F.ltE l x := rfl
  rw [fE] at hT hL
  have he1 := F.pl_1 (F.ltE l x) F.kEnd
  have he2 : F.kEnd.size = 4 := rfl
  have P : F.tEB (F.hd3 l ++ x) ⟨⟨[]⟩⟩ l.entries = true := F.tEB_iff.2 (by rw [fE]; omega)
  rw [k0, f0, pre_ok F.h0 [F.xTg, F.itoa l.target] (Nat.le_of_ble_eq_true rfl) (by omega), pre_ok (F.pl F.h0 [F.xTg, F.itoa l.target]) [F.xFi, F.itoa l.first] (Nat.le_of_ble_eq_true rfl) (by omega), pre_ok (F.pl (F.pl F.h0 [F.xTg, F.itoa l.target]) [F.xFi, F.itoa l.first]) [F.xBr, F.itoa l.breaks] (Nat.le_of_ble_eq_true rfl) (by rw [f3]; omega)]
  rw [f3, P, hw, decide_eq_true s1, decide_eq_true (Nat.zero_le l.entries.length), F.wstB_some (by omega : (F.hd3 l).size + x.size ≤ 140737488355328), fE, pre_ok (F.ltE l x) [F.kEnd] (Nat.le_of_ble_eq_true rfl) (by omega)]
  rw [decide_eq_true (by omega : -9223372036854775808 ≤ l.target), decide_eq_true (by omega : l.target ≤ 9223372036854775807), decide_eq_true (by omega : -9223372036854775808 ≤ l.first), decide_eq_true (by omega : l.first ≤ 9223372036854775807), decide_eq_true (by omega : -9223372036854775808 ≤ l.breaks), decide_eq_true (by omega : l.breaks ≤ 9223372036854775807)]
  rw [F.bstB_some (by omega : 0 < (F.pl (F.ltE l x) [F.kEnd]).size), F.bstB_some (by omega : 0 < (F.ltE l x).size)]
  unfold F.ltB
  cases l.ended <;> rfl

theorem evBnd (s : ByteArray) : (runF en0 false Tryz.f25 [vS s]).val =
  bif decide ((500000 : Int) < (↑(ByteArray.size s) : Int)) then some (AV.tup [(vS (ByteArray.mk (Array.mk []))), (vI (2 : Int))], []) else some (AV.tup [(vS s), (vI (0 :
  Int))], []) := (runFR_val).symm.trans (by kernel_rfl)

def encBnd1 (s : ByteArray) : List AV := [vS s]

def encBnd (a : ByteArray) : List AV := encBnd1 a

theorem encBnd_inj (a a' : ByteArray) (h : encBnd a = encBnd a') : a = a' := by
  simp only [encBnd, encBnd1] at h
  try simp [eUs_inj, strs_inj, ints_inj, ents_inj, eEnt_iff, eLst_iff, eSnds_inj, eStrms_inj] at h
  grind

theorem unBnd (s : ByteArray) : unenc encBnd ([(vS s)]) = some (s) := unenc_of encBnd_inj (s) rfl

def resBnd1 (s : ByteArray) : AV × Heap := (.tup [vS (bif decide (500000 < s.size) then ⟨⟨[]⟩⟩ else s), vI (bif decide (500000 < s.size) then 2 else 0)], [])

def preBnd1 (s : ByteArray) : Bool := true

noncomputable def oBnd : Orc := orc 25 true encBnd (fun a => preBnd1 a) fun a => resBnd1 a

theorem okBnd : OrcOK Tryz.prog noG oBnd := by
  refine mk_ok Tryz.f25 (keep := false) (by kernel_rfl) (by kernel_rfl) en0_ok mixed (no_loops (by kernel_rfl)) (by first | exact fun _ _ => ⟨rfl, rfl⟩ | (intro h; cases h)) ?_
  rintro s hpre hok
  show (runF en0 false _ (encBnd1 _)).val = some (resBnd1 _)
  unfold encBnd1 resBnd1
  rw [evBnd]
  have e1 : decide ((500000 : Int) < (s.size : Int)) = decide (500000 < s.size) := decide_eq_decide.2 (by omega)
  simp only [etaEnt, etaLst, etaSnd, etaStrm, etaMas, Option.bind_some, List.length_map, unStrs, unInts, unBools, unEnts, unItms, unTrns, cond_true, cond_false, Bool.and_true, Bool.true_and, unWstU, unBstU, F.bldS_some, F.bldLen_some, e1]
  cases decide (500000 < s.size) <;> rfl

noncomputable def enTxt : Env := envH ty noG lks [oChk, oLtx, oBnd] [] [] []

theorem enTxt_ok : EnvOK Tryz.prog enTxt := by
  refine envH_ok lks_ok ty_ok ?_ ?_
  · simp only [List.forall_mem_cons]
    exact ⟨okChk, okLtx, okBnd, by simp⟩
  · simp

theorem evTxt (l : Lst) : (runF enTxt false Tryz.f6 [.agg (eLst l)]).val =
  Option.bind (unenc encChk [AV.agg [(vI l.target), (vI l.first), (vI l.breaks), AV.sl (List.map eEnt l.entries), (vB l.ended)]]) fun (z : Lst) => bif F.check z != (0 : Int)
  then some (AV.tup [(vS (ByteArray.mk (Array.mk []))), (vI (F.check z))], []) else Option.bind (unenc encLtx [AV.agg [(vI l.target), (vI l.first), (vI l.breaks), AV.sl
  (List.map eEnt l.entries), (vB l.ended)], (vS (ByteArray.mk (Array.mk [])))]) fun (z : Lst × ByteArray) => bif decide (F.check z.fst = (0 : Int)) && decide (ByteArray.size
  z.snd ≤ (100 : Nat)) then Option.bind (unenc encBnd [(vS (F.ltB z.fst z.snd))]) fun (z : ByteArray) => some (AV.tup [(vS (bif decide ((500000 : Nat) < ByteArray.size z)
  then ByteArray.mk (Array.mk []) else z)), (vI (bif decide ((500000 : Nat) < ByteArray.size z) then (2 : Int) else (0 : Int)))], []) else none := (runFR_val).symm.trans (by kernel_rfl)

def encTxt1 (l : Lst) : List AV := [.agg (eLst l)]

def encTxt (a : Lst) : List AV := encTxt1 a

theorem encTxt_inj (a a' : Lst) (h : encTxt a = encTxt a') : a = a' := by
  simp only [encTxt, encTxt1] at h
  try simp [eUs_inj, strs_inj, ints_inj, ents_inj, eEnt_iff, eLst_iff, eSnds_inj, eStrms_inj] at h
  grind

theorem unTxt (l : Lst) : unenc encTxt ([AV.agg [(vI l.target), (vI l.first), (vI l.breaks), AV.sl (List.map eEnt l.entries), (vB l.ended)]]) = some (l) := unenc_of encTxt_inj (l) rfl

theorem unTxtw (l_target : Int) (l_first : Int) (l_breaks : Int) (l_entries : List Ent) (l_ended : Bool) : unenc encTxt ([AV.agg [(vI l_target), (vI l_first), (vI l_breaks), AV.sl (List.map eEnt l_entries), (vB l_ended)]]) = some ((Lst.mk l_target l_first l_breaks l_entries l_ended)) := unenc_of encTxt_inj ((Lst.mk l_target l_first l_breaks l_entries l_ended)) rfl

def resTxt1 (l : Lst) : AV × Heap := (.tup [vS (F.txt l).1, vI (F.txt l).2], [])

def preTxt1 (l : Lst) : Bool := true

noncomputable def oTxt : Orc := orc 6 true encTxt (fun a => preTxt1 a) fun a => resTxt1 a

theorem okTxt : OrcOK Tryz.prog noG oTxt := by
  refine mk_ok Tryz.f6 (keep := false) (by kernel_rfl) (by kernel_rfl) enTxt_ok mixed (no_loops (by kernel_rfl)) (by first | exact fun _ _ => ⟨rfl, rfl⟩ | (intro h; cases h)) ?_
  rintro l hpre hok
  show (runF enTxt false _ (encTxt1 _)).val = some (resTxt1 _)
  unfold encTxt1 resTxt1
  rw [evTxt]
  have z0 : decide ((⟨⟨[]⟩⟩ : ByteArray).size ≤ 100) = true := rfl
  simp only [unChk, unLtx, unBnd, unChkw, unLtxw, preChk1, preLtx1, preBnd1, etaEnt, etaLst, etaSnd, etaStrm, etaMas, Option.bind_some, List.length_map, unStrs, unInts, unBools, unEnts, unItms, unTrns, cond_true, cond_false, Bool.and_true, Bool.true_and, unWstU, unBstU, F.bldS_some, F.bldLen_some, z0]
  unfold F.txt
  by_cases hc : F.check l = 0
  · rw [show (F.check l != 0) = false by simp [hc], decide_eq_true hc]
    cases decide (500000 < (F.ltB l ⟨⟨[]⟩⟩).size) <;> rfl
  · rw [show (F.check l != 0) = true by simp [hc]]
    rfl

end M
end Go.Proofs.YtajmdlpanlbnjaaGreatDoor

namespace Go.Proofs.YtajmdlpanlbnjaaGreatDoor
open Go Go.RowKit
set_option linter.unusedVariables false
set_option linter.unusedSimpArgs false

namespace M

def seqN : Nat → Code → Code
  | 0, _ => .skip
  | n + 1, .seq x y => .seq x (seqN n y)
  | _ + 1, _ => .skip

def dropN : Nat → Code → Code
  | 0, c => c
  | n + 1, .seq _ y => dropN n y
  | _ + 1, c => c

def okN : Nat → Code → Bool
  | 0, _ => true
  | n + 1, .seq _ y => okN n y
  | _ + 1, _ => false

def codeOf (f : Func) : Code := f.body.getD .skip

theorem cut_go {P : Program} {E : Env} {B : Nat → Prop} {N : Nat} {w0 : World} {S0 : Nat → Prop} {β0 : Nat → Option BI} (ok : EnvOK P E) (hm : P.follows .mixedOrders = true) {L : List Code} (hlp : ∀ x ∈ L, ∀ s e s', (E.lp (lid x) s).val = some (e, s') → LoopOK E x s e s') {Q : Exit → Act → World → Prop} {s1 : St} :
    ∀ (n : Nat) (c : Code) (s : St) (a : Act) (w : World), okN n c = true → (∀ x ∈ loopsOf c, x ∈ L) → dstsOK N c = true → (exec E (seqN n c) s).val = some (.normal, s1) → RelE E B N w0 S0 β0 s a w →
      (∀ a' w', RelE E B N w0 S0 β0 s1 a' w' → (∀ x ∈ loopsOf (dropN n c), x ∈ L) → dstsOK N (dropN n c) = true → (dropN n c).wp P Q a' w') → c.wp P Q a w
  | 0, c, s, a, w, _, hL, hd, h, rel, hR => by
    rw [seqN, exec, done, T.ret_some] at h
    cases h
    exact hR a w rel hL hd
  | n + 1, c, s, a, w, hk, hL, hd, h, rel, hR => by
    cases c with
    | seq x y =>
      rw [seqN, exec, T.bind_some] at h
      obtain ⟨⟨e1, s2⟩, h1, h⟩ := h
      simp only [dstsOK, Bool.and_eq_true] at hd
      refine wp_seq (exec_sound ok hm hlp x (fun z hz => hL z (by simp [loopsOf, hz])) hd.1 s e1 s2 a w _ rel h1 fun a1 w1 r1 => ?_)
      cases e1 with
      | exit i => rw [T.ret_some] at h; cases h
      | ret => rw [T.ret_some] at h; cases h
      | normal => exact cut_go ok hm hlp n y s2 a1 w1 hk (fun z hz => hL z (by simp [loopsOf, hz])) hd.2 h r1 hR
    | _ => exact absurd hk (by simp [okN])

theorem cut_wp {P : Program} {E : Env} {B : Nat → Prop} {N : Nat} {w0 : World} {S0 : Nat → Prop} {β0 : Nat → Option BI} (ok : EnvOK P E) (hm : P.follows .mixedOrders = true) {L : List Code} (hlp : ∀ x ∈ L, ∀ s e s', (E.lp (lid x) s).val = some (e, s') → LoopOK E x s e s') {Q : Exit → Act → World → Prop} {n : Nat} {c : Code} {s s1 : St} {a : Act} {w : World} {k e r : List Nat × List Nat}
    (hk : okN n c = true) (hL : ∀ x ∈ loopsOf c, x ∈ L) (hd : dstsOK N c = true) (h : ((exec E (seqN n c) s).bind (lessX k e r)).val = some (.normal, s1)) (hc : closedB s1 = true) (rel : RelE E B N w0 S0 β0 s a w)
    (hR : ∀ a' w', RelE E B N w0 S0 β0 s1 a' w' → (∀ x ∈ loopsOf (dropN n c), x ∈ L) → dstsOK N (dropN n c) = true → (dropN n c).wp P Q a' w') : c.wp P Q a w := by
  obtain ⟨j, hj⟩ := lessX_of h
  rw [T.bind_some] at hj
  obtain ⟨⟨e0, s0⟩, h1, h2⟩ := hj
  have h2 : (e0, less j.1 j.2 s0) = (Ex.normal, s1) := Option.some.inj h2
  cases h2
  exact cut_go ok hm hlp n c s a w hk hL hd h1 rel fun a' w' r1 => hR a' w' (less_relE r1 j.1 j.2 hc)

theorem cut_end {P : Program} {E : Env} {B : Nat → Prop} {N : Nat} {w0 : World} {S0 : Nat → Prop} {β0 : Nat → Option BI} (ok : EnvOK P E) (hm : P.follows .mixedOrders = true) {L : List Code} (hlp : ∀ x ∈ L, ∀ s e s', (E.lp (lid x) s).val = some (e, s') → LoopOK E x s e s') {Q : Exit → Act → World → Prop} {c : Code} {s s1 : St} {a : Act} {w : World} {k e r : List Nat × List Nat} {ee : Ex}
    (hL : ∀ x ∈ loopsOf c, x ∈ L) (hd : dstsOK N c = true) (h : ((exec E c s).bind (lessX k e r)).val = some (ee, s1)) (hc : closedB s1 = true) (rel : RelE E B N w0 S0 β0 s a w)
    (hR : ∀ a' w', RelE E B N w0 S0 β0 s1 a' w' → Q (exOf ee) a' w') : c.wp P Q a w := by
  obtain ⟨j, hj⟩ := lessX_of h
  rw [T.bind_some] at hj
  obtain ⟨⟨e0, s0⟩, h1, h2⟩ := hj
  have h2 : (e0, less j.1 j.2 s0) = (ee, s1) := Option.some.inj h2
  cases h2
  exact exec_sound ok hm hlp c hL hd s _ s0 a w Q rel h1 fun a' w' r1 => hR a' w' (less_relE r1 j.1 j.2 hc)

end M
end Go.Proofs.YtajmdlpanlbnjaaGreatDoor

namespace Go.Proofs.YtajmdlpanlbnjaaGreatDoor
open Go Go.RowKit
set_option linter.unusedVariables false
set_option linter.unusedSimpArgs false
set_option maxHeartbeats 1000000

theorem F.pl_app (a s : ByteArray) (l : List ByteArray) {x y : ByteArray} (hl : l = [x] ∨ l = [x, y]) : F.pl (a ++ s) l = a ++ F.pl s l := by
  unfold F.pl
  rcases hl with rfl | rfl <;> simp only [F.cat, ByteArray.append_assoc]

theorem F.tX_app (a : ByteArray) : ∀ (l : List ByteArray) (s : ByteArray), F.tX (a ++ s) l = a ++ F.tX s l
  | [], s => rfl
  | x :: l, s => by rw [F.tX, F.tX, F.pl_app (x := x) (y := x) a s [x] (.inl rfl), F.tX_app a l]

theorem F.bE_app (a key : ByteArray) (e : Ent) : ∀ s : ByteArray, F.bE (a ++ s) key e = a ++ F.bE s key e := fun s => by
  unfold F.bE F.bE'
  rw [F.tX_app]
  generalize F.tX s e.extra = T
  unfold F.e1 F.e2 F.e3 F.e4 F.pl
  cases e.brk <;> cases decide (0 ≤ e.date) <;> cases F.seq e.key key <;> cases e.gap <;> simp only [cond_true, cond_false, F.cat, ByteArray.append_assoc]

theorem F.bE_nil (a key : ByteArray) (e : Ent) : a ++ F.bE ⟨⟨[]⟩⟩ key e = F.bE a key e := by
  rw [← F.bE_app, show a ++ (⟨⟨[]⟩⟩ : ByteArray) = a from F.bsx (by rw [F.bs_app]; exact List.append_nil _)]

theorem F.tm_sz {m : Int} (h1 : 0 ≤ m) (h2 : m ≤ 3600000) : (F.tmS m).size ≤ 25 := by
  obtain ⟨m, rfl⟩ := Int.eq_ofNat_of_zero_le h1
  have e1 : F.tmS (m : Int) = F.itoa ((m / 1000 : Nat) : Int) ++ F.dot ++ F.pad ((m % 1000 : Nat) : Int) 3 := rfl
  have t1 := F.itoa_size (n := ((m / 1000 : Nat) : Int)) (by omega) (by omega)
  have t2 := F.pad_size' (m % 1000) (by omega)
  have t3 : F.dot.size = 1 := rfl
  rw [e1, ByteArray.size_append, ByteArray.size_append]
  omega

theorem F.dt_sz {d : Int} (h1 : 0 ≤ d) (h2 : d ≤ 253402300799999) : (F.dtS d).size = 24 := by
  obtain ⟨k, rfl⟩ := Int.eq_ofNat_of_zero_le h1
  have := (F.dtS_ok (n := k) (by omega)).1
  unfold F.dtOk at this
  rw [Bool.and_eq_true, Bool.and_eq_true, decide_eq_true_eq] at this
  exact this.1.1

def F.lnW (e : Ent) : Bool := F.entW e && decide (e.uri.size ≤ 200) && decide (e.key.size ≤ 40) && decide ((F.tX ⟨⟨[]⟩⟩ e.extra).size ≤ 10000)

theorem F.lnW_of {e : Ent} (h1 : F.EOk e) (h2 : F.ESz e) : F.lnW e = true := by
  have hx := F.tX_sz e.extra ⟨⟨[]⟩⟩ h2.ext
  have hn := h2.num
  have hz : (⟨⟨[]⟩⟩ : ByteArray).size = 0 := rfl
  unfold F.lnW
  rw [F.entW_of h1 h2, decide_eq_true h2.uri, decide_eq_true h2.key, decide_eq_true (by omega)]
  rfl

namespace M

def stXl (u : ByteArray) (m : Int) (br : Bool) (d : Int) (ky : ByteArray) (g : Bool) (x : List ByteArray) (key : ByteArray) (s : ByteArray) (i : Nat) : St := ⟨[(6, vI i), (5, vS s), (2, .ptr 2 0 0), (1, vS key)], [(2, ⟨true, 0, 0, [[vS u, vI m, vB br, vI d, vS ky, vB g, .sl (x.map eStr)]]⟩)]⟩

def stXl1 (a : ByteArray × Int × Bool × Int × ByteArray × Bool × (List ByteArray) × ByteArray × ByteArray × Nat) : St := stXl a.1 a.2.1 a.2.2.1 a.2.2.2.1 a.2.2.2.2.1 a.2.2.2.2.2.1 a.2.2.2.2.2.2.1 a.2.2.2.2.2.2.2.1 a.2.2.2.2.2.2.2.2.1 a.2.2.2.2.2.2.2.2.2

theorem stXl_inj (a a' : ByteArray × Int × Bool × Int × ByteArray × Bool × (List ByteArray) × ByteArray × ByteArray × Nat) (h : stXl1 a = stXl1 a') : a = a' := by
  simp only [stXl1, stXl] at h
  try simp [strs_inj, ints_inj, ents_inj, eEnt_iff, eLst_iff, eSnds_inj, eStrms_inj] at h
  grind

theorem unstXl (u : ByteArray) (m : Int) (br : Bool) (d : Int) (ky : ByteArray) (g : Bool) (x : List ByteArray) (key : ByteArray) (s : ByteArray) (i : Nat) : unenc stXl1 (St.mk [(6, (vI (↑i : Int))), (5, (vS s)), (2, .ptr 2 0 0), (1, (vS key))] [(2, Blk.mk true 0 0 [[(vS u), (vI m), (vB br), (vI d), (vS ky), (vB g), AV.sl (List.map eStr
  x)]])]) = some (u, m, br, d, ky, g, x, key, s, i) := unenc_of stXl_inj (u, m, br, d, ky, g, x, key, s, i) rfl

theorem unstXl0 (u : ByteArray) (m : Int) (br : Bool) (d : Int) (ky : ByteArray) (g : Bool) (x : List ByteArray) (key : ByteArray)  : unenc stXl1 (St.mk [(6, (vI (0 : Int))), (5, (vS (ByteArray.mk (Array.mk [])))), (2, .ptr 2 0 0), (1, (vS key))] [(2, Blk.mk true 0 0 [[(vS u), (vI m), (vB br), (vI d), (vS ky), (vB
  g), AV.sl (List.map eStr x)]])]) = some (u, m, br, d, ky, g, x, key, ⟨⟨[]⟩⟩, 0) := unenc_of stXl_inj (u, m, br, d, ky, g, x, key, ⟨⟨[]⟩⟩, 0) rfl

def outXl (u : ByteArray) (m : Int) (br : Bool) (d : Int) (ky : ByteArray) (g : Bool) (x : List ByteArray) (key : ByteArray) (s : ByteArray) (i : Nat) : T (Ex × St) := .ret (.exit 0, ⟨[(5, vS (F.tX s (x.drop i))), (2, .ptr 2 0 0), (1, vS key)], [(2, ⟨true, 0, 0, [[vS u, vI m, vB br, vI d, vS ky, vB g, .sl (x.map eStr)]]⟩)]⟩)

noncomputable def prlXl (u : ByteArray) (m : Int) (br : Bool) (d : Int) (ky : ByteArray) (g : Bool) (x : List ByteArray) (key : ByteArray) (s : ByteArray) (i : Nat) : Bool := decide (x.length ≤ 1000) && decide (i ≤ x.length) && decide ((F.tX s (x.drop i)).size ≤ 80000000)

noncomputable def lpXl : Nat × (St → T (Ex × St)) := (3, lpo [6, 5, 2, 1] [2] stXl1 (fun a => prlXl a.1 a.2.1 a.2.2.1 a.2.2.2.1 a.2.2.2.2.1 a.2.2.2.2.2.1 a.2.2.2.2.2.2.1 a.2.2.2.2.2.2.2.1 a.2.2.2.2.2.2.2.2.1 a.2.2.2.2.2.2.2.2.2) fun a => outXl a.1 a.2.1 a.2.2.1 a.2.2.2.1 a.2.2.2.2.1 a.2.2.2.2.2.1 a.2.2.2.2.2.2.1 a.2.2.2.2.2.2.2.1 a.2.2.2.2.2.2.2.2.1 a.2.2.2.2.2.2.2.2.2)

noncomputable def enXln : Env := envH ty noG lks [oXdt, oXdc] [] [] [lpXl]

theorem enXln_ok : EnvOK Tryz.prog enXln := by
  refine envH_ok lks_ok ty_ok ?_ ?_
  · simp only [List.forall_mem_cons]
    exact ⟨okXdt, okXdc, by simp⟩
  · simp

theorem evXlL (u : ByteArray) (m : Int) (br : Bool) (d : Int) (ky : ByteArray) (g : Bool) (x : List ByteArray) (key : ByteArray) (s : ByteArray) (i : Nat) : ((exec enXln (loopN Tryz.f56 0) (stXl u m br d ky g x key s i)).bind (lessX ([6, 5, 2, 1], [2]) ([5, 2, 1], [2]) ([], []))).val =
  bif decide ((↑i : Int) < (↑(List.length (List.map eStr x)) : Int)) then Option.bind (unenc (List.map eStr) (List.map eStr x)) fun (z : List ByteArray) => bif decide (i <
  List.length z) then bif Nat.ble (ByteArray.size (List.getD z i (ByteArray.mk (Array.mk []))) + ByteArray.size (ByteArray.mk (Array.mk [(10 : UInt8)])))
  (9223372036854775807 : Nat) then bif Nat.ble (ByteArray.size s + ByteArray.size (List.getD z i (ByteArray.mk (Array.mk [])) ++ ByteArray.mk (Array.mk [(10 : UInt8)])))
  (9223372036854775807 : Nat) then some (Ex.normal, St.mk [(6, (vI (IntKind.wrap IntKind.i64 ((↑i : Int) + (1 : Int))))), (5, (vS (s ++ (List.getD z i (ByteArray.mk
  (Array.mk [])) ++ ByteArray.mk (Array.mk [(10 : UInt8)]))))), (2, .ptr 2 0 0), (1, (vS key))] [(2, Blk.mk true 0 0 [[(vS u), (vI m), (vB br), (vI d), (vS ky), (vB g),
  AV.sl (List.map eStr x)]])]) else none else none else none else some (Ex.exit (0 : Nat), St.mk [(5, (vS s)), (2, .ptr 2 0 0), (1, (vS key))] [(2, Blk.mk true 0 0 [[(vS u),
  (vI m), (vB br), (vI d), (vS ky), (vB g), AV.sl (List.map eStr x)]])]) := (execR_bind _ _ _).symm.trans (by kernel_rfl)

theorem lpXl_ok (u : ByteArray) (m : Int) (br : Bool) (d : Int) (ky : ByteArray) (g : Bool) (x : List ByteArray) (key : ByteArray) (s : ByteArray) (i : Nat) (hp : prlXl u m br d ky g x key s i = true) : ∀ ex s', (outXl u m br d ky g x key s i).val = some (ex, s') → LoopOK enXln (loopN Tryz.f56 0) (stXl u m br d ky g x key s i) ex s' := by
  simp only [prlXl, Bool.and_eq_true, decide_eq_true_eq] at hp
  obtain ⟨⟨h1, h2⟩, h3⟩ := hp
  refine loop_gen (st := fun p : ByteArray × Nat => stXl u m br d ky g x key p.1 p.2) (out := fun p => outXl u m br d ky g x key p.1 p.2) (I := fun p => p.2 ≤ x.length ∧ (F.tX p.1 (x.drop p.2)).size ≤ 80000000) (n := ([6, 5, 2, 1], [2])) (e := ([5, 2, 1], [2])) (r := ([], [])) (fun p => x.length - p.2) ?_ (s, i) ⟨h2, h3⟩
  clear h2 h3
  rintro ⟨s, i⟩ ⟨h2, h3⟩
  simp only at h2 h3
  by_cases hlt : i < x.length
  · have hy : x[i]? = some x[i] := List.getElem?_eq_getElem hlt
    generalize x[i] = y at hy
    have hdd := drop_y hy
    rw [hdd, F.tX] at h3
    have hc := F.tX_le (x.drop (i + 1)) (F.pl s [y])
    have hc2 := F.pl_1 s y
    have e1 : (⟨⟨[10]⟩⟩ : ByteArray).size = 1 := rfl
    have hi : idx (i : Int) = some i := rfl
    have hc3 : s ++ (y ++ (⟨⟨[10]⟩⟩ : ByteArray)) = F.pl s [y] := by
      unfold F.pl
      simp only [F.cat, ByteArray.append_assoc]
    right
    refine ⟨(F.pl s [y], i + 1), ?_, rfl, ⟨hlt, h3⟩, by simp only; omega, ?_⟩
    · rw [evXlL]
      simp only [unXdt, unXdc, preXdt1, preXdc1, unstXl, unstXl0, prlXl, outXl, etaEnt, etaLst, etaSnd, etaStrm, etaMas, Option.bind_some, List.length_map, unStrs, unInts, unBools, unEnts, unItms, unTrns, cond_true, cond_false, Bool.and_true, Bool.true_and, cast_lt hlt, decide_eq_true hlt, hi, getD_at hy]
      rw [hc3, ble_t (by rw [e1]; omega), ble_t (by rw [ByteArray.size_append, e1]; omega), next_at hlt (by omega : x.length ≤ 9223372036854775807)]
      rfl
    · simp only [outXl, hdd, F.tX]
  · have : i = x.length := by omega
    subst this
    left
    refine ⟨(.exit 0, ⟨[(5, vS s), (2, .ptr 2 0 0), (1, vS key)], [(2, ⟨true, 0, 0, [[vS u, vI m, vB br, vI d, vS ky, vB g, .sl (x.map eStr)]]⟩)]⟩), ?_, ?_, by simp, rfl⟩
    · rw [evXlL]
      simp
    · simp only [outXl, List.drop_length, F.tX]
      rfl

theorem evX1 (u : ByteArray) (m : Int) (br : Bool) (d : Int) (ky : ByteArray) (g : Bool) (x : List ByteArray) (key : ByteArray) : ((exec enXln (seqN 5 (codeOf Tryz.f56)) ⟨numbered 0 [.agg [vS u, vI m, vB br, vI d, vS ky, vB g, .sl (x.map eStr)], vS key] [], []⟩).bind (lessX ([5, 2, 1], [2]) ([], []) ([], []))).val =
  (fun (q : ByteArray) => (fun (q_1 : Nat × AV) => (fun (q_2 : ByteArray) => (fun (q_3 : Nat) => (fun (q_4 : ByteArray) => Option.bind (unenc stXl1 (St.mk [(6, (vI (0 :
  Int))), (5, (vS (ByteArray.mk (Array.mk [])))), q_1, (1, (vS key))] [(2, Blk.mk true 0 0 [[(vS u), (vI m), (vB br), (vI d), (vS ky), (vB g), AV.sl (List.map eStr x)]])]))
  fun (z : ByteArray × Int × Bool × Int × ByteArray × Bool × List ByteArray × ByteArray × ByteArray × Nat) => (fun (q_5 : AV) => (fun (q_6 : Nat) => (fun (q_7 : ByteArray ×
  Nat) => (fun (q_8 : List (Nat × AV)) => (fun (q_9 : ByteArray) => (fun (q_10 : Nat) => (fun (q_11 : ByteArray) => (fun (q_12 : List (Nat × Blk)) => bif decide (q_6 ≤ (1000
  : Nat)) && decide (q_7.snd ≤ q_6) && decide (q_10 ≤ (80000000 : Nat)) && true then bif z.snd.snd.fst then bif Nat.ble (q_10 + ByteArray.size q_4) (9223372036854775807 :
  Nat) then bif decide ((0 : Int) ≤ z.snd.snd.snd.fst) then Option.bind (unenc encXdt [q_5]) fun (z : Int) => bif decide ((0 : Int) ≤ z) && decide (z ≤ (253402300799999 :
  Int)) then bif Nat.ble (q_3 + ByteArray.size (F.dtS z)) (9223372036854775807 : Nat) then bif Nat.ble (ByteArray.size (q_2 ++ F.dtS z) + ByteArray.size q)
  (9223372036854775807 : Nat) then bif Nat.ble (ByteArray.size q_11 + ByteArray.size (q_2 ++ F.dtS z ++ q)) (9223372036854775807 : Nat) then some (Ex.normal, St.mk ((5, (vS
  (q_11 ++ (q_2 ++ F.dtS z ++ q)))) :: q_8) q_12) else none else none else none else none else some (Ex.normal, St.mk ((5, (vS q_11)) :: q_8) q_12) else none else bif decide
  ((0 : Int) ≤ z.snd.snd.snd.fst) then Option.bind (unenc encXdt [q_5]) fun (z : Int) => bif decide ((0 : Int) ≤ z) && decide (z ≤ (253402300799999 : Int)) then bif Nat.ble
  (q_3 + ByteArray.size (F.dtS z)) (9223372036854775807 : Nat) then bif Nat.ble (ByteArray.size (q_2 ++ F.dtS z) + ByteArray.size q) (9223372036854775807 : Nat) then bif
  Nat.ble (q_10 + ByteArray.size (q_2 ++ F.dtS z ++ q)) (9223372036854775807 : Nat) then some (Ex.normal, St.mk ((5, (vS (q_9 ++ (q_2 ++ F.dtS z ++ q)))) :: q_8) q_12) else
  none else none else none else none else some (Ex.normal, St.mk ((5, (vS q_9)) :: q_8) q_12) else none) [(2, Blk.mk true 0 0 [[(vS z.fst), (vI z.snd.fst), (vB
  z.snd.snd.fst), q_5, (vS z.snd.snd.snd.snd.fst), (vB z.snd.snd.snd.snd.snd.fst), AV.sl (List.map eStr z.snd.snd.snd.snd.snd.snd.fst)]])]) (q_9 ++ q_4)) (ByteArray.size
  q_9)) (F.tX q_7.fst (List.drop q_7.snd z.snd.snd.snd.snd.snd.snd.fst))) [q_1, (1, (vS z.snd.snd.snd.snd.snd.snd.snd.fst))]) z.snd.snd.snd.snd.snd.snd.snd.snd) (List.length
  z.snd.snd.snd.snd.snd.snd.fst)) ((vI z.snd.snd.snd.fst))) (ByteArray.mk (Array.mk [(35 : UInt8), (66 : UInt8), (82 : UInt8), (69 : UInt8), (65 : UInt8), (75 : UInt8), (10
  : UInt8)]))) (ByteArray.size q_2)) (ByteArray.mk (Array.mk [(35 : UInt8), (68 : UInt8), (65 : UInt8), (84 : UInt8), (69 : UInt8), (32 : UInt8)]))) (2, .ptr 2 0 0))
  (ByteArray.mk (Array.mk [(10 : UInt8)])) := (execR_bind _ _ _).symm.trans (by kernel_rfl)

theorem evX2 (u : ByteArray) (m : Int) (br : Bool) (d : Int) (ky : ByteArray) (g : Bool) (x : List ByteArray) (key : ByteArray) (s : ByteArray) : ((exec enXln (seqN 1 (dropN 5 (codeOf Tryz.f56))) ⟨[(5, vS s), (2, .ptr 2 0 0), (1, vS key)], [(2, ⟨true, 0, 0, [[vS u, vI m, vB br, vI d, vS ky, vB g, .sl (x.map eStr)]]⟩)]⟩).bind (lessX ([5, 2, 1], [2]) ([], []) ([], []))).val =
  bif !ByteArray.toList ky == ByteArray.toList key then bif ByteArray.toList ky == ByteArray.toList (ByteArray.mk (Array.mk [])) then bif Nat.ble (ByteArray.size s +
  ByteArray.size (ByteArray.mk (Array.mk [(35 : UInt8), (75 : UInt8), (69 : UInt8), (89 : UInt8), (32 : UInt8), (45 : UInt8), (10 : UInt8)]))) (9223372036854775807 : Nat)
  then some (Ex.normal, St.mk [(5, (vS (s ++ ByteArray.mk (Array.mk [(35 : UInt8), (75 : UInt8), (69 : UInt8), (89 : UInt8), (32 : UInt8), (45 : UInt8), (10 : UInt8)])))),
  (2, .ptr 2 0 0), (1, (vS key))] [(2, Blk.mk true 0 0 [[(vS u), (vI m), (vB br), (vI d), (vS ky), (vB g), AV.sl (List.map eStr x)]])]) else none else bif Nat.ble
  (ByteArray.size (ByteArray.mk (Array.mk [(35 : UInt8), (75 : UInt8), (69 : UInt8), (89 : UInt8), (32 : UInt8)])) + ByteArray.size ky) (9223372036854775807 : Nat) then bif
  Nat.ble (ByteArray.size (ByteArray.mk (Array.mk [(35 : UInt8), (75 : UInt8), (69 : UInt8), (89 : UInt8), (32 : UInt8)]) ++ ky) + ByteArray.size (ByteArray.mk (Array.mk
  [(10 : UInt8)]))) (9223372036854775807 : Nat) then bif Nat.ble (ByteArray.size s + ByteArray.size (ByteArray.mk (Array.mk [(35 : UInt8), (75 : UInt8), (69 : UInt8), (89 :
  UInt8), (32 : UInt8)]) ++ ky ++ ByteArray.mk (Array.mk [(10 : UInt8)]))) (9223372036854775807 : Nat) then some (Ex.normal, St.mk [(5, (vS (s ++ (ByteArray.mk (Array.mk
  [(35 : UInt8), (75 : UInt8), (69 : UInt8), (89 : UInt8), (32 : UInt8)]) ++ ky ++ ByteArray.mk (Array.mk [(10 : UInt8)]))))), (2, .ptr 2 0 0), (1, (vS key))] [(2, Blk.mk
  true 0 0 [[(vS u), (vI m), (vB br), (vI d), (vS ky), (vB g), AV.sl (List.map eStr x)]])]) else none else none else none else some (Ex.normal, St.mk [(5, (vS s)), (2, .ptr
  2 0 0), (1, (vS key))] [(2, Blk.mk true 0 0 [[(vS u), (vI m), (vB br), (vI d), (vS ky), (vB g), AV.sl (List.map eStr x)]])]) := (execR_bind _ _ _).symm.trans (by kernel_rfl)

theorem evX3 (u : ByteArray) (m : Int) (br : Bool) (d : Int) (ky : ByteArray) (g : Bool) (x : List ByteArray) (key : ByteArray) (s : ByteArray) : ((exec enXln (dropN 1 (dropN 5 (codeOf Tryz.f56))) ⟨[(5, vS s), (2, .ptr 2 0 0), (1, vS key)], [(2, ⟨true, 0, 0, [[vS u, vI m, vB br, vI d, vS ky, vB g, .sl (x.map eStr)]]⟩)]⟩).bind (lessX ([], []) ([], []) ([4], []))).val =
  (fun (q : ByteArray) => (fun (q_1 : Nat) => (fun (q_2 : ByteArray) => (fun (q_3 : ByteArray) => (fun (q_4 : ByteArray) => (fun (q_5 : Nat) => (fun (q_6 : ByteArray) =>
  (fun (q_7 : Option Int) => (fun (q_8 : ByteArray) => bif g then bif Nat.ble (ByteArray.size s + ByteArray.size q_2) (9223372036854775807 : Nat) then Option.bind q_7 fun (z
  : Int) => bif decide ((0 : Int) ≤ z) && decide (z ≤ (3600000 : Int)) then bif Nat.ble (ByteArray.size q_4 + q_5) (9223372036854775807 : Nat) then bif Nat.ble
  (ByteArray.size q_8 + ByteArray.size (F.tmS z)) (9223372036854775807 : Nat) then bif Nat.ble (ByteArray.size (q_8 ++ F.tmS z) + q_1) (9223372036854775807 : Nat) then bif
  Nat.ble (ByteArray.size (q_8 ++ F.tmS z ++ q) + ByteArray.size u) (9223372036854775807 : Nat) then bif Nat.ble (ByteArray.size (q_8 ++ F.tmS z ++ q ++ u) + q_1)
  (9223372036854775807 : Nat) then some (Ex.ret, St.mk [(4, (vS (q_8 ++ F.tmS z ++ q ++ u ++ q)))] []) else none else none else none else none else none else none else none
  else Option.bind q_7 fun (z : Int) => bif decide ((0 : Int) ≤ z) && decide (z ≤ (3600000 : Int)) then bif Nat.ble (ByteArray.size s + q_5) (9223372036854775807 : Nat) then
  bif Nat.ble (ByteArray.size q_6 + ByteArray.size (F.tmS z)) (9223372036854775807 : Nat) then bif Nat.ble (ByteArray.size (q_6 ++ F.tmS z) + q_1) (9223372036854775807 :
  Nat) then bif Nat.ble (ByteArray.size (q_6 ++ F.tmS z ++ q) + ByteArray.size u) (9223372036854775807 : Nat) then bif Nat.ble (ByteArray.size (q_6 ++ F.tmS z ++ q ++ u) +
  q_1) (9223372036854775807 : Nat) then some (Ex.ret, St.mk [(4, (vS (q_6 ++ F.tmS z ++ q ++ u ++ q)))] []) else none else none else none else none else none else none) (q_4
  ++ q_3)) (unenc encXdc [(vI m), (vI (1000 : Int)), (vI (3 : Int))])) (s ++ q_3)) (ByteArray.size q_3)) (s ++ q_2)) (ByteArray.mk (Array.mk [(35 : UInt8), (84 : UInt8), (73
  : UInt8), (77 : UInt8), (69 : UInt8), (32 : UInt8)]))) (ByteArray.mk (Array.mk [(35 : UInt8), (71 : UInt8), (65 : UInt8), (80 : UInt8), (10 : UInt8)]))) (ByteArray.size
  q)) (ByteArray.mk (Array.mk [(10 : UInt8)])) := (execR_bind _ _ _).symm.trans (by kernel_rfl)

theorem F_z : F.kBrk.size = 6 ∧ F.kDatS.size = 6 ∧ F.kKeyS.size = 5 ∧ F.dash.size = 1 ∧ F.kGap.size = 4 ∧ F.kTimS.size = 6 ∧ (⟨⟨[10]⟩⟩ : ByteArray).size = 1 := ⟨rfl, rfl, rfl, rfl, rfl, rfl, rfl⟩

theorem preX1 {u : ByteArray} {m : Int} {br : Bool} {d : Int} {ky : ByteArray} {g : Bool} {x : List ByteArray} {key : ByteArray} (h1 : d ≤ 253402300799999) (h2 : x.length ≤ 1000) (h3 : (F.tX ⟨⟨[]⟩⟩ x).size ≤ 10000) :
    ((exec enXln (seqN 5 (codeOf Tryz.f56)) ⟨numbered 0 [.agg [vS u, vI m, vB br, vI d, vS ky, vB g, .sl (x.map eStr)], vS key] [], []⟩).bind (lessX ([5, 2, 1], [2]) ([], []) ([], []))).val =
      some (.normal, ⟨[(5, vS (F.e2 (F.e1 (F.tX ⟨⟨[]⟩⟩ x) br) d)), (2, .ptr 2 0 0), (1, vS key)], [(2, ⟨true, 0, 0, [[vS u, vI m, vB br, vI d, vS ky, vB g, .sl (x.map eStr)]]⟩)]⟩) := by
  have qB : (⟨⟨[35, 66, 82, 69, 65, 75, 10]⟩⟩ : ByteArray) = F.kBrk ++ ⟨⟨[10]⟩⟩ := rfl
  have qD : (⟨⟨[35, 68, 65, 84, 69, 32]⟩⟩ : ByteArray) = F.kDatS := rfl
  obtain ⟨z1, z2, z3, z4, z5, z6, z7⟩ := F_z
  rw [evX1]
  simp only [unXdt, preXdt1, unstXl, unstXl0, prlXl, outXl, Option.bind_some, List.length_map, cond_true, cond_false, Bool.and_true, Bool.true_and, List.drop_zero]
  rw [decide_eq_true h2, decide_eq_true (Nat.zero_le x.length), decide_eq_true (by omega : (F.tX ⟨⟨[]⟩⟩ x).size ≤ 80000000), qB, qD]
  generalize F.tX ⟨⟨[]⟩⟩ x = T at *
  unfold F.e2 F.e1 F.pl
  by_cases hd : 0 ≤ d
  · have z8 := F.dt_sz hd h1
    rw [decide_eq_true hd, decide_eq_true h1]
    generalize F.dtS d = D at *
    cases br
    all_goals
      simp (disch := omega) only [ByteArray.size_append, z1, z2, z7, z8, ble_t, Bool.and_self, cond_true, cond_false]
      simp only [F.cat, ByteArray.append_assoc]
  · rw [decide_eq_false hd]
    cases br
    all_goals
      simp (disch := omega) only [ByteArray.size_append, z1, z2, z7, ble_t, Bool.and_self, cond_true, cond_false]
      try simp only [F.cat, ByteArray.append_assoc]

theorem preX2 {u : ByteArray} {m : Int} {br : Bool} {d : Int} {ky : ByteArray} {g : Bool} {x : List ByteArray} {key : ByteArray} {s : ByteArray} (h1 : ky.size ≤ 40) (h2 : s.size ≤ 20000) :
    ((exec enXln (seqN 1 (dropN 5 (codeOf Tryz.f56))) ⟨[(5, vS s), (2, .ptr 2 0 0), (1, vS key)], [(2, ⟨true, 0, 0, [[vS u, vI m, vB br, vI d, vS ky, vB g, .sl (x.map eStr)]]⟩)]⟩).bind (lessX ([5, 2, 1], [2]) ([], []) ([], []))).val =
      some (.normal, ⟨[(5, vS (F.e3 s key ky)), (2, .ptr 2 0 0), (1, vS key)], [(2, ⟨true, 0, 0, [[vS u, vI m, vB br, vI d, vS ky, vB g, .sl (x.map eStr)]]⟩)]⟩) := by
  have qK : (⟨⟨[35, 75, 69, 89, 32]⟩⟩ : ByteArray) = F.kKeyS := rfl
  have qN : (⟨⟨[35, 75, 69, 89, 32, 45, 10]⟩⟩ : ByteArray) = F.kKeyS ++ F.dash ++ ⟨⟨[10]⟩⟩ := rfl
  have q1 : (ky.toList == key.toList) = F.seq ky key := rfl
  have q2 : (ky.toList == (⟨⟨[]⟩⟩ : ByteArray).toList) = F.seq ky ⟨⟨[]⟩⟩ := rfl
  obtain ⟨z1, z2, z3, z4, z5, z6, z7⟩ := F_z
  rw [evX2, qK, qN, q1, q2]
  unfold F.e3 F.dsh F.pl
  cases F.seq ky key
  · cases F.seq ky ⟨⟨[]⟩⟩
    all_goals
      simp (disch := omega) only [ByteArray.size_append, z3, z4, z7, ble_t, Bool.and_self, Bool.not_false, cond_true, cond_false]
      simp only [F.cat, ByteArray.append_assoc]
  · rfl

theorem preX3 {u : ByteArray} {m : Int} {br : Bool} {d : Int} {ky : ByteArray} {g : Bool} {x : List ByteArray} {key : ByteArray} {s : ByteArray} (h0 : 0 ≤ m) (h1 : m ≤ 3600000) (h2 : s.size ≤ 30000) (h3 : u.size ≤ 200) :
    ((exec enXln (dropN 1 (dropN 5 (codeOf Tryz.f56))) ⟨[(5, vS s), (2, .ptr 2 0 0), (1, vS key)], [(2, ⟨true, 0, 0, [[vS u, vI m, vB br, vI d, vS ky, vB g, .sl (x.map eStr)]]⟩)]⟩).bind (lessX ([], []) ([], []) ([4], []))).val =
      some (.ret, ⟨[(4, vS (F.pl (F.pl (F.e4 s g) [F.kTimS, F.tmS m]) [u]))], []⟩) := by
  have qG : (⟨⟨[35, 71, 65, 80, 10]⟩⟩ : ByteArray) = F.kGap ++ ⟨⟨[10]⟩⟩ := rfl
  have qT : (⟨⟨[35, 84, 73, 77, 69, 32]⟩⟩ : ByteArray) = F.kTimS := rfl
  have z8 := F.tm_sz h0 h1
  obtain ⟨z1, z2, z3, z4, z5, z6, z7⟩ := F_z
  rw [evX3]
  simp only [unXdc, preXdc1, Option.bind_some, cond_true, cond_false, Bool.and_true, Bool.true_and]
  rw [qG, qT, decide_eq_true h0, decide_eq_true h1]
  generalize F.tmS m = D at *
  unfold F.e4 F.pl
  cases g
  all_goals
    simp (disch := omega) only [ByteArray.size_append, z5, z6, z7, ble_t, Bool.and_self, cond_true, cond_false]
    simp only [F.cat, ByteArray.append_assoc]

theorem loopsX : ∀ x ∈ Func.loops Tryz.f56, ∀ s e s', (enXln.lp (lid x) s).val = some (e, s') → LoopOK enXln x s e s' := by
  rw [show Func.loops Tryz.f56 = [loopN Tryz.f56 0] by kernel_rfl]
  simp only [List.forall_mem_cons]
  refine ⟨lpo_ok ?_, by simp⟩
  rintro ⟨u, m, br, d, ky, g, x, key, s, i⟩ hp
  exact lpXl_ok u m br d ky g x key s i hp

theorem F.eq_1 (s : ByteArray) (b : Bool) : (F.e1 s b).size ≤ s.size + 7 := by
  obtain ⟨z1, z2, z3, z4, z5, z6, z7⟩ := F_z
  unfold F.e1
  cases b
  · rw [cond_false]; omega
  · rw [cond_true, F.pl_1]; omega

theorem F.eq_2 (s : ByteArray) {d : Int} (h : d ≤ 253402300799999) : (F.e2 s d).size ≤ s.size + 31 := by
  obtain ⟨z1, z2, z3, z4, z5, z6, z7⟩ := F_z
  unfold F.e2
  by_cases hd : 0 ≤ d
  · rw [decide_eq_true hd, cond_true, F.pl_2, F.dt_sz hd h]; omega
  · rw [decide_eq_false hd, cond_false]; omega

theorem F.eq_3 (s key : ByteArray) {ky : ByteArray} (h : ky.size ≤ 40) : (F.e3 s key ky).size ≤ s.size + 46 := by
  obtain ⟨z1, z2, z3, z4, z5, z6, z7⟩ := F_z
  have hs : (F.dsh ky).size ≤ 40 := by
    unfold F.dsh
    cases F.seq ky ⟨⟨[]⟩⟩
    · exact h
    · show F.dash.size ≤ 40
      omega
  unfold F.e3
  cases F.seq ky key
  · rw [cond_false, F.pl_2]; omega
  · rw [cond_true]; omega

def encXln1 (e : Ent) (key : ByteArray) : List AV := [.agg (eEnt e), vS key]

def encXln (a : Ent × ByteArray) : List AV := encXln1 a.1 a.2

theorem encXln_inj (a a' : Ent × ByteArray) (h : encXln a = encXln a') : a = a' := by
  simp only [encXln, encXln1] at h
  try simp [strs_inj, ints_inj, ents_inj, eEnt_iff, eLst_iff, eSnds_inj, eStrms_inj] at h
  grind

theorem unXln (e : Ent) (key : ByteArray) : unenc encXln ([AV.agg [(vS e.uri), (vI e.milli), (vB e.brk), (vI e.date), (vS e.key), (vB e.gap), AV.sl (List.map eStr e.extra)], (vS key)]) = some (e, key) := unenc_of encXln_inj (e, key) rfl

theorem unXlnw (e_uri : ByteArray) (e_milli : Int) (e_brk : Bool) (e_date : Int) (e_key : ByteArray) (e_gap : Bool) (e_extra : List ByteArray) (key : ByteArray) : unenc encXln ([AV.agg [(vS e_uri), (vI e_milli), (vB e_brk), (vI e_date), (vS e_key), (vB e_gap), AV.sl (List.map eStr e_extra)], (vS key)]) = some ((Ent.mk e_uri e_milli e_brk e_date e_key e_gap e_extra), key) := unenc_of encXln_inj ((Ent.mk e_uri e_milli e_brk e_date e_key e_gap e_extra), key) rfl

def resXln1 (e : Ent) (key : ByteArray) : AV × Heap := (vS (F.bE ⟨⟨[]⟩⟩ key e), [])

def preXln1 (e : Ent) (key : ByteArray) : Bool := F.lnW e

noncomputable def oXln : Orc := orc 56 true encXln (fun a => preXln1 a.1 a.2) fun a => resXln1 a.1 a.2

theorem okXln : OrcOK Tryz.prog noG oXln := by
  refine orc_ok ⟨Tryz.f56, by kernel_rfl, by kernel_rfl, by kernel_rfl⟩ (fun a hp hok => ?_) (fun _ _ => ⟨rfl, rfl⟩)
  obtain ⟨⟨u, m, br, d, ky, g, x⟩, key⟩ := a
  have hp : (decide (0 ≤ m) && decide (m ≤ 3600000) && decide (d ≤ 253402300799999) && decide (x.length ≤ 1000) && decide (u.size ≤ 200) && decide (ky.size ≤ 40) && decide ((F.tX ⟨⟨[]⟩⟩ x).size ≤ 10000)) = true := hp
  simp only [Bool.and_eq_true, decide_eq_true_eq] at hp
  obtain ⟨⟨⟨⟨⟨⟨m1, m2⟩, m3⟩, m4⟩, u1⟩, k1⟩, x1⟩ := hp
  refine runC_sound (E := enXln) enXln_ok (fn := Tryz.f56) (c := codeOf Tryz.f56) (by kernel_rfl) (by kernel_rfl) (by kernel_rfl) (keep := false) (args := encXln (⟨u, m, br, d, ky, g, x⟩, key)) (s2 := ⟨[(4, vS (F.bE ⟨⟨[]⟩⟩ key ⟨u, m, br, d, ky, g, x⟩))], []⟩) (xs := [vS (F.bE ⟨⟨[]⟩⟩ key ⟨u, m, br, d, ky, g, x⟩)]) (fun w S _ N a w' hdN rel Q hQ' => ?_) (by kernel_rfl) (by kernel_rfl)
  have s1 := F.eq_1 (F.tX ⟨⟨[]⟩⟩ x) br
  have s2 := F.eq_2 (F.e1 (F.tX ⟨⟨[]⟩⟩ x) br) m3
  have s3 := F.eq_3 (F.e2 (F.e1 (F.tX ⟨⟨[]⟩⟩ x) br) d) key k1
  refine cut_wp enXln_ok mixed loopsX (n := 5) (by kernel_rfl) (fun x hx => hx) hdN (preX1 (u := u) (m := m) (br := br) (ky := ky) (g := g) (key := key) m3 m4 x1) rfl rel fun a1 w1 r1 l1 d1 => ?_
  refine cut_wp enXln_ok mixed loopsX (n := 1) (by kernel_rfl) l1 d1 (preX2 (u := u) (m := m) (br := br) (d := d) (g := g) (x := x) (key := key) k1 (by omega)) rfl r1 fun a2 w2 r2 l2 d2 => ?_
  exact cut_end enXln_ok mixed loopsX l2 d2 (preX3 (br := br) (d := d) (ky := ky) (x := x) (key := key) m1 m2 (by omega) u1) rfl r2 hQ'

end M
end Go.Proofs.YtajmdlpanlbnjaaGreatDoor

namespace Go.Proofs.YtajmdlpanlbnjaaGreatDoor
open Go Go.RowKit
set_option linter.unusedVariables false
set_option linter.unusedSimpArgs false
set_option maxHeartbeats 1000000

namespace M

def stXe (t : Int) (f : Int) (b : Int) (es : List Ent) (en : Bool) (s : ByteArray) (key : ByteArray) (i : Nat) : St := ⟨[(7, vI i), (6, vS key), (5, vS s), (2, .ptr 2 0 0)], [(2, ⟨true, 0, 0, [[vI t, vI f, vI b, .sl (es.map eEnt), vB en]]⟩)]⟩

def stXe1 (a : Int × Int × Int × (List Ent) × Bool × ByteArray × ByteArray × Nat) : St := stXe a.1 a.2.1 a.2.2.1 a.2.2.2.1 a.2.2.2.2.1 a.2.2.2.2.2.1 a.2.2.2.2.2.2.1 a.2.2.2.2.2.2.2

theorem stXe_inj (a a' : Int × Int × Int × (List Ent) × Bool × ByteArray × ByteArray × Nat) (h : stXe1 a = stXe1 a') : a = a' := by
  simp only [stXe1, stXe] at h
  try simp [strs_inj, ints_inj, ents_inj, eEnt_iff, eLst_iff, eSnds_inj, eStrms_inj] at h
  grind

theorem unstXe (t : Int) (f : Int) (b : Int) (es : List Ent) (en : Bool) (s : ByteArray) (key : ByteArray) (i : Nat) : unenc stXe1 (St.mk [(7, (vI (↑i : Int))), (6, (vS key)), (5, (vS s)), (2, .ptr 2 0 0)] [(2, Blk.mk true 0 0 [[(vI t), (vI f), (vI b), AV.sl (List.map eEnt es), (vB en)]])]) = some (t, f, b, es, en, s, key, i) := unenc_of stXe_inj (t, f, b, es, en, s, key, i) rfl

theorem unstXe0 (t : Int) (f : Int) (b : Int) (es : List Ent) (en : Bool) (s : ByteArray)  : unenc stXe1 (St.mk [(7, (vI (0 : Int))), (6, (vS (ByteArray.mk (Array.mk [])))), (5, (vS s)), (2, .ptr 2 0 0)] [(2, Blk.mk true 0 0 [[(vI t), (vI f), (vI b), AV.sl (List.map eEnt es),
  (vB en)]])]) = some (t, f, b, es, en, s, ⟨⟨[]⟩⟩, 0) := unenc_of stXe_inj (t, f, b, es, en, s, ⟨⟨[]⟩⟩, 0) rfl

def outXe (t : Int) (f : Int) (b : Int) (es : List Ent) (en : Bool) (s : ByteArray) (key : ByteArray) (i : Nat) : T (Ex × St) := .ret (.exit 0, ⟨[(5, vS (F.tE s key (es.drop i))), (2, .ptr 2 0 0)], [(2, ⟨true, 0, 0, [[vI t, vI f, vI b, .sl (es.map eEnt), vB en]]⟩)]⟩)

noncomputable def prlXe (t : Int) (f : Int) (b : Int) (es : List Ent) (en : Bool) (s : ByteArray) (key : ByteArray) (i : Nat) : Bool := decide (es.length ≤ 1000) && decide (i ≤ es.length) && es.all F.lnW && F.tEB s key (es.drop i)

noncomputable def lpXe : Nat × (St → T (Ex × St)) := (4, lpo [7, 6, 5, 2] [2] stXe1 (fun a => prlXe a.1 a.2.1 a.2.2.1 a.2.2.2.1 a.2.2.2.2.1 a.2.2.2.2.2.1 a.2.2.2.2.2.2.1 a.2.2.2.2.2.2.2) fun a => outXe a.1 a.2.1 a.2.2.1 a.2.2.2.1 a.2.2.2.2.1 a.2.2.2.2.2.1 a.2.2.2.2.2.2.1 a.2.2.2.2.2.2.2)

noncomputable def enXtx : Env := envH ty noG lks [oIta, oXln] [] [] [lpXe]

theorem enXtx_ok : EnvOK Tryz.prog enXtx := by
  refine envH_ok lks_ok ty_ok ?_ ?_
  · simp only [List.forall_mem_cons]
    exact ⟨okIta, okXln, by simp⟩
  · simp

theorem evXeL (t : Int) (f : Int) (b : Int) (es : List Ent) (en : Bool) (s : ByteArray) (key : ByteArray) (i : Nat) : ((exec enXtx (loopN Tryz.f27 0) (stXe t f b es en s key i)).bind (lessX ([7, 6, 5, 2], [2]) ([5, 2], [2]) ([], []))).val =
  (fun (q : Ent) => (fun (q_1 : List (Nat × Blk)) => bif decide ((↑i : Int) < (↑(List.length (List.map eEnt es)) : Int)) then Option.bind (unenc (List.map eEnt) (List.map
  eEnt es)) fun (z : List Ent) => bif decide (i < List.length z) then Option.bind (unenc encXln [AV.agg [(vS (List.getD z i q).uri), (vI (List.getD z i q).milli), (vB
  (List.getD z i q).brk), (vI (List.getD z i q).date), (vS (List.getD z i q).key), (vB (List.getD z i q).gap), AV.sl (List.map eStr (List.getD z i q).extra)], (vS key)]) fun
  (z : Ent × ByteArray) => bif F.lnW z.fst then bif Nat.ble (ByteArray.size s + ByteArray.size (F.bE (ByteArray.mk (Array.mk [])) z.snd z.fst)) (9223372036854775807 : Nat)
  then Option.bind (unenc (List.map eEnt) (List.map eEnt es)) fun (z_1 : List Ent) => bif decide (i < List.length z_1) then some (Ex.normal, St.mk [(7, (vI (IntKind.wrap
  IntKind.i64 ((↑i : Int) + (1 : Int))))), (6, (vS (List.getD z_1 i q).key)), (5, (vS (s ++ F.bE (ByteArray.mk (Array.mk [])) z.snd z.fst))), (2, .ptr 2 0 0)] q_1) else none
  else none else none else none else some (Ex.exit (0 : Nat), St.mk [(5, (vS s)), (2, .ptr 2 0 0)] q_1)) [(2, Blk.mk true 0 0 [[(vI t), (vI f), (vI b), AV.sl (List.map eEnt
  es), (vB en)]])]) (Ent.mk (ByteArray.mk (Array.mk [])) (0 : Int) false (0 : Int) (ByteArray.mk (Array.mk [])) false []) := (execR_bind _ _ _).symm.trans (by kernel_rfl)

theorem lpXe_ok (t : Int) (f : Int) (b : Int) (es : List Ent) (en : Bool) (s : ByteArray) (key : ByteArray) (i : Nat) (hp : prlXe t f b es en s key i = true) : ∀ ex s', (outXe t f b es en s key i).val = some (ex, s') → LoopOK enXtx (loopN Tryz.f27 0) (stXe t f b es en s key i) ex s' := by
  simp only [prlXe, Bool.and_eq_true, decide_eq_true_eq] at hp
  obtain ⟨⟨⟨h1, h2⟩, h4⟩, h3⟩ := hp
  have h3 := F.tEB_iff.1 h3
  refine loop_gen (st := fun p : ByteArray × ByteArray × Nat => stXe t f b es en p.1 p.2.1 p.2.2) (out := fun p => outXe t f b es en p.1 p.2.1 p.2.2) (I := fun p => p.2.2 ≤ es.length ∧ (F.tE p.1 p.2.1 (es.drop p.2.2)).size ≤ 80000000) (n := ([7, 6, 5, 2], [2])) (e := ([5, 2], [2])) (r := ([], [])) (fun p => es.length - p.2.2) ?_ (s, key, i) ⟨h2, h3⟩
  clear h2 h3
  rintro ⟨s, key, i⟩ ⟨h2, h3⟩
  simp only at h2 h3
  by_cases hlt : i < es.length
  · have hy : es[i]? = some es[i] := List.getElem?_eq_getElem hlt
    have hmem : es[i] ∈ es := List.getElem_mem hlt
    generalize es[i] = y at hy hmem
    have hdd := drop_y hy
    rw [hdd, F.tE] at h3
    have hw : F.lnW y = true := List.all_eq_true.1 h4 y hmem
    have hE := F.tE_le (es.drop (i + 1)) (F.bE s key y) y.key
    have hn := F.bE_nil s key y
    have hz : (s ++ F.bE ⟨⟨[]⟩⟩ key y).size = s.size + (F.bE ⟨⟨[]⟩⟩ key y).size := ByteArray.size_append
    rw [hn] at hz
    have hi : idx (i : Int) = some i := rfl
    right
    refine ⟨(F.bE s key y, y.key, i + 1), ?_, rfl, ⟨hlt, h3⟩, by simp only; omega, ?_⟩
    · rw [evXeL]
      simp only [unIta, unXln, unXlnw, preIta1, preXln1, unstXe, unstXe0, prlXe, outXe, etaEnt, etaLst, etaSnd, etaStrm, etaMas, Option.bind_some, List.length_map, unStrs, unInts, unBools, unEnts, unItms, unTrns, cond_true, cond_false, Bool.and_true, Bool.true_and, cast_lt hlt, decide_eq_true hlt, hi, getD_at hy, hw]
      rw [ble_t (by omega), hn, next_at hlt (by omega : es.length ≤ 9223372036854775807)]
      rfl
    · simp only [outXe, hdd, F.tE]
  · have : i = es.length := by omega
    subst this
    left
    refine ⟨(.exit 0, ⟨[(5, vS s), (2, .ptr 2 0 0)], [(2, ⟨true, 0, 0, [[vI t, vI f, vI b, .sl (es.map eEnt), vB en]]⟩)]⟩), ?_, ?_, by simp, rfl⟩
    · rw [evXeL]
      simp
    · simp only [outXe, List.drop_length, F.tE]
      rfl

theorem evXtx (l : Lst) (x : ByteArray) : (runF enXtx false Tryz.f27 [.agg (eLst l), vS x]).val =
  (fun (q : ByteArray) => (fun (q_1 : ByteArray) => (fun (q_2 : ByteArray) => (fun (q_3 : ByteArray) => Option.bind (unenc encIta [(vI l.target)]) fun (z : Int) => (fun (q_4
  : ByteArray) => bif decide ((-9223372036854775808 : Int) ≤ z) && decide (z ≤ (9223372036854775807 : Int)) then bif Nat.ble (ByteArray.size q_3 + ByteArray.size (F.itoa z))
  (9223372036854775807 : Nat) then bif Nat.ble (ByteArray.size (q_3 ++ F.itoa z) + ByteArray.size q_1) (9223372036854775807 : Nat) then Option.bind (unenc encIta [(vI
  l.first)]) fun (z : Int) => bif decide ((-9223372036854775808 : Int) ≤ z) && decide (z ≤ (9223372036854775807 : Int)) then bif Nat.ble (ByteArray.size q_4 + ByteArray.size
  (F.itoa z)) (9223372036854775807 : Nat) then bif Nat.ble (ByteArray.size (q_4 ++ F.itoa z) + ByteArray.size q_2) (9223372036854775807 : Nat) then Option.bind (unenc encIta
  [(vI l.breaks)]) fun (z_1 : Int) => bif decide ((-9223372036854775808 : Int) ≤ z_1) && decide (z_1 ≤ (9223372036854775807 : Int)) then bif Nat.ble (ByteArray.size (q_4 ++
  F.itoa z ++ q_2) + ByteArray.size (F.itoa z_1)) (9223372036854775807 : Nat) then bif Nat.ble (ByteArray.size (q_4 ++ F.itoa z ++ q_2 ++ F.itoa z_1) + ByteArray.size
  (ByteArray.mk (Array.mk [(10 : UInt8)]))) (9223372036854775807 : Nat) then bif Nat.ble (ByteArray.size (q_4 ++ F.itoa z ++ q_2 ++ F.itoa z_1 ++ ByteArray.mk (Array.mk [(10
  : UInt8)])) + ByteArray.size x) (9223372036854775807 : Nat) then Option.bind (unenc stXe1 (St.mk [(7, (vI (0 : Int))), (6, (vS (ByteArray.mk (Array.mk [])))), (5, (vS (q_4
  ++ F.itoa z ++ q_2 ++ F.itoa z_1 ++ ByteArray.mk (Array.mk [(10 : UInt8)]) ++ x))), (2, .ptr 2 0 0)] [(2, Blk.mk true 0 0 [[(vI l.target), (vI l.first), (vI l.breaks),
  AV.sl (List.map eEnt l.entries), (vB l.ended)]])])) fun (z : Int × Int × Int × List Ent × Bool × ByteArray × ByteArray × Nat) => (fun (q_5 : Nat) => (fun (q_6 : Nat) =>
  (fun (q_7 : ByteArray) => bif decide (q_5 ≤ (1000 : Nat)) && decide (q_6 ≤ q_5) && List.all z.snd.snd.snd.fst F.lnW && F.tEB z.snd.snd.snd.snd.snd.fst
  z.snd.snd.snd.snd.snd.snd.fst (List.drop q_6 z.snd.snd.snd.fst) && true then bif z.snd.snd.snd.snd.fst then bif Nat.ble (ByteArray.size q_7 + ByteArray.size q)
  (9223372036854775807 : Nat) then some ((vS (q_7 ++ q)), []) else none else some ((vS q_7), []) else none) (F.tE z.snd.snd.snd.snd.snd.fst z.snd.snd.snd.snd.snd.snd.fst
  (List.drop q_6 z.snd.snd.snd.fst))) z.snd.snd.snd.snd.snd.snd.snd) (List.length z.snd.snd.snd.fst) else none else none else none else none else none else none else none
  else none else none else none) (q_3 ++ F.itoa z ++ q_1)) (ByteArray.mk (Array.mk [(35 : UInt8), (76 : UInt8), (73 : UInt8), (83 : UInt8), (84 : UInt8), (10 : UInt8), (35 :
  UInt8), (84 : UInt8), (65 : UInt8), (82 : UInt8), (71 : UInt8), (69 : UInt8), (84 : UInt8), (32 : UInt8)]))) (ByteArray.mk (Array.mk [(10 : UInt8), (35 : UInt8), (66 :
  UInt8), (82 : UInt8), (69 : UInt8), (65 : UInt8), (75 : UInt8), (83 : UInt8), (32 : UInt8)]))) (ByteArray.mk (Array.mk [(10 : UInt8), (35 : UInt8), (70 : UInt8), (73 :
  UInt8), (82 : UInt8), (83 : UInt8), (84 : UInt8), (32 : UInt8)]))) (ByteArray.mk (Array.mk [(35 : UInt8), (69 : UInt8), (78 : UInt8), (68 : UInt8), (10 : UInt8)])) := (runFR_val).symm.trans (by kernel_rfl)

def encXtx1 (l : Lst) (x : ByteArray) : List AV := [.agg (eLst l), vS x]

def encXtx (a : Lst × ByteArray) : List AV := encXtx1 a.1 a.2

theorem encXtx_inj (a a' : Lst × ByteArray) (h : encXtx a = encXtx a') : a = a' := by
  simp only [encXtx, encXtx1] at h
  try simp [strs_inj, ints_inj, ents_inj, eEnt_iff, eLst_iff, eSnds_inj, eStrms_inj] at h
  grind

theorem unXtx (l : Lst) (x : ByteArray) : unenc encXtx ([AV.agg [(vI l.target), (vI l.first), (vI l.breaks), AV.sl (List.map eEnt l.entries), (vB l.ended)], (vS x)]) = some (l, x) := unenc_of encXtx_inj (l, x) rfl

theorem unXtxw (l_target : Int) (l_first : Int) (l_breaks : Int) (l_entries : List Ent) (l_ended : Bool) (x : ByteArray) : unenc encXtx ([AV.agg [(vI l_target), (vI l_first), (vI l_breaks), AV.sl (List.map eEnt l_entries), (vB l_ended)], (vS x)]) = some ((Lst.mk l_target l_first l_breaks l_entries l_ended), x) := unenc_of encXtx_inj ((Lst.mk l_target l_first l_breaks l_entries l_ended), x) rfl

def resXtx1 (l : Lst) (x : ByteArray) : AV × Heap := (vS (F.ltB l x), [])

def preXtx1 (l : Lst) (x : ByteArray) : Bool := decide (F.check l = 0) && decide (x.size ≤ 100)

noncomputable def oXtx : Orc := orc 27 true encXtx (fun a => preXtx1 a.1 a.2) fun a => resXtx1 a.1 a.2

theorem okXtx : OrcOK Tryz.prog noG oXtx := by
  refine mk_ok Tryz.f27 (keep := false) (by kernel_rfl) (by kernel_rfl) enXtx_ok mixed (one_loop (x0 := loopN Tryz.f27 0) (by kernel_rfl) (lpo_ok ?_)) (by first | exact fun _ _ => ⟨rfl, rfl⟩ | (intro h; cases h)) ?_
  · rintro ⟨t, f, b, es, en, s, key, i⟩ hp
    exact lpXe_ok t f b es en s key i hp
  rintro ⟨l, x⟩ hpre hok
  show (runF enXtx false _ (encXtx1 _ _)).val = some (resXtx1 _ _)
  unfold encXtx1 resXtx1
  rw [evXtx]
  simp only [preXtx1, Bool.and_eq_true, decide_eq_true_eq] at hpre
  obtain ⟨hc, hx⟩ := hpre
  obtain ⟨c1, c2, c3, c4, c5, c6, c7⟩ := F.checkW_ok hc
  obtain ⟨s1, s2⟩ := F.check_sz hc
  obtain ⟨s3, s4⟩ := F.hd3_sz hc
  simp only [unIta, unXln, unXlnw, preIta1, preXln1, unstXe, unstXe0, prlXe, outXe, etaEnt, etaLst, etaSnd, etaStrm, etaMas, Option.bind_some, List.length_map, unStrs, unInts, unBools, unEnts, unItms, unTrns, cond_true, cond_false, Bool.and_true, Bool.true_and, List.drop_zero]
  have qA : (⟨⟨[35, 76, 73, 83, 84, 10, 35, 84, 65, 82, 71, 69, 84, 32]⟩⟩ : ByteArray) = F.h0 ++ F.xTg := rfl
  have qB : (⟨⟨[10, 35, 70, 73, 82, 83, 84, 32]⟩⟩ : ByteArray) = ⟨⟨[10]⟩⟩ ++ F.xFi := rfl
  have qC : (⟨⟨[10, 35, 66, 82, 69, 65, 75, 83, 32]⟩⟩ : ByteArray) = ⟨⟨[10]⟩⟩ ++ F.xBr := rfl
  have qE : (⟨⟨[35, 69, 78, 68, 10]⟩⟩ : ByteArray) = F.kEnd ++ ⟨⟨[10]⟩⟩ := rfl
  have zA : F.h0.size = 6 := rfl
  have z1 : F.xTg.size = 8 := rfl
  have z2 : F.xFi.size = 7 := rfl
  have z3 : F.xBr.size = 8 := rfl
  have z4 : F.kEnd.size = 4 := rfl
  have z5 : (⟨⟨[10]⟩⟩ : ByteArray).size = 1 := rfl
  have eH : F.h0 ++ F.xTg ++ F.itoa l.target ++ (⟨⟨[10]⟩⟩ ++ F.xFi) ++ F.itoa l.first ++ (⟨⟨[10]⟩⟩ ++ F.xBr) ++ F.itoa l.breaks ++ ⟨⟨[10]⟩⟩ = F.hd3 l := by
    unfold F.hd3 F.pl
    simp only [F.cat, ByteArray.append_assoc]
  have hT := F.tE_sz l.entries (F.hd3 l ++ x) ⟨⟨[]⟩⟩ s2
  have fE : F.tE (F.hd3 l ++ x) ⟨⟨[]⟩⟩ l.entries = F.ltE l x := rfl
  have hz : (F.hd3 l ++ x).size = (F.hd3 l).size + x.size := ByteArray.size_append
  rw [fE, hz] at hT
  have P : F.tEB (F.hd3 l ++ x) ⟨⟨[]⟩⟩ l.entries = true := F.tEB_iff.2 (by rw [fE]; omega)
  have hw : l.entries.all F.lnW = true := List.all_eq_true.2 fun e he => F.lnW_of (s2 e he).1 (s2 e he).2
  have t1 := F.itoa_size (n := l.target) (by omega) (by omega)
  have t2 := F.itoa_size (n := l.first) (by omega) (by omega)
  have t3 := F.itoa_size (n := l.breaks) (by omega) (by omega)
  rw [qA, qB, qC, qE, eH, P, hw, fE, decide_eq_true s1, decide_eq_true (Nat.zero_le l.entries.length)]
  rw [decide_eq_true (by omega : -9223372036854775808 ≤ l.target), decide_eq_true (by omega : l.target ≤ 9223372036854775807), decide_eq_true (by omega : -9223372036854775808 ≤ l.first), decide_eq_true (by omega : l.first ≤ 9223372036854775807), decide_eq_true (by omega : -9223372036854775808 ≤ l.breaks), decide_eq_true (by omega : l.breaks ≤ 9223372036854775807)]
  simp (disch := omega) only [ByteArray.size_append, zA, z1, z2, z3, z4, z5, ble_t, Bool.and_self, Bool.and_true, cond_true]
  unfold F.ltB F.pl
  cases l.ended
  · rfl
  · simp only [cond_true, F.cat, ByteArray.append_assoc]

noncomputable def enXte : Env := envH ty noG lks [oRChk, oXtx] [] [] []

theorem enXte_ok : EnvOK Tryz.prog enXte := by
  refine envH_ok lks_ok ty_ok ?_ ?_
  · simp only [List.forall_mem_cons]
    exact ⟨okRChk, okXtx, by simp⟩
  · simp

theorem evXte (l : Lst) : (runF enXte false Tryz.f7 [.agg (eLst l)]).val =
  Option.bind (unenc encRChk [AV.agg [(vI l.target), (vI l.first), (vI l.breaks), AV.sl (List.map eEnt l.entries), (vB l.ended)]]) fun (z : Lst) => bif F.check z != (0 :
  Int) then some (AV.tup [(vS (ByteArray.mk (Array.mk []))), (vI (F.check z))], []) else Option.bind (unenc encXtx [AV.agg [(vI l.target), (vI l.first), (vI l.breaks), AV.sl
  (List.map eEnt l.entries), (vB l.ended)], (vS (ByteArray.mk (Array.mk [])))]) fun (z : Lst × ByteArray) => bif decide (F.check z.fst = (0 : Int)) && decide (ByteArray.size
  z.snd ≤ (100 : Nat)) then bif decide ((500000 : Int) < (↑(ByteArray.size (F.ltB z.fst z.snd)) : Int)) then some (AV.tup [(vS (ByteArray.mk (Array.mk []))), (vI (2 :
  Int))], []) else some (AV.tup [(vS (F.ltB z.fst z.snd)), (vI (0 : Int))], []) else none := (runFR_val).symm.trans (by kernel_rfl)

def encXte1 (l : Lst) : List AV := [.agg (eLst l)]

def encXte (a : Lst) : List AV := encXte1 a

theorem encXte_inj (a a' : Lst) (h : encXte a = encXte a') : a = a' := by
  simp only [encXte, encXte1] at h
  try simp [strs_inj, ints_inj, ents_inj, eEnt_iff, eLst_iff, eSnds_inj, eStrms_inj] at h
  grind

theorem unXte (l : Lst) : unenc encXte ([AV.agg [(vI l.target), (vI l.first), (vI l.breaks), AV.sl (List.map eEnt l.entries), (vB l.ended)]]) = some (l) := unenc_of encXte_inj (l) rfl

theorem unXtew (l_target : Int) (l_first : Int) (l_breaks : Int) (l_entries : List Ent) (l_ended : Bool) : unenc encXte ([AV.agg [(vI l_target), (vI l_first), (vI l_breaks), AV.sl (List.map eEnt l_entries), (vB l_ended)]]) = some ((Lst.mk l_target l_first l_breaks l_entries l_ended)) := unenc_of encXte_inj ((Lst.mk l_target l_first l_breaks l_entries l_ended)) rfl

def resXte1 (l : Lst) : AV × Heap := (.tup [vS (F.txt l).1, vI (F.txt l).2], [])

def preXte1 (l : Lst) : Bool := true

noncomputable def oXte : Orc := orc 7 true encXte (fun a => preXte1 a) fun a => resXte1 a

theorem okXte : OrcOK Tryz.prog noG oXte := by
  refine mk_ok Tryz.f7 (keep := false) (by kernel_rfl) (by kernel_rfl) enXte_ok mixed (no_loops (by kernel_rfl)) (by first | exact fun _ _ => ⟨rfl, rfl⟩ | (intro h; cases h)) ?_
  rintro l hpre hok
  show (runF enXte false _ (encXte1 _)).val = some (resXte1 _)
  unfold encXte1 resXte1
  rw [evXte]
  have z0 : decide ((⟨⟨[]⟩⟩ : ByteArray).size ≤ 100) = true := rfl
  have e1 : decide ((500000 : Int) < ((F.ltB l ⟨⟨[]⟩⟩).size : Int)) = decide (500000 < (F.ltB l ⟨⟨[]⟩⟩).size) := decide_eq_decide.2 (by omega)
  simp only [unRChk, unXtx, unRChkw, unXtxw, preRChk1, preXtx1, etaEnt, etaLst, etaSnd, etaStrm, etaMas, Option.bind_some, List.length_map, unStrs, unInts, unBools, unEnts, unItms, unTrns, cond_true, cond_false, Bool.and_true, Bool.true_and, z0, e1]
  unfold F.txt
  by_cases hc : F.check l = 0
  · rw [show (F.check l != 0) = false by simp [hc], decide_eq_true hc]
    cases decide (500000 < (F.ltB l ⟨⟨[]⟩⟩).size) <;> rfl
  · rw [show (F.check l != 0) = true by simp [hc]]
    rfl

end M
end Go.Proofs.YtajmdlpanlbnjaaGreatDoor

namespace Go.Proofs.YtajmdlpanlbnjaaGreatDoor
open Go Go.RowKit
set_option linter.unusedVariables false
set_option linter.unusedSimpArgs false

def F.length (l : Lst) : Int × Int := if F.check l ≠ 0 then (0, F.check l) else (F.lenF 0 l.entries, 0)

namespace M

noncomputable def enLng : Env := envH ty noG lks [oChk, oLen] [] [] []

theorem enLng_ok : EnvOK Tryz.prog enLng := by
  refine envH_ok lks_ok ty_ok ?_ ?_
  · simp only [List.forall_mem_cons]
    exact ⟨okChk, okLen, by simp⟩
  · simp

theorem evLng (l : Lst) : (runF enLng false Tryz.f10 [.agg (eLst l)]).val =
  Option.bind (unenc encChk [AV.agg [(vI l.target), (vI l.first), (vI l.breaks), AV.sl (List.map eEnt l.entries), (vB l.ended)]]) fun (z : Lst) => bif F.check z != (0 : Int)
  then some (AV.tup [(vI (0 : Int)), (vI (F.check z))], []) else Option.bind (unenc encLen [AV.agg [(vI l.target), (vI l.first), (vI l.breaks), AV.sl (List.map eEnt
  l.entries), (vB l.ended)]]) fun (z : Lst) => some (AV.tup [(vI (F.lenF (0 : Int) z.entries)), (vI (0 : Int))], []) := by kernel_rfl

def encLng1 (l : Lst) : List AV := [.agg (eLst l)]

def encLng (a : Lst) : List AV := encLng1 a

theorem encLng_inj (a a' : Lst) (h : encLng a = encLng a') : a = a' := by
  simp only [encLng, encLng1] at h
  try simp [strs_inj, ents_inj, eEnt_iff, eLst_iff] at h
  grind

theorem unLng (l : Lst) : unenc encLng ([AV.agg [(vI l.target), (vI l.first), (vI l.breaks), AV.sl (List.map eEnt l.entries), (vB l.ended)]]) = some (l) := unenc_of encLng_inj (l) rfl

theorem unLngw (l_target : Int) (l_first : Int) (l_breaks : Int) (l_entries : List Ent) (l_ended : Bool) : unenc encLng ([AV.agg [(vI l_target), (vI l_first), (vI l_breaks), AV.sl (List.map eEnt l_entries), (vB l_ended)]]) = some ((Lst.mk l_target l_first l_breaks l_entries l_ended)) := unenc_of encLng_inj ((Lst.mk l_target l_first l_breaks l_entries l_ended)) rfl

def resLng1 (l : Lst) : AV × Heap := (.tup [vI (F.length l).1, vI (F.length l).2], [])

def preLng1 (l : Lst) : Bool := true

noncomputable def oLng : Orc := orc 10 true encLng (fun a => preLng1 a) fun a => resLng1 a

theorem okLng : OrcOK Tryz.prog noG oLng := by
  refine mk_ok Tryz.f10 (keep := false) (by kernel_rfl) (by kernel_rfl) enLng_ok mixed (no_loops (by kernel_rfl)) (by first | exact fun _ _ => ⟨rfl, rfl⟩ | (intro h; cases h)) ?_
  rintro l hpre hok
  show (runF enLng false _ (encLng1 _)).val = some (resLng1 _)
  unfold encLng1 resLng1
  rw [evLng]
  simp only [unChk, unLen, unChkw, unLenw, preChk1, preLen1, etaEnt, etaLst, Option.bind_some, List.length_map, unStrs, unInts, unBools, unEnts, unItms, unTrns, cond_true, cond_false, Bool.and_true, Bool.true_and]
  by_cases h0 : F.check l = 0
  · simp only [F.length, h0, bne_self_eq_false, cond_false, ne_eq, not_true_eq_false, if_false]
  · have hb : (F.check l != 0) = true := by simp [h0]
    simp only [hb, cond_true, F.length, h0, if_true, ne_eq, not_false_eq_true]

noncomputable def enAwk : Env := envH ty noG lks [oLng] [] [] []

theorem enAwk_ok : EnvOK Tryz.prog enAwk := by
  refine envH_ok lks_ok ty_ok ?_ ?_
  · simp only [List.forall_mem_cons]
    exact ⟨okLng, by simp⟩
  · simp

def awL : Lst := ⟨4, 0, 0, [⟨⟨#[97]⟩, 7, false, -1, ⟨#[]⟩, false, []⟩], false⟩

theorem awL_len : F.length awL = (7, 0) := by kernel_rfl

theorem evAwk  : (runF enAwk false Tryz.f15 []).val =
  Option.bind (unenc encLng [AV.agg [(vI (4 : Int)), (vI (0 : Int)), (vI (0 : Int)), AV.sl [[(vS (ByteArray.mk (Array.mk [(97 : UInt8)]))), (vI (7 : Int)), (vB false), (vI
  (-1 : Int)), (vS (ByteArray.mk (Array.mk []))), (vB false), AV.sl []]], (vB false)]]) fun (z : Lst) => some ((vB (bif (F.length z).snd == (0 : Int) then (F.length z).fst
  == (7 : Int) else false)), []) := by kernel_rfl

def encAwk1  : List AV := []

def encAwk (a : Unit) : List AV := encAwk1

theorem encAwk_inj (a a' : Unit) (h : encAwk a = encAwk a') : a = a' := rfl

theorem unAwk  : unenc encAwk ([]) = some () := unenc_of encAwk_inj () rfl

def resAwk1  : AV × Heap := (vB true, [])

def preAwk1  : Bool := true

noncomputable def oAwk : Orc := orc 15 true encAwk (fun a => preAwk1) fun a => resAwk1

theorem okAwk : OrcOK Tryz.prog noG oAwk := by
  refine mk_ok Tryz.f15 (keep := false) (by kernel_rfl) (by kernel_rfl) enAwk_ok mixed (no_loops (by kernel_rfl)) (by first | exact fun _ _ => ⟨rfl, rfl⟩ | (intro h; cases h)) ?_
  rintro ⟨⟩ hpre hok
  show (runF enAwk false _ (encAwk1 )).val = some (resAwk1 )
  unfold encAwk1 resAwk1
  rw [evAwk]
  show (Option.bind (unenc encLng (encLng awL)) _ : Option (AV × Heap)) = _
  rw [unenc_of encLng_inj awL rfl, Option.bind_some, awL_len]
  rfl

end M
end Go.Proofs.YtajmdlpanlbnjaaGreatDoor

namespace Go.Proofs.YtajmdlpanlbnjaaGreatDoor
open Go Go.RowKit
set_option linter.unusedVariables false
set_option linter.unusedSimpArgs false
set_option maxHeartbeats 1000000

def F.eqL {α : Type} (f : α → α → Bool) (a b : List α) : Bool := decide (a.length = b.length) && (a.zip b).all fun p => f p.1 p.2

theorem F.eqL_refl : ∀ (a : List Int), F.eqL (fun a b : Int => a == b) a a = true := by
  intro a
  unfold F.eqL
  rw [decide_eq_true rfl, Bool.true_and]
  induction a with
  | nil => rfl
  | cons x a ih => simp only [List.zip_cons_cons, List.all_cons, beq_self_eq_true, Bool.true_and]; exact ih

namespace M

theorem len_eq (a b : Nat) : (((a : Nat) : Int) == ((b : Nat) : Int)) = decide (a = b) := by
  by_cases h : a = b
  · subst h; simp
  · rw [decide_eq_false h]; simp; omega

def stEqI (xs : List Int) (ys : List Int) (k : Nat) : St := ⟨[(13, vI k), (12, vI xs.length), (1, .sl (ys.map eI)), (0, .sl (xs.map eI))], []⟩

def stEqI1 (a : (List Int) × (List Int) × Nat) : St := stEqI a.1 a.2.1 a.2.2

theorem stEqI_inj (a a' : (List Int) × (List Int) × Nat) (h : stEqI1 a = stEqI1 a') : a = a' := by
  simp only [stEqI1, stEqI] at h
  try simp [strs_inj, ints_inj, ents_inj, eEnt_iff, eLst_iff] at h
  grind

theorem unstEqI (xs : List Int) (ys : List Int) (k : Nat) : unenc stEqI1 (St.mk [(13, (vI (↑k : Int))), (12, (vI (↑(List.length xs) : Int))), (1, AV.sl (List.map eI ys)), (0, AV.sl (List.map eI xs))] []) = some (xs, ys, k) := unenc_of stEqI_inj (xs, ys, k) rfl

theorem unstEqI0 (xs : List Int) (ys : List Int)  : unenc stEqI1 (St.mk [(13, (vI (0 : Int))), (12, (vI (↑(List.length xs) : Int))), (1, AV.sl (List.map eI ys)), (0, AV.sl (List.map eI xs))] []) = some (xs, ys, 0) := unenc_of stEqI_inj (xs, ys, 0) rfl

def outEqI (xs : List Int) (ys : List Int) (k : Nat) : T (Ex × St) := .ifB (((xs.zip ys).drop k).all fun p => (fun a b : Int => a == b) p.1 p.2) (.ret (.exit 0, ⟨[], []⟩)) (.ret (.ret, ⟨[(4, vB false)], []⟩))

noncomputable def prlEqI (xs : List Int) (ys : List Int) (k : Nat) : Bool := decide (xs.length ≤ 9223372036854775807) && decide (k ≤ xs.length) && decide (xs.length = ys.length)

noncomputable def lpEqI : Nat × (St → T (Ex × St)) := (4, lpo [13, 12, 1, 0] [] stEqI1 (fun a => prlEqI a.1 a.2.1 a.2.2) fun a => outEqI a.1 a.2.1 a.2.2)

noncomputable def enEqI : Env := envH ty noG lks [] [] [] [lpEqI]

theorem enEqI_ok : EnvOK Tryz.prog enEqI := by
  refine envH_ok lks_ok ty_ok ?_ ?_
  · simp
  · simp

theorem evEqIL (xs : List Int) (ys : List Int) (k : Nat) : ((exec enEqI (loopN Tryz.f14 0) (stEqI xs ys k)).bind (lessX ([13, 12, 1, 0], []) ([], []) ([4], []))).val =
  bif decide ((↑k : Int) < (↑(List.length xs) : Int)) then Option.bind (unenc (List.map eI) (List.map eI xs)) fun (z : List Int) => bif decide (k < List.length z) then
  Option.bind (unenc (List.map eI) (List.map eI ys)) fun (z_1 : List Int) => bif decide (k < List.length z_1) then bif List.getD z k (0 : Int) != List.getD z_1 k (0 : Int)
  then some (Ex.ret, St.mk [(4, (vB false))] []) else some (Ex.normal, St.mk [(13, (vI (IntKind.wrap IntKind.i64 ((↑k : Int) + (1 : Int))))), (12, (vI (↑(List.length xs) :
  Int))), (1, AV.sl (List.map eI ys)), (0, AV.sl (List.map eI xs))] []) else none else none else some (Ex.exit (0 : Nat), St.mk [] []) := by kernel_rfl

theorem lpEqI_ok (xs : List Int) (ys : List Int) (k : Nat) (hp : prlEqI xs ys k = true) : ∀ ex s', (outEqI xs ys k).val = some (ex, s') → LoopOK enEqI (loopN Tryz.f14 0) (stEqI xs ys k) ex s' := by
  simp only [prlEqI, Bool.and_eq_true, decide_eq_true_eq] at hp
  obtain ⟨⟨h1, h2⟩, h3⟩ := hp
  have hz : (xs.zip ys).length = xs.length := by rw [List.length_zip]; omega
  refine loop_all (xs := xs.zip ys) (st := stEqI xs ys) (p := fun p => (fun a b : Int => a == b) p.1 p.2) (n := ([13, 12, 1, 0], [])) (e := ([], [])) (r := ([4], [])) ?_ ⟨by simp, rfl⟩ ⟨by simp, rfl⟩ (fun _ => rfl) ?_ k (by omega)
  · rw [hz]; rw [evEqIL]; simp
  · intro k y hy
    rw [List.getElem?_zip_eq_some] at hy
    obtain ⟨ha, hb⟩ := hy
    have hlt := lt_at ha
    have hlt' := lt_at hb
    rw [evEqIL]
    simp only [unstEqI, unstEqI0, prlEqI, outEqI, etaEnt, etaLst, etaSnd, etaStrm, etaMas, Option.bind_some, List.length_map, unStrs, unInts, unBools, unEnts, unItms, unTrns, cond_true, cond_false, Bool.and_true, Bool.true_and, cast_lt hlt, decide_eq_true hlt, decide_eq_true hlt', next_at hlt h1, getD_at ha, getD_at hb, stEqI, id, bne]
    first | (generalize (_ && _) = b0; cases b0 <;> rfl) | (generalize (_ == _) = b0; cases b0 <;> rfl) | (generalize (y.1 == y.2) = b0; cases b0 <;> rfl)

theorem evEqI (xs : List Int) (ys : List Int) : (runF enEqI false Tryz.f14 [.sl (xs.map eI), .sl (ys.map eI)]).val =
  bif (↑(List.length (List.map eI xs)) : Int) != (↑(List.length (List.map eI ys)) : Int) then some ((vB false), []) else Option.bind (unenc stEqI1 (St.mk [(13, (vI (0 :
  Int))), (12, (vI (↑(List.length (List.map eI xs)) : Int))), (1, AV.sl (List.map eI ys)), (0, AV.sl (List.map eI xs))] [])) fun (z : List Int × List Int × Nat) => bif
  decide (List.length z.fst ≤ (9223372036854775807 : Nat)) && decide (z.snd.snd ≤ List.length z.fst) && decide (List.length z.fst = List.length z.snd.fst) && true then bif
  List.all (List.drop z.snd.snd (List.zip z.fst z.snd.fst)) fun (p : Int × Int) => (fun (a b : Int) => a == b) p.fst p.snd then some ((vB true), []) else some ((vB false),
  []) else none := by kernel_rfl

def encEqI1 (xs : List Int) (ys : List Int) : List AV := [.sl (xs.map eI), .sl (ys.map eI)]

def encEqI (a : (List Int) × (List Int)) : List AV := encEqI1 a.1 a.2

theorem encEqI_inj (a a' : (List Int) × (List Int)) (h : encEqI a = encEqI a') : a = a' := by
  simp only [encEqI, encEqI1] at h
  try simp [strs_inj, ints_inj, ents_inj, eEnt_iff, eLst_iff] at h
  grind

theorem unEqI (xs : List Int) (ys : List Int) : unenc encEqI ([AV.sl (List.map eI xs), AV.sl (List.map eI ys)]) = some (xs, ys) := unenc_of encEqI_inj (xs, ys) rfl

def resEqI1 (xs : List Int) (ys : List Int) : AV × Heap := (vB (F.eqL (fun a b : Int => a == b) xs ys), [])

def preEqI1 (xs : List Int) (ys : List Int) : Bool := true

noncomputable def oEqI : Orc := orc 14 true encEqI (fun a => preEqI1 a.1 a.2) fun a => resEqI1 a.1 a.2

theorem okEqI : OrcOK Tryz.prog noG oEqI := by
  refine mk_ok Tryz.f14 (keep := false) (by kernel_rfl) (by kernel_rfl) enEqI_ok mixed (one_loop (x0 := loopN Tryz.f14 0) (by kernel_rfl) (lpo_ok ?_)) (by first | exact fun _ _ => ⟨rfl, rfl⟩ | (intro h; cases h)) ?_
  · rintro ⟨xs, ys, k⟩ hp
    exact lpEqI_ok xs ys k hp
  rintro ⟨xs, ys⟩ hpre hok
  show (runF enEqI false _ (encEqI1 _ _)).val = some (resEqI1 _ _)
  unfold encEqI1 resEqI1
  rw [evEqI]
  have hx : xs.length ≤ 9223372036854775807 := by simpa using (okA_sl (hok _ (List.mem_cons_self ..))).1
  simp only [unstEqI, unstEqI0, prlEqI, outEqI, etaEnt, etaLst, etaSnd, etaStrm, etaMas, Option.bind_some, List.length_map, unStrs, unInts, unBools, unEnts, unItms, unTrns, cond_true, cond_false, Bool.and_true, Bool.true_and, hx, List.drop_zero, Nat.zero_le, decide_true, len_eq, bne, F.eqL]
  cases h : decide (xs.length = ys.length)
  · rfl
  · simp only [Bool.not_true, cond_false, cond_true, Bool.true_and]
    cases ((xs.zip ys).all fun p => (fun a b : Int => a == b) p.1 p.2) <;> rfl

noncomputable def enDta : Env := envH ty noG lks [oChk, oDts] [] [] []

theorem enDta_ok : EnvOK Tryz.prog enDta := by
  refine envH_ok lks_ok ty_ok ?_ ?_
  · simp only [List.forall_mem_cons]
    exact ⟨okChk, okDts, by simp⟩
  · simp

theorem evDta (l : Lst) : (runF enDta false Tryz.f12 [.agg (eLst l)]).val =
  Option.bind (unenc encChk [AV.agg [(vI l.target), (vI l.first), (vI l.breaks), AV.sl (List.map eEnt l.entries), (vB l.ended)]]) fun (z : Lst) => bif F.check z != (0 : Int)
  then some (AV.tup [AV.sl [], (vI (F.check z))], []) else Option.bind (unenc encDts [AV.agg [(vI l.target), (vI l.first), (vI l.breaks), AV.sl (List.map eEnt l.entries),
  (vB l.ended)]]) fun (z : Lst) => bif decide (F.check z = (0 : Int)) then some (AV.tup [AV.sl (List.map eI (F.datesF z.entries).fst), (vI (F.datesF z.entries).snd)], [])
  else none := by kernel_rfl

def encDta1 (l : Lst) : List AV := [.agg (eLst l)]

def encDta (a : Lst) : List AV := encDta1 a

theorem encDta_inj (a a' : Lst) (h : encDta a = encDta a') : a = a' := by
  simp only [encDta, encDta1] at h
  try simp [strs_inj, ints_inj, ents_inj, eEnt_iff, eLst_iff] at h
  grind

theorem unDta (l : Lst) : unenc encDta ([AV.agg [(vI l.target), (vI l.first), (vI l.breaks), AV.sl (List.map eEnt l.entries), (vB l.ended)]]) = some (l) := unenc_of encDta_inj (l) rfl

theorem unDtaw (l_target : Int) (l_first : Int) (l_breaks : Int) (l_entries : List Ent) (l_ended : Bool) : unenc encDta ([AV.agg [(vI l_target), (vI l_first), (vI l_breaks), AV.sl (List.map eEnt l_entries), (vB l_ended)]]) = some ((Lst.mk l_target l_first l_breaks l_entries l_ended)) := unenc_of encDta_inj ((Lst.mk l_target l_first l_breaks l_entries l_ended)) rfl

def resDta1 (l : Lst) : AV × Heap := (.tup [.sl ((F.dtsR l).1.map eI), vI (F.dtsR l).2], [])

def preDta1 (l : Lst) : Bool := true

noncomputable def oDta : Orc := orc 12 false encDta (fun a => preDta1 a) fun a => resDta1 a

theorem okDta : OrcOK Tryz.prog noG oDta := by
  refine mk_ok Tryz.f12 (keep := false) (by kernel_rfl) (by kernel_rfl) enDta_ok mixed (no_loops (by kernel_rfl)) (by first | exact fun _ _ => ⟨rfl, rfl⟩ | (intro h; cases h)) ?_
  rintro l hpre hok
  show (runF enDta false _ (encDta1 _)).val = some (resDta1 _)
  unfold encDta1 resDta1
  rw [evDta]
  simp only [unChk, unDts, unChkw, unDtsw, preChk1, preDts1, etaEnt, etaLst, etaSnd, etaStrm, etaMas, Option.bind_some, List.length_map, unStrs, unInts, unBools, unEnts, unItms, unTrns, cond_true, cond_false, Bool.and_true, Bool.true_and]
  unfold F.dtsR
  by_cases hc : F.check l = 0
  · rw [show (F.check l != 0) = false by simp [hc], decide_eq_true hc]
    rfl
  · rw [show (F.check l != 0) = true by simp [hc]]
    rfl

noncomputable def enRda : Env := envH ty noG lks [oRChk, oRdt] [] [] []

theorem enRda_ok : EnvOK Tryz.prog enRda := by
  refine envH_ok lks_ok ty_ok ?_ ?_
  · simp only [List.forall_mem_cons]
    exact ⟨okRChk, okRdt, by simp⟩
  · simp

theorem evRda (l : Lst) : (runF enRda false Tryz.f13 [.agg (eLst l)]).val =
  Option.bind (unenc encRChk [AV.agg [(vI l.target), (vI l.first), (vI l.breaks), AV.sl (List.map eEnt l.entries), (vB l.ended)]]) fun (z : Lst) => bif F.check z != (0 :
  Int) then some (AV.tup [AV.sl [], (vI (F.check z))], []) else Option.bind (unenc encRdt [AV.agg [(vI l.target), (vI l.first), (vI l.breaks), AV.sl (List.map eEnt
  l.entries), (vB l.ended)]]) fun (z : Lst) => bif decide (F.check z = (0 : Int)) then some (AV.tup [AV.sl (List.map eI (F.datesF z.entries).fst), (vI (F.datesF
  z.entries).snd)], []) else none := by kernel_rfl

def encRda1 (l : Lst) : List AV := [.agg (eLst l)]

def encRda (a : Lst) : List AV := encRda1 a

theorem encRda_inj (a a' : Lst) (h : encRda a = encRda a') : a = a' := by
  simp only [encRda, encRda1] at h
  try simp [strs_inj, ints_inj, ents_inj, eEnt_iff, eLst_iff] at h
  grind

theorem unRda (l : Lst) : unenc encRda ([AV.agg [(vI l.target), (vI l.first), (vI l.breaks), AV.sl (List.map eEnt l.entries), (vB l.ended)]]) = some (l) := unenc_of encRda_inj (l) rfl

theorem unRdaw (l_target : Int) (l_first : Int) (l_breaks : Int) (l_entries : List Ent) (l_ended : Bool) : unenc encRda ([AV.agg [(vI l_target), (vI l_first), (vI l_breaks), AV.sl (List.map eEnt l_entries), (vB l_ended)]]) = some ((Lst.mk l_target l_first l_breaks l_entries l_ended)) := unenc_of encRda_inj ((Lst.mk l_target l_first l_breaks l_entries l_ended)) rfl

def resRda1 (l : Lst) : AV × Heap := (.tup [.sl ((F.dtsR l).1.map eI), vI (F.dtsR l).2], [])

def preRda1 (l : Lst) : Bool := true

noncomputable def oRda : Orc := orc 13 false encRda (fun a => preRda1 a) fun a => resRda1 a

theorem okRda : OrcOK Tryz.prog noG oRda := by
  refine mk_ok Tryz.f13 (keep := false) (by kernel_rfl) (by kernel_rfl) enRda_ok mixed (no_loops (by kernel_rfl)) (by first | exact fun _ _ => ⟨rfl, rfl⟩ | (intro h; cases h)) ?_
  rintro l hpre hok
  show (runF enRda false _ (encRda1 _)).val = some (resRda1 _)
  unfold encRda1 resRda1
  rw [evRda]
  simp only [unRChk, unRdt, unRChkw, unRdtw, preRChk1, preRdt1, etaEnt, etaLst, etaSnd, etaStrm, etaMas, Option.bind_some, List.length_map, unStrs, unInts, unBools, unEnts, unItms, unTrns, cond_true, cond_false, Bool.and_true, Bool.true_and]
  unfold F.dtsR
  by_cases hc : F.check l = 0
  · rw [show (F.check l != 0) = false by simp [hc], decide_eq_true hc]
    rfl
  · rw [show (F.check l != 0) = true by simp [hc]]
    rfl

noncomputable def enRlg : Env := envH ty noG lks [oRChk, oRLen] [] [] []

theorem enRlg_ok : EnvOK Tryz.prog enRlg := by
  refine envH_ok lks_ok ty_ok ?_ ?_
  · simp only [List.forall_mem_cons]
    exact ⟨okRChk, okRLen, by simp⟩
  · simp

theorem evRlg (l : Lst) : (runF enRlg false Tryz.f11 [.agg (eLst l)]).val =
  Option.bind (unenc encRChk [AV.agg [(vI l.target), (vI l.first), (vI l.breaks), AV.sl (List.map eEnt l.entries), (vB l.ended)]]) fun (z : Lst) => bif F.check z != (0 :
  Int) then some (AV.tup [(vI (0 : Int)), (vI (F.check z))], []) else Option.bind (unenc encRLen [AV.agg [(vI l.target), (vI l.first), (vI l.breaks), AV.sl (List.map eEnt
  l.entries), (vB l.ended)]]) fun (z : Lst) => some (AV.tup [(vI (F.lenF (0 : Int) z.entries)), (vI (0 : Int))], []) := by kernel_rfl

def encRlg1 (l : Lst) : List AV := [.agg (eLst l)]

def encRlg (a : Lst) : List AV := encRlg1 a

theorem encRlg_inj (a a' : Lst) (h : encRlg a = encRlg a') : a = a' := by
  simp only [encRlg, encRlg1] at h
  try simp [strs_inj, ints_inj, ents_inj, eEnt_iff, eLst_iff] at h
  grind

theorem unRlg (l : Lst) : unenc encRlg ([AV.agg [(vI l.target), (vI l.first), (vI l.breaks), AV.sl (List.map eEnt l.entries), (vB l.ended)]]) = some (l) := unenc_of encRlg_inj (l) rfl

theorem unRlgw (l_target : Int) (l_first : Int) (l_breaks : Int) (l_entries : List Ent) (l_ended : Bool) : unenc encRlg ([AV.agg [(vI l_target), (vI l_first), (vI l_breaks), AV.sl (List.map eEnt l_entries), (vB l_ended)]]) = some ((Lst.mk l_target l_first l_breaks l_entries l_ended)) := unenc_of encRlg_inj ((Lst.mk l_target l_first l_breaks l_entries l_ended)) rfl

def resRlg1 (l : Lst) : AV × Heap := (.tup [vI (F.length l).1, vI (F.length l).2], [])

def preRlg1 (l : Lst) : Bool := true

noncomputable def oRlg : Orc := orc 11 true encRlg (fun a => preRlg1 a) fun a => resRlg1 a

theorem okRlg : OrcOK Tryz.prog noG oRlg := by
  refine mk_ok Tryz.f11 (keep := false) (by kernel_rfl) (by kernel_rfl) enRlg_ok mixed (no_loops (by kernel_rfl)) (by first | exact fun _ _ => ⟨rfl, rfl⟩ | (intro h; cases h)) ?_
  rintro l hpre hok
  show (runF enRlg false _ (encRlg1 _)).val = some (resRlg1 _)
  unfold encRlg1 resRlg1
  rw [evRlg]
  simp only [unRChk, unRLen, unRChkw, unRLenw, preRChk1, preRLen1, etaEnt, etaLst, etaSnd, etaStrm, etaMas, Option.bind_some, List.length_map, unStrs, unInts, unBools, unEnts, unItms, unTrns, cond_true, cond_false, Bool.and_true, Bool.true_and]
  by_cases h0 : F.check l = 0
  · simp only [F.length, h0, bne_self_eq_false, cond_false, ne_eq, not_true_eq_false, if_false]
  · have hb : (F.check l != 0) = true := by simp [h0]
    simp only [hb, cond_true, F.length, h0, if_true, ne_eq, not_false_eq_true]

noncomputable def enLCk : Env := envH ty noG lks [oTxt, oXte, oChk, oRChk, oLng, oRlg, oDta, oRda, oEqI, oAwk] [] [] []

theorem enLCk_ok : EnvOK Tryz.prog enLCk := by
  refine envH_ok lks_ok ty_ok ?_ ?_
  · simp only [List.forall_mem_cons]
    exact ⟨okTxt, okXte, okChk, okRChk, okLng, okRlg, okDta, okRda, okEqI, okAwk, by simp⟩
  · simp

theorem evLCk (l : Lst) : (runF enLCk false Tryz.f3 [.agg (eLst l)]).val =
  (fun (q : List AV) => Option.bind (unenc encTxt q) fun (z : Lst) => Option.bind (unenc encXte q) fun (z_1 : Lst) => Option.bind (unenc encChk q) fun (z_2 : Lst) =>
  Option.bind (unenc encRChk q) fun (z_3 : Lst) => bif bif bif F.check z_2 != F.check z_3 then true else !ByteArray.toList (F.txt z).fst == ByteArray.toList (F.txt z_1).fst
  then true else (F.txt z).snd != (F.txt z_1).snd then some ((vB false), []) else Option.bind (unenc encLng q) fun (z : Lst) => Option.bind (unenc encRlg q) fun (z_4 : Lst)
  => (fun (q_1 : Bool) => Option.bind (unenc encDta q) fun (z : Lst) => Option.bind (unenc encRda q) fun (z_5 : Lst) => bif q_1 then Option.bind (unenc encEqI [AV.sl
  (List.map eI (F.dtsR z).fst), AV.sl (List.map eI (F.dtsR z_5).fst)]) fun (z_6 : List Int × List Int) => (fun (q : Bool) => bif q then Option.bind (unenc encAwk []) fun (z
  : Unit) => some ((vB (bif q then true else false)), []) else some ((vB false), [])) (bif bif q_1 then F.eqL (fun (a b : Int) => a == b) z_6.fst z_6.snd else false then
  (F.dtsR z).snd == (F.dtsR z_5).snd else false) else some ((vB false), [])) (bif (F.length z).fst == (F.length z_4).fst then (F.length z).snd == (F.length z_4).snd else
  false)) [AV.agg [(vI l.target), (vI l.first), (vI l.breaks), AV.sl (List.map eEnt l.entries), (vB l.ended)]] := by kernel_rfl

def encLCk1 (l : Lst) : List AV := [.agg (eLst l)]

def encLCk (a : Lst) : List AV := encLCk1 a

theorem encLCk_inj (a a' : Lst) (h : encLCk a = encLCk a') : a = a' := by
  simp only [encLCk, encLCk1] at h
  try simp [strs_inj, ints_inj, ents_inj, eEnt_iff, eLst_iff] at h
  grind

def resLCk1 (l : Lst) : AV × Heap := (vB true, [])

def preLCk1 (l : Lst) : Bool := true

noncomputable def oLCk : Orc := orc 3 true encLCk (fun a => preLCk1 a) fun a => resLCk1 a

theorem okLCk : OrcOK Tryz.prog noG oLCk := by
  refine mk_ok Tryz.f3 (keep := false) (by kernel_rfl) (by kernel_rfl) enLCk_ok mixed (no_loops (by kernel_rfl)) (by first | exact fun _ _ => ⟨rfl, rfl⟩ | (intro h; cases h)) ?_
  rintro l hpre hok
  show (runF enLCk false _ (encLCk1 _)).val = some (resLCk1 _)
  unfold encLCk1 resLCk1
  rw [evLCk]
  simp only [unTxt, unXte, unChk, unRChk, unLng, unRlg, unDta, unRda, unEqI, unAwk, unTxtw, unXtew, unChkw, unRChkw, unLngw, unRlgw, unDtaw, unRdaw, preTxt1, preXte1, preChk1, preRChk1, preLng1, preRlg1, preDta1, preRda1, preEqI1, preAwk1, etaEnt, etaLst, etaSnd, etaStrm, etaMas, Option.bind_some, List.length_map, unStrs, unInts, unBools, unEnts, unItms, unTrns, cond_true, cond_false, Bool.and_true, Bool.true_and]
  rw [F.eqL_refl]
  simp only [bne_self_eq_false, beq_self_eq_true, Bool.not_true, cond_true, cond_false]

end M
end Go.Proofs.YtajmdlpanlbnjaaGreatDoor

namespace Go.Proofs.YtajmdlpanlbnjaaGreatDoor
open Go Go.RowKit
set_option linter.unusedVariables false
set_option linter.unusedSimpArgs false

structure Dlt where
  skipped : Int
  list : Lst

instance : Inhabited Dlt := ⟨⟨0, default⟩⟩

namespace M

end M
end Go.Proofs.YtajmdlpanlbnjaaGreatDoor

namespace Go.Proofs.YtajmdlpanlbnjaaGreatDoor.M
open Go.ChangeShapes Go.WideShapes Go.ChangeAt Go.RowKit Go.Deep
set_option linter.unusedVariables false

theorem own : ownKnob Tryz.prog.godebug = none := by kernel_rfl

theorem laidOut : laidOutB Tryz.prog = true := by kernel_rfl

theorem op_string : OpnU Tryz.prog 9 (cS) (smS) := opnU_str Tryz.underlying9

theorem cells_string : Tryz.prog.cellsOf 9 = 1 := by kernel_rfl

theorem op_int : OpnU Tryz.prog 3 (cI) (fun _ => True) := (opn_int Tryz.underlying3).small

theorem cells_int : Tryz.prog.cellsOf 3 = 1 := by kernel_rfl

theorem op_bool : OpnU Tryz.prog 4 (cB) (fun _ => True) := (opn_bool Tryz.underlying4).small

theorem cells_bool : Tryz.prog.cellsOf 4 = 1 := by kernel_rfl

theorem bytes_string : Tryz.prog.bytesOf 9 = 16 := by kernel_rfl

theorem cells_sstring : Tryz.prog.cellsOf 48 = 1 := by kernel_rfl

theorem op_sstring : OpnU Tryz.prog 48 (cSl (cS)) (KU (smS)) := opnU_slice Tryz.underlying48 cells_string bytes_string (by decide) (fun _ => rfl) op_string

def kEnt (x : Ent) : Prop := (smS) x.uri ∧ (smS) x.key ∧ (KU (smS)) x.extra

theorem cells_Ent : Tryz.prog.cellsOf 50 = 7 := by kernel_rfl

set_option maxRecDepth 100000 in
theorem op_Ent : OpnU Tryz.prog 50 eEnt kEnt := by
  intro H enc w fuel cs d p h hw hbk
  obtain ⟨hl, hf⟩ := opnU_fields Tryz.underlying50 h hw hbk
  obtain ⟨x0, r0, k0⟩ : ∃ x, RL (R0 w (Inn w)) ((cS) x) ((cs.drop 0).take (Tryz.prog.cellsOf 9)) ∧ (smS) x := hf 0 _ rfl op_string
  rw [cells_string] at r0
  obtain ⟨x1, r1, k1⟩ : ∃ x, RL (R0 w (Inn w)) ((cI) x) ((cs.drop 1).take (Tryz.prog.cellsOf 3)) ∧ (fun _ => True) x := hf 1 _ rfl op_int
  rw [cells_int] at r1
  obtain ⟨x2, r2, k2⟩ : ∃ x, RL (R0 w (Inn w)) ((cB) x) ((cs.drop 2).take (Tryz.prog.cellsOf 4)) ∧ (fun _ => True) x := hf 2 _ rfl op_bool
  rw [cells_bool] at r2
  obtain ⟨x3, r3, k3⟩ : ∃ x, RL (R0 w (Inn w)) ((cI) x) ((cs.drop 3).take (Tryz.prog.cellsOf 3)) ∧ (fun _ => True) x := hf 3 _ rfl op_int
  rw [cells_int] at r3
  obtain ⟨x4, r4, k4⟩ : ∃ x, RL (R0 w (Inn w)) ((cS) x) ((cs.drop 4).take (Tryz.prog.cellsOf 9)) ∧ (smS) x := hf 4 _ rfl op_string
  rw [cells_string] at r4
  obtain ⟨x5, r5, k5⟩ : ∃ x, RL (R0 w (Inn w)) ((cB) x) ((cs.drop 5).take (Tryz.prog.cellsOf 4)) ∧ (fun _ => True) x := hf 5 _ rfl op_bool
  rw [cells_bool] at r5
  obtain ⟨x6, r6, k6⟩ : ∃ x, RL (R0 w (Inn w)) ((cSl (cS)) x) ((cs.drop 6).take (Tryz.prog.cellsOf 48)) ∧ (KU (smS)) x := hf 6 _ rfl op_sstring
  rw [cells_sstring] at r6
  rw [cells_Ent] at hl
  match cs, hl with
  | [c0, c1, c2, c3, c4, c5, c6], _ =>
    refine ⟨⟨x0, x1, x2, x3, x4, x5, x6⟩, ?_, k0, k4, k6⟩
    show RL (R0 w (Inn w)) (((cS) x0) ++ (((cI) x1) ++ (((cB) x2) ++ (((cI) x3) ++ (((cS) x4) ++ (((cB) x5) ++ (((cSl (cS)) x6)))))))) ([c0] ++ ([c1] ++ ([c2] ++ ([c3] ++ ([c4] ++ ([c5] ++ ([c6])))))))
    exact RL.append r0 (RL.append r1 (RL.append r2 (RL.append r3 (RL.append r4 (RL.append r5 (r6))))))

theorem bytes_Ent : Tryz.prog.bytesOf 50 = 88 := by kernel_rfl

theorem cells_sEnt : Tryz.prog.cellsOf 22 = 1 := by kernel_rfl

theorem op_sEnt : OpnU Tryz.prog 22 (cSl (eEnt)) (KU (kEnt)) := opnU_slice Tryz.underlying22 cells_Ent bytes_Ent (by decide) (fun _ => rfl) op_Ent

def kLst (x : Lst) : Prop := (KU (kEnt)) x.entries

theorem cells_Lst : Tryz.prog.cellsOf 24 = 5 := by kernel_rfl

set_option maxRecDepth 100000 in
theorem op_Lst : OpnU Tryz.prog 24 eLst kLst := by
  intro H enc w fuel cs d p h hw hbk
  obtain ⟨hl, hf⟩ := opnU_fields Tryz.underlying24 h hw hbk
  obtain ⟨x0, r0, k0⟩ : ∃ x, RL (R0 w (Inn w)) ((cI) x) ((cs.drop 0).take (Tryz.prog.cellsOf 3)) ∧ (fun _ => True) x := hf 0 _ rfl op_int
  rw [cells_int] at r0
  obtain ⟨x1, r1, k1⟩ : ∃ x, RL (R0 w (Inn w)) ((cI) x) ((cs.drop 1).take (Tryz.prog.cellsOf 3)) ∧ (fun _ => True) x := hf 1 _ rfl op_int
  rw [cells_int] at r1
  obtain ⟨x2, r2, k2⟩ : ∃ x, RL (R0 w (Inn w)) ((cI) x) ((cs.drop 2).take (Tryz.prog.cellsOf 3)) ∧ (fun _ => True) x := hf 2 _ rfl op_int
  rw [cells_int] at r2
  obtain ⟨x3, r3, k3⟩ : ∃ x, RL (R0 w (Inn w)) ((cSl (eEnt)) x) ((cs.drop 3).take (Tryz.prog.cellsOf 22)) ∧ (KU (kEnt)) x := hf 3 _ rfl op_sEnt
  rw [cells_sEnt] at r3
  obtain ⟨x4, r4, k4⟩ : ∃ x, RL (R0 w (Inn w)) ((cB) x) ((cs.drop 4).take (Tryz.prog.cellsOf 4)) ∧ (fun _ => True) x := hf 4 _ rfl op_bool
  rw [cells_bool] at r4
  rw [cells_Lst] at hl
  match cs, hl with
  | [c0, c1, c2, c3, c4], _ =>
    refine ⟨⟨x0, x1, x2, x3, x4⟩, ?_, k3⟩
    show RL (R0 w (Inn w)) (((cI) x0) ++ (((cI) x1) ++ (((cI) x2) ++ (((cSl (eEnt)) x3) ++ (((cB) x4)))))) ([c0] ++ ([c1] ++ ([c2] ++ ([c3] ++ ([c4])))))
    exact RL.append r0 (RL.append r1 (RL.append r2 (RL.append r3 (r4))))

end Go.Proofs.YtajmdlpanlbnjaaGreatDoor.M

namespace Go.Proofs.YtajmdlpanlbnjaaGreatDoor.M
open Go.ChangeShapes Go.WideShapes Go.ChangeAt Go.RowKit Go.Deep
set_option linter.unusedVariables false

theorem noG_at {W : World} {laid : List (String × DataW Unit)} (hsh : W.ShapedOpen Tryz.prog) (hL : laidMetH Tryz.prog laid W)
    (hp : (laid.all fun x => x.2.handleName?.isNone) = true := by kernel_rfl)
    (m3 : ∃ i : Nat, laid[i]? = some ("internal/strconv.uint64pow10", Rows.laid_internal_strconv_uint64pow10) := by first | exact ⟨0, rfl⟩ | exact ⟨1, rfl⟩ | exact ⟨2, rfl⟩ | exact ⟨3, rfl⟩ | exact ⟨4, rfl⟩ | exact ⟨5, rfl⟩ | exact ⟨6, rfl⟩ | exact ⟨7, rfl⟩) :
    ∀ g r, noG g = some r → GlobAt W (Inn W) g r := by
  obtain ⟨_, m3⟩ := m3
  rw [MakeChecks.laidMetH_plain _ _ _ hp] at hL
  have hr : Lib.VarReads Tryz.prog W "internal/strconv.uint64pow10" Rows.laid_internal_strconv_uint64pow10 := Lib.laidMet.reads hL (List.mem_of_getElem? m3)
  have cellAt : ∀ {g : Nat} {cs : Array Value} {ty : TypeId} {o : Nat × Nat} (_ : W.heap[g]? = some (.cells cs ty o)) (j : Nat), W.cell? ⟨g, j, none⟩ = cs[j]? := fun h j => by simp [World.cell?, h]
  intro g r hg
  unfold noG at hg
  split at hg
  · rename_i hb
    have e : g = 3 := beq_true.1 hb
    subst e
    cases hg
    have hz : ((begin Tryz.prog (fun _ _ => 0) default).world.heap[3]?).bind Obj.row? = some (#[.int .i64 0], 3) := by kernel_rfl
    obtain ⟨cs, hh, hs, hr2⟩ := hsh.1 3 _ _ (of_decide_eq_true (by kernel_rfl)) hz
    obtain ⟨m, hm⟩ := cell_of_shapedOpen_int hsh (g := 3) (of_decide_eq_true (by kernel_rfl)) hz rfl (by kernel_rfl) (by kernel_rfl) Tryz.underlying3
    exact glob_mk hh ⟨m, by rw [← cellAt hh 0]; exact hm⟩
  · split at hg
    · rename_i hb
      have e : g = 2 := beq_true.1 hb
      subst e
      cases hg
      obtain ⟨g', t, cs, fuel, p, h1, h2, h3, h4⟩ := hr
      have hn : Tryz.prog.globalNamed "internal/strconv.uint64pow10" = some 2 := by kernel_rfl
      obtain rfl := Option.some.inj (hn.symm.trans h1)
      obtain rfl := Option.some.inj ((show (Tryz.prog.globals[2]?).map (·.type) = some 154 by kernel_rfl).symm.trans h2)
      have hd : (Rows.laid_internal_strconv_uint64pow10 : DataW Unit) = Lib.tabData .u64 Lib.pow10Tab := by kernel_rfl
      rw [hd] at h4
      have hcs := Lib.cells_of_tab Tryz.underlying154 Tryz.underlying128 (by kernel_rfl) (by kernel_rfl) h4
      obtain ⟨ty, o, hh⟩ := var_cells hn h3
      exact glob_mk hh (by rw [← hcs])
    · cases hg

end Go.Proofs.YtajmdlpanlbnjaaGreatDoor.M

namespace Go.Proofs.YtajmdlpanlbnjaaGreatDoor
open Go.ChangeShapes Go.WideShapes Go.ChangeAt Go.RowKit Go.Deep M
open Go.ChangeMaps (open_string shut_string)
set_option linter.unusedVariables false

set_option maxRecDepth 100000 in
theorem listChecksMatchSpec_contract (H : Type) (enc : TypeId × Value → H) (W : World) (base : Nat) (args : Array Value) (ds gs : List (DataW H)) (before : List MemPlace)
    (hval0 : ∀ (j : Nat) t v, Tryz.f3.params[j]? = some t → args[j]? = some v → Value.okWide Tryz.prog W .any base t v)
    (hW : DataW.Whole enc Tryz.prog Tryz.f3.params.toList Rows.listChecksMatchSpecSpec.vars false W args.toList ds gs before) (hbulk : Rows.uptoBulkAll (ds ++ gs) ≤ 1048576)
    (hsz0 : (DataW.weightsEach Tryz.prog (Tryz.f3.params.toList ++ Rows.listChecksMatchSpecSpec.plain.varTypes Tryz.prog) (ds ++ gs)).all (· ≤ reachBytes) = true)
    (hL : laidMetH Tryz.prog Rows.listChecksMatchSpecUptoRow.laid W) (hsh : W.ShapedOpen Tryz.prog) :
    Calls Tryz.prog 3 args W fun e W' => ∃ v, e = .returned v ∧ Rows.listChecksMatchSpecSpec.post enc Tryz.prog Tryz.f3 false true false false W args v W' := by
  have hval : ∀ (j : Nat) t v, Tryz.f3.params[j]? = some t → args[j]? = some v → Value.okWide Tryz.prog W .any base t v := hval0
  have hW' := hW
  obtain ⟨p, q, hA0, hV, rfl, hfz, hnd⟩ := hW
  have hA : DataW.TrodAll enc Tryz.prog W 0 (fun _ => true) true Tryz.f3.params.toList args.toList ds p := hA0
  have hsz : ∀ n ∈ DataW.weightsEach Tryz.prog (Tryz.f3.params.toList ++ Rows.listChecksMatchSpecSpec.plain.varTypes Tryz.prog) (ds ++ gs), n ≤ reachBytes := by
    intro n hn; have := List.all_eq_true.1 hsz0 n hn; simpa using this
  rw [Tryz.params3] at hA hval hsz
  obtain ⟨v0, vs0, d0, ds0, p0, q0, hargs, rfl, rfl, h0, r0⟩ := trodAll_cons hA
  obtain ⟨rfl, rfl, rfl⟩ := trodAll_nil r0
  obtain rfl : args = #[v0] := by cases args; simp_all
  obtain ⟨rfl, rfl⟩ := trodVars_none hV
  have bk0 : Rows.uptoBulk d0 ≤ 1048576 := Nat.le_trans (bulks.part_le (by simp)) hbulk
  obtain ⟨cs0, rfl, _⟩ := okWide_struct Tryz.underlying24 (hval 0 24 v0 rfl rfl)
  have b0 := h0
  have lt0 : ∀ x ∈ p0, x.block < W.heap.size := by obtain ⟨m, hm⟩ := b0; exact DataW.trod_lt m _ _ _ hm
  obtain ⟨fuel0, hf0⟩ := h0
  obtain ⟨x0, e0, k0⟩ := op_Lst H enc W fuel0 (Value.cells (.agg cs0)).toList _ _ hf0 (fun n hn => hsz n (weights_each (j := 0) rfl rfl n hn)) bk0
  clear hA0 hval0
  have hpre : preLCk1 x0 = true := by rfl
  have hspec := orc_at okLCk encLCk_inj x0 hpre
  refine (law_calls (W := W) (cargs := [.agg cs0]) hspec (noG_at hsh hL) ⟨rv_agg_of e0, trivial⟩).mono fun e W1 ⟨he, bel⟩ => ?_
  subst he
  exact ⟨_, rfl, _, _, _, [], _, [], hW', trodAll_mk1 (shut_bool Tryz.underlying4 _), (trodAll_cons_mk (Below.trod laidOut (by kernel_rfl) (of_decide_eq_true (by kernel_rfl)) b0 bel lt0) trodAll_mk0), rfl, bel.frame _, fun h => by cases h⟩

theorem listChecksMatchSpec_reads (os : Os) {H : Type} (enc : TypeId × Value → H) : ∃ places, DataW.whole enc Tryz.prog ((World.laidAll Tryz.prog os Rows.listChecksMatchSpecUptoRow.laid).forCall (fun _ _ => 0) ⟨#[], #[.agg #[.int .i64 0, .int .i64 0, .int .i64 0, .slice none 0 0, .bool false]], []⟩).memory Tryz.f3.params.toList Rows.listChecksMatchSpecSpec.vars false (#[.agg #[.int .i64 0, .int .i64 0, .int .i64 0, .slice none 0 0, .bool false]] : Array Value).toList 8 = some ([.agg [.lit (.int .i64 0), .lit (.int .i64 0), .lit (.int .i64 0), .nil, .lit (.bool false)]], [], places) :=
  ⟨[], by kernel_rfl⟩

theorem listChecksMatchSpec_met (os : Os) : laidMet Tryz.prog Rows.listChecksMatchSpecUptoRow.laid ((World.laidAll Tryz.prog os Rows.listChecksMatchSpecUptoRow.laid).forCall (fun _ _ => 0) ⟨#[], #[.agg #[.int .i64 0, .int .i64 0, .int .i64 0, .slice none 0 0, .bool false]], []⟩).memory := laidMet_laidAll _ (by kernel_rfl) (by kernel_rfl)

set_option maxRecDepth 100000 in
theorem listChecksMatchSpec_lifted (os : Os) (started : os.Started) (H : Type) (enc : TypeId × Value → H) (F : Stop.Interp) :
    ReturnsInHanded {} Tryz.checked os 3 .any ((Rows.OpenSpec.upto Rows.listChecksMatchSpecSpec).preRow enc Tryz.prog Tryz.f3 Rows.listChecksMatchSpecUptoRow.domain false Rows.listChecksMatchSpecUptoRow.laid) (((Rows.OpenSpec.upto Rows.listChecksMatchSpecSpec).at F).post enc Tryz.prog Tryz.f3 false true false false) := by
  obtain ⟨places, hx⟩ := listChecksMatchSpec_reads os enc
  refine returnsInHanded_of_row (C := Tryz.checked) (s := Rows.OpenSpec.upto Rows.listChecksMatchSpecSpec) own started (by kernel_rfl) Tryz.func3
    (witness_row_at (enc := enc) (C := Tryz.checked) false (World.laidAll Tryz.prog os Rows.listChecksMatchSpecUptoRow.laid) #[.agg #[.int .i64 0, .int .i64 0, .int .i64 0, .slice none 0 0, .bool false]] (World.laidAll_os _ _ _) (by kernel_rfl) (by kernel_rfl) (by kernel_rfl)
      (OpenSpec.preRow_of_cond 8 hx (by kernel_rfl) (fun k hk => by cases hk; kernel_rfl) (by kernel_rfl) (listChecksMatchSpec_met os))) ?_
  intro W base args ds gs before hval hW _ hcond hsz hL hsh _
  exact listChecksMatchSpec_contract H enc W base args ds gs before hval hW (bulks.bound (hcond _ rfl)) hsz hL hsh

theorem listChecksMatchSpec_upto : Rows.ListChecksMatchSpecUptoSaid :=
  OpenClaim.holds_of_cond 3 Tryz.f3 rfl rfl rfl rfl rfl rfl rfl ⟨rfl, rfl, rfl, rfl, rfl⟩ rfl rfl rfl rfl rfl (by kernel_rfl) Tryz.func3 (by kernel_rfl)
    (of_decide_eq_true (by kernel_rfl)) (by unfold Func.isWrapper; first | (rw [if_pos (by decide +kernel)]; kernel_rfl) | (rw [if_neg (by decide +kernel)]; exact ⟨rfl, rfl⟩))
    (fun os started H enc _ F => by rw [OpenClaim.pre_eq_preRow]; exact listChecksMatchSpec_lifted os started H enc F)
#print axioms listChecksMatchSpec_upto

theorem listChecksMatchSpec_plain (f : FuncId) (fn : Func) (hf : Tryz.pinned.checked.prog.funcNamed "headend/headendlaw6.ListChecksMatchSpec" = some f) (hfn : Tryz.pinned.checked.prog.funcs[f]? = some fn) :
    true = Tryz.pinned.checked.prog.looks [] ∧ ∀ (j : Nat) t, fn.params[j]? = some t → Tryz.pinned.checked.prog.wantsStandIn t = false := by
  obtain rfl : f = 3 := Option.some.inj ((show Tryz.prog.funcNamed "headend/headendlaw6.ListChecksMatchSpec" = some 3 by kernel_rfl).symm.trans hf) |>.symm
  obtain rfl : fn = Tryz.f3 := (Option.some.inj (Tryz.func3.symm.trans hfn)).symm
  refine ⟨by kernel_rfl, fun j t ht => ?_⟩
  rw [Tryz.params3] at ht
  have hm : t ∈ [24] := by simpa using Array.mem_of_getElem? ht
  have hall : ([24].all fun u => !Tryz.prog.wantsStandIn u) = true := by kernel_rfl
  exact (show Tryz.prog.wantsStandIn t = false by simpa using List.all_eq_true.1 hall t hm)

theorem listChecksMatchSpec_card : Rows.ListChecksMatchSpecUptoCardSaid :=
  Claim7.holds_tied_plain_at .later [] _ _ _ _ listChecksMatchSpec_upto (fun _ h => by cases h) (by kernel_rfl) (fun _ h => by cases h) listChecksMatchSpecUpto_row_tie rfl ⟨rfl, rfl⟩ (by kernel_rfl) rfl listChecksMatchSpec_plain (by kernel_rfl)
#print axioms listChecksMatchSpec_card
end Go.Proofs.YtajmdlpanlbnjaaGreatDoor
