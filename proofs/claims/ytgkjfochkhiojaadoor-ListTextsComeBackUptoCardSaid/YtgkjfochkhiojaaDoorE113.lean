/- What is proved here: the words of a list's text (no statement of the seat). -/
import Derived.Test.YtgkjfochkhiojaaDoorE107
import Derived.Test.YtgkjfochkhiojaaDoorE108
import Derived.Test.YtgkjfochkhiojaaDoorE112
import Derived.Test.YtgkjfochkhiojaaDoorE105
namespace Go.Proofs.YtgkjfochkhiojaaDoor
open Go Go.RowKit
set_option linter.unusedVariables false
set_option linter.unusedSimpArgs false

/-- A line of pieces behind a text. -/
def F.pl (s : ByteArray) (l : List ByteArray) : ByteArray := F.cat s l ++ ⟨⟨[10]⟩⟩

theorem F.pl_le (s : ByteArray) (l : List ByteArray) : s.size ≤ (F.cat s l).size ∧ (F.cat s l).size ≤ (F.pl s l).size := by
  refine ⟨F.cat_le l s, ?_⟩
  unfold F.pl
  rw [ByteArray.size_append]
  omega

/-- The lines of the house behind a text. -/
def F.tX (s : ByteArray) : List ByteArray → ByteArray
  | [] => s
  | x :: l => F.tX (F.pl s [x]) l

theorem F.tX_le : ∀ (l : List ByteArray) (s : ByteArray), s.size ≤ (F.tX s l).size
  | [], s => Nat.le_refl _
  | x :: l, s => by
    have h1 := F.tX_le l (F.pl s [x])
    have h2 := F.pl_le s [x]
    rw [F.tX]
    omega

def F.e1 (s : ByteArray) (brk : Bool) : ByteArray := bif brk then F.pl s [F.kBrk] else s

def F.e2 (s : ByteArray) (d : Int) : ByteArray := bif decide (0 ≤ d) then F.pl s [F.kDatS, F.dtS d] else s

def F.e3 (s key ky : ByteArray) : ByteArray := bif F.seq ky key then s else F.pl s [F.kKeyS, F.dsh ky]

def F.e4 (s : ByteArray) (g : Bool) : ByteArray := bif g then F.pl s [F.kGap] else s

/-- An entry's lines behind a text and the lines of the house. -/
def F.bE' (s key : ByteArray) (u : ByteArray) (m : Int) (b : Bool) (d : Int) (ky : ByteArray) (g : Bool) : ByteArray := F.pl (F.pl (F.e4 (F.e3 (F.e2 (F.e1 s b) d) key ky) g) [F.kTimS, F.tmS m]) [u]

def F.bE (s key : ByteArray) (e : Ent) : ByteArray := F.bE' (F.tX s e.extra) key e.uri e.milli e.brk e.date e.key e.gap

/-- Entries behind a text. -/
def F.tE (s key : ByteArray) : List Ent → ByteArray
  | [] => s
  | e :: l => F.tE (F.bE s key e) e.key l

theorem F.e_le (s key : ByteArray) (b : Bool) (d : Int) (ky : ByteArray) (g : Bool) : s.size ≤ (F.e1 s b).size ∧ (F.e1 s b).size ≤ (F.e2 (F.e1 s b) d).size ∧ (F.e2 (F.e1 s b) d).size ≤ (F.e3 (F.e2 (F.e1 s b) d) key ky).size ∧ (F.e3 (F.e2 (F.e1 s b) d) key ky).size ≤ (F.e4 (F.e3 (F.e2 (F.e1 s b) d) key ky) g).size := by
  have hpl : ∀ (s : ByteArray) (l : List ByteArray), s.size ≤ (F.pl s l).size := fun s l => by have := F.pl_le s l; omega
  refine ⟨?_, ?_, ?_, ?_⟩
  · generalize s = z
    unfold F.e1
    cases b
    · exact Nat.le_refl _
    · exact hpl _ _
  · generalize F.e1 s b = z
    unfold F.e2
    cases decide (0 ≤ d)
    · exact Nat.le_refl _
    · exact hpl _ _
  · generalize F.e2 (F.e1 s b) d = z
    unfold F.e3
    cases F.seq ky key
    · exact hpl _ _
    · exact Nat.le_refl _
  · generalize F.e3 (F.e2 (F.e1 s b) d) key ky = z
    unfold F.e4
    cases g
    · exact Nat.le_refl _
    · exact hpl _ _

theorem F.bE_le (s key : ByteArray) (e : Ent) : (F.tX s e.extra).size ≤ (F.bE s key e).size := by
  obtain ⟨h1, h2, h3, h4⟩ := F.e_le (F.tX s e.extra) key e.brk e.date e.key e.gap
  unfold F.bE F.bE'
  have h5 := F.pl_le (F.e4 (F.e3 (F.e2 (F.e1 (F.tX s e.extra) e.brk) e.date) key e.key) e.gap) [F.kTimS, F.tmS e.milli]
  have h6 := F.pl_le (F.pl (F.e4 (F.e3 (F.e2 (F.e1 (F.tX s e.extra) e.brk) e.date) key e.key) e.gap) [F.kTimS, F.tmS e.milli]) [e.uri]
  omega

theorem F.tE_le : ∀ (l : List Ent) (s key : ByteArray), s.size ≤ (F.tE s key l).size
  | [], s, key => Nat.le_refl _
  | e :: l, s, key => by
    have h1 := F.tE_le l (F.bE s key e) e.key
    have h2 := F.bE_le s key e
    have h3 := F.tX_le e.extra s
    rw [F.tE]
    omega

/-- An entry that can be written. -/
def F.entW (e : Ent) : Bool := decide (0 ≤ e.milli) && decide (e.milli ≤ 3600000) && decide (e.date ≤ 253402300799999) && decide (e.extra.length ≤ 1000)

/-- Entries whose text is not too long. -/
def F.tEB (s key : ByteArray) (l : List Ent) : Bool := decide ((F.tE s key l).size ≤ 80000000)

theorem F.tEB_iff {s key : ByteArray} {l : List Ent} : F.tEB s key l = true ↔ (F.tE s key l).size ≤ 80000000 := by
  unfold F.tEB
  exact decide_eq_true_iff

namespace M


theorem evDsh (s : ByteArray) : (runF en0 false Tryd.f22 [vS s]).val =
  bif ByteArray.toList s == ByteArray.toList (ByteArray.mk (Array.mk [])) then some ((vS (ByteArray.mk (Array.mk [(45 : UInt8)]))), []) else some ((vS s), []) := (runFR_val).symm.trans (by kernel_rfl)

def encDsh1 (s : ByteArray) : List AV := [vS s]

def encDsh (a : ByteArray) : List AV := encDsh1 a

theorem encDsh_inj (a a' : ByteArray) (h : encDsh a = encDsh a') : a = a' := by
  simp only [encDsh, encDsh1] at h
  try simp [eUs_inj, strs_inj, ints_inj, ents_inj, eEnt_iff, eLst_iff, eSnds_inj, eStrms_inj] at h
  grind

theorem unDsh (s : ByteArray) : unenc encDsh ([(vS s)]) = some (s) := unenc_of encDsh_inj (s) rfl

def resDsh1 (s : ByteArray) : AV × Heap := (vS (F.dsh s), [])

def preDsh1 (s : ByteArray) : Bool := true

noncomputable def oDsh : Orc := orc 22 true encDsh (fun a => preDsh1 a) fun a => resDsh1 a

theorem okDsh : OrcOK Tryd.prog noG oDsh := by
  refine mk_ok Tryd.f22 (keep := false) (by kernel_rfl) (by kernel_rfl) en0_ok mixed (no_loops (by kernel_rfl)) (by first | exact fun _ _ => ⟨rfl, rfl⟩ | (intro h; cases h)) ?_
  rintro s hpre hok
  show (runF en0 false _ (encDsh1 _)).val = some (resDsh1 _)
  unfold encDsh1 resDsh1
  rw [evDsh]
  simp only [etaEnt, etaLst, etaSnd, etaStrm, etaMas, Option.bind_some, List.length_map, unStrs, unInts, unBools, unEnts, unItms, unTrns, cond_true, cond_false, Bool.and_true, Bool.true_and, unWstU, unBstU, F.bldS_some, F.bldLen_some, F.dsh, F.seq]
  cases s.toList == (⟨⟨[]⟩⟩ : ByteArray).toList <;> rfl

def stTx2 (t : Int) (f : Int) (b : Int) (es : List Ent) (en : Bool) (i : Nat) (key : ByteArray) (u : ByteArray) (m : Int) (br : Bool) (d : Int) (ky : ByteArray) (g : Bool) (x : List ByteArray) (s : ByteArray) (j : Nat) : St := ⟨[(50, vI j), (49, vI x.length), (48, .sl (x.map eStr)), (43, vI i), (42, vI es.length), (41, .sl (es.map eEnt)), (9, .ptr 9 0 0), (7, vS key), (6, .fn 17 [.ptr 5 0 0]), (5, .ptr 5 0 0), (2, .ptr 2 0 0)], [(20000, ⟨false, 5, 1, F.eUs s⟩), (9, ⟨true, 0, 0, [[vS u, vI m, vB br, vI d, vS ky, vB g, .sl (x.map eStr)]]⟩), (5, ⟨true, 52, 0, [[.ptr 5 0 0, .own 20000]]⟩), (2, ⟨true, 0, 0, [[vI t, vI f, vI b, .sl (es.map eEnt), vB en]]⟩)]⟩

def stTx21 (a : Int × Int × Int × (List Ent) × Bool × Nat × ByteArray × ByteArray × Int × Bool × Int × ByteArray × Bool × (List ByteArray) × ByteArray × Nat) : St := stTx2 a.1 a.2.1 a.2.2.1 a.2.2.2.1 a.2.2.2.2.1 a.2.2.2.2.2.1 a.2.2.2.2.2.2.1 a.2.2.2.2.2.2.2.1 a.2.2.2.2.2.2.2.2.1 a.2.2.2.2.2.2.2.2.2.1 a.2.2.2.2.2.2.2.2.2.2.1 a.2.2.2.2.2.2.2.2.2.2.2.1 a.2.2.2.2.2.2.2.2.2.2.2.2.1 a.2.2.2.2.2.2.2.2.2.2.2.2.2.1 a.2.2.2.2.2.2.2.2.2.2.2.2.2.2.1 a.2.2.2.2.2.2.2.2.2.2.2.2.2.2.2

theorem stTx2_inj (a a' : Int × Int × Int × (List Ent) × Bool × Nat × ByteArray × ByteArray × Int × Bool × Int × ByteArray × Bool × (List ByteArray) × ByteArray × Nat) (h : stTx21 a = stTx21 a') : a = a' := by
  simp only [stTx21, stTx2] at h
  try simp [eUs_inj, strs_inj, ints_inj, ents_inj, eEnt_iff, eLst_iff, eSnds_inj, eStrms_inj] at h
  grind

theorem unstTx2 (t : Int) (f : Int) (b : Int) (es : List Ent) (en : Bool) (i : Nat) (key : ByteArray) (u : ByteArray) (m : Int) (br : Bool) (d : Int) (ky : ByteArray) (g : Bool) (x : List ByteArray) (s : ByteArray) (j : Nat) : unenc stTx21 (St.mk [(50, (vI (↑j : Int))), (49, (vI (↑(List.length x) : Int))), (48, AV.sl (List.map eStr x)), (43, (vI (↑i : Int))), (42, (vI (↑(List.length es) : Int))), (41, AV.sl
  (List.map eEnt es)), (9, .ptr 9 0 0), (7, (vS key)), (6, AV.fn (17 : FuncId) [.ptr 5 0 0]), (5, .ptr 5 0 0), (2, .ptr 2 0 0)] [(20000, Blk.mk false 5 1 (F.eUs s)), (9,
  Blk.mk true 0 0 [[(vS u), (vI m), (vB br), (vI d), (vS ky), (vB g), AV.sl (List.map eStr x)]]), (5, Blk.mk true 52 0 [[.ptr 5 0 0, .own 20000]]), (2, Blk.mk true 0 0 [[(vI
  t), (vI f), (vI b), AV.sl (List.map eEnt es), (vB en)]])]) = some (t, f, b, es, en, i, key, u, m, br, d, ky, g, x, s, j) := unenc_of stTx2_inj (t, f, b, es, en, i, key, u, m, br, d, ky, g, x, s, j) rfl

theorem unstTx20 (t : Int) (f : Int) (b : Int) (es : List Ent) (en : Bool) (i : Nat) (key : ByteArray) (u : ByteArray) (m : Int) (br : Bool) (d : Int) (ky : ByteArray) (g : Bool) (x : List ByteArray) (s : ByteArray)  : unenc stTx21 (St.mk [(50, (vI (0 : Int))), (49, (vI (↑(List.length x) : Int))), (48, AV.sl (List.map eStr x)), (43, (vI (↑i : Int))), (42, (vI (↑(List.length es) : Int))), (41, AV.sl
  (List.map eEnt es)), (9, .ptr 9 0 0), (7, (vS key)), (6, AV.fn (17 : FuncId) [.ptr 5 0 0]), (5, .ptr 5 0 0), (2, .ptr 2 0 0)] [(20000, Blk.mk false 5 1 (F.eUs s)), (9,
  Blk.mk true 0 0 [[(vS u), (vI m), (vB br), (vI d), (vS ky), (vB g), AV.sl (List.map eStr x)]]), (5, Blk.mk true 52 0 [[.ptr 5 0 0, .own 20000]]), (2, Blk.mk true 0 0 [[(vI
  t), (vI f), (vI b), AV.sl (List.map eEnt es), (vB en)]])]) = some (t, f, b, es, en, i, key, u, m, br, d, ky, g, x, s, 0) := unenc_of stTx2_inj (t, f, b, es, en, i, key, u, m, br, d, ky, g, x, s, 0) rfl

def outTx2 (t : Int) (f : Int) (b : Int) (es : List Ent) (en : Bool) (i : Nat) (key : ByteArray) (u : ByteArray) (m : Int) (br : Bool) (d : Int) (ky : ByteArray) (g : Bool) (x : List ByteArray) (s : ByteArray) (j : Nat) : T (Ex × St) := .ret (.exit 2, ⟨[(43, vI i), (42, vI es.length), (41, .sl (es.map eEnt)), (9, .ptr 9 0 0), (7, vS key), (6, .fn 17 [.ptr 5 0 0]), (5, .ptr 5 0 0), (2, .ptr 2 0 0)], [(20000, ⟨false, 5, 1, F.eUs (F.tX s (x.drop j))⟩), (9, ⟨true, 0, 0, [[vS u, vI m, vB br, vI d, vS ky, vB g, .sl (x.map eStr)]]⟩), (5, ⟨true, 52, 0, [[.ptr 5 0 0, .own 20000]]⟩), (2, ⟨true, 0, 0, [[vI t, vI f, vI b, .sl (es.map eEnt), vB en]]⟩)]⟩)

noncomputable def prlTx2 (t : Int) (f : Int) (b : Int) (es : List Ent) (en : Bool) (i : Nat) (key : ByteArray) (u : ByteArray) (m : Int) (br : Bool) (d : Int) (ky : ByteArray) (g : Bool) (x : List ByteArray) (s : ByteArray) (j : Nat) : Bool := decide (x.length ≤ 1000) && decide (j ≤ x.length) && decide ((F.tX s (x.drop j)).size ≤ 80000000)

noncomputable def lpTx2 : Nat × (St → T (Ex × St)) := (13, lpo [50, 49, 48, 43, 42, 41, 9, 7, 6, 5, 2] [20000, 9, 5, 2] stTx21 (fun a => prlTx2 a.1 a.2.1 a.2.2.1 a.2.2.2.1 a.2.2.2.2.1 a.2.2.2.2.2.1 a.2.2.2.2.2.2.1 a.2.2.2.2.2.2.2.1 a.2.2.2.2.2.2.2.2.1 a.2.2.2.2.2.2.2.2.2.1 a.2.2.2.2.2.2.2.2.2.2.1 a.2.2.2.2.2.2.2.2.2.2.2.1 a.2.2.2.2.2.2.2.2.2.2.2.2.1 a.2.2.2.2.2.2.2.2.2.2.2.2.2.1 a.2.2.2.2.2.2.2.2.2.2.2.2.2.2.1 a.2.2.2.2.2.2.2.2.2.2.2.2.2.2.2) fun a => outTx2 a.1 a.2.1 a.2.2.1 a.2.2.2.1 a.2.2.2.2.1 a.2.2.2.2.2.1 a.2.2.2.2.2.2.1 a.2.2.2.2.2.2.2.1 a.2.2.2.2.2.2.2.2.1 a.2.2.2.2.2.2.2.2.2.1 a.2.2.2.2.2.2.2.2.2.2.1 a.2.2.2.2.2.2.2.2.2.2.2.1 a.2.2.2.2.2.2.2.2.2.2.2.2.1 a.2.2.2.2.2.2.2.2.2.2.2.2.2.1 a.2.2.2.2.2.2.2.2.2.2.2.2.2.2.1 a.2.2.2.2.2.2.2.2.2.2.2.2.2.2.2)

def stTx1 (t : Int) (f : Int) (b : Int) (es : List Ent) (en : Bool) (s : ByteArray) (key : ByteArray) (i : Nat) : St := ⟨[(43, vI i), (42, vI es.length), (41, .sl (es.map eEnt)), (7, vS key), (6, .fn 17 [.ptr 5 0 0]), (5, .ptr 5 0 0), (2, .ptr 2 0 0)], [(20000, ⟨false, 5, 1, F.eUs s⟩), (5, ⟨true, 52, 0, [[.ptr 5 0 0, .own 20000]]⟩), (2, ⟨true, 0, 0, [[vI t, vI f, vI b, .sl (es.map eEnt), vB en]]⟩)]⟩

def stTx11 (a : Int × Int × Int × (List Ent) × Bool × ByteArray × ByteArray × Nat) : St := stTx1 a.1 a.2.1 a.2.2.1 a.2.2.2.1 a.2.2.2.2.1 a.2.2.2.2.2.1 a.2.2.2.2.2.2.1 a.2.2.2.2.2.2.2

theorem stTx1_inj (a a' : Int × Int × Int × (List Ent) × Bool × ByteArray × ByteArray × Nat) (h : stTx11 a = stTx11 a') : a = a' := by
  simp only [stTx11, stTx1] at h
  try simp [eUs_inj, strs_inj, ints_inj, ents_inj, eEnt_iff, eLst_iff, eSnds_inj, eStrms_inj] at h
  grind

theorem unstTx1 (t : Int) (f : Int) (b : Int) (es : List Ent) (en : Bool) (s : ByteArray) (key : ByteArray) (i : Nat) : unenc stTx11 (St.mk [(43, (vI (↑i : Int))), (42, (vI (↑(List.length es) : Int))), (41, AV.sl (List.map eEnt es)), (7, (vS key)), (6, AV.fn (17 : FuncId) [.ptr 5 0 0]), (5, .ptr 5 0 0),
  (2, .ptr 2 0 0)] [(20000, Blk.mk false 5 1 (F.eUs s)), (5, Blk.mk true 52 0 [[.ptr 5 0 0, .own 20000]]), (2, Blk.mk true 0 0 [[(vI t), (vI f), (vI b), AV.sl (List.map eEnt
  es), (vB en)]])]) = some (t, f, b, es, en, s, key, i) := unenc_of stTx1_inj (t, f, b, es, en, s, key, i) rfl

theorem unstTx10 (t : Int) (f : Int) (b : Int) (es : List Ent) (en : Bool) (s : ByteArray)  : unenc stTx11 (St.mk [(43, (vI (0 : Int))), (42, (vI (↑(List.length es) : Int))), (41, AV.sl (List.map eEnt es)), (7, (vS (ByteArray.mk (Array.mk [])))), (6, AV.fn (17 : FuncId) [.ptr 5
  0 0]), (5, .ptr 5 0 0), (2, .ptr 2 0 0)] [(20000, Blk.mk false 5 1 (F.eUs s)), (5, Blk.mk true 52 0 [[.ptr 5 0 0, .own 20000]]), (2, Blk.mk true 0 0 [[(vI t), (vI f), (vI
  b), AV.sl (List.map eEnt es), (vB en)]])]) = some (t, f, b, es, en, s, ⟨⟨[]⟩⟩, 0) := unenc_of stTx1_inj (t, f, b, es, en, s, ⟨⟨[]⟩⟩, 0) rfl

def outTx1 (t : Int) (f : Int) (b : Int) (es : List Ent) (en : Bool) (s : ByteArray) (key : ByteArray) (i : Nat) : T (Ex × St) := .ret (.exit 0, ⟨[(6, .fn 17 [.ptr 5 0 0]), (5, .ptr 5 0 0), (2, .ptr 2 0 0)], [(20000, ⟨false, 5, 1, F.eUs (F.tE s key (es.drop i))⟩), (5, ⟨true, 52, 0, [[.ptr 5 0 0, .own 20000]]⟩), (2, ⟨true, 0, 0, [[vI t, vI f, vI b, .sl (es.map eEnt), vB en]]⟩)]⟩)

noncomputable def prlTx1 (t : Int) (f : Int) (b : Int) (es : List Ent) (en : Bool) (s : ByteArray) (key : ByteArray) (i : Nat) : Bool := decide (es.length ≤ 1000) && decide (i ≤ es.length) && es.all F.entW && F.tEB s key (es.drop i)

noncomputable def lpTx1 : Nat × (St → T (Ex × St)) := (10, lpo [43, 42, 41, 7, 6, 5, 2] [20000, 5, 2] stTx11 (fun a => prlTx1 a.1 a.2.1 a.2.2.1 a.2.2.2.1 a.2.2.2.2.1 a.2.2.2.2.2.1 a.2.2.2.2.2.2.1 a.2.2.2.2.2.2.2) fun a => outTx1 a.1 a.2.1 a.2.2.1 a.2.2.2.1 a.2.2.2.2.1 a.2.2.2.2.2.1 a.2.2.2.2.2.2.1 a.2.2.2.2.2.2.2)

theorem pre_ok (s : ByteArray) (l : List ByteArray) (h1 : l.length ≤ 1000) (h2 : (F.pl s l).size ≤ 80000000) : F.putB (some s) l = true := by
  have h3 := F.pl_le s l
  show (decide (l.length ≤ 1000) && decide ((F.cat s l).size ≤ 90000000)) = true
  rw [decide_eq_true h1, decide_eq_true (by omega)]
  rfl

theorem fpl (s : ByteArray) (l : List ByteArray) : F.cat s l ++ (⟨⟨[10]⟩⟩ : ByteArray) = F.pl s l := rfl

noncomputable def enTx : Env := envH ty noG lks [oIta, oDte, oDcm, oDsh] [oPut, oWst, oBst] [20000] [lpTx1, lpTx2]

theorem enTx_ok : EnvOK Tryd.prog enTx := by
  refine envH_ok lks_ok ty_ok ?_ ?_
  · simp only [List.forall_mem_cons]
    exact ⟨okIta, okDte, okDcm, okDsh, by simp⟩
  · simp only [List.forall_mem_cons]
    exact ⟨okPut, okWst, okBst, by simp⟩

theorem evTx2L (t : Int) (f : Int) (b : Int) (es : List Ent) (en : Bool) (i : Nat) (key : ByteArray) (u : ByteArray) (m : Int) (br : Bool) (d : Int) (ky : ByteArray) (g : Bool) (x : List ByteArray) (s : ByteArray) (j : Nat) : ((exec enTx (loopN Tryd.f10 1) (stTx2 t f b es en i key u m br d ky g x s j)).bind (lessX ([50, 49, 48, 43, 42, 41, 9, 7, 6, 5, 2], [20000, 9, 5, 2]) ([43, 42, 41, 9, 7, 6, 5, 2], [20000, 9, 5, 2]) ([], []))).val =
  bif decide ((↑j : Int) < (↑(List.length x) : Int)) then Option.bind (unenc (List.map eStr) (List.map eStr x)) fun (z : List ByteArray) => bif decide (j < List.length z) then Option.bind (unenc encPut ([.own 900, .ptr 901 0 0], [(902, Blk.mk false 5 1 (F.eUs s)), (901, Blk.mk true 52 0 [[.ptr 901 0 0, .own 902]]), (900, Blk.mk false 9 1 [[(vS (List.getD z j (ByteArray.mk (Array.mk []))))]])])) fun (z : Option ByteArray × List ByteArray) => bif F.putB z.fst z.snd then bif match z.fst with | some val => false | none => true then none else some (Ex.normal, St.mk [(50, (vI (IntKind.wrap IntKind.i64 ((↑j : Int) + (1 : Int))))), (49, (vI (↑(List.length x) : Int))), (48, AV.sl (List.map eStr x)), (43, (vI (↑i : Int))), (42, (vI (↑(List.length es) : Int))), (41, AV.sl (List.map eEnt es)), (9, .ptr 9 0 0), (7, (vS key)), (6, AV.fn (17 : FuncId) [.ptr 5 0 0]), (5, .ptr 5 0 0), (2, .ptr 2 0 0)] [(20000, Blk.mk false 5 1 (F.eUs (F.cat (F.bldS z.fst) z.snd ++ ByteArray.mk (Array.mk [(10 : UInt8)])))), (9, Blk.mk true 0 0 [[(vS u), (vI m), (vB br), (vI d), (vS ky), (vB g), AV.sl (List.map eStr x)]]), (5, Blk.mk true 52 0 [[.ptr 5 0 0, .own 20000]]), (2, Blk.mk true 0 0 [[(vI t), (vI f), (vI b), AV.sl (List.map eEnt es), (vB en)]])]) else none else none else some (Ex.exit (2 : Nat), St.mk [(43, (vI (↑i : Int))), (42, (vI (↑(List.length es) : Int))), (41, AV.sl (List.map eEnt es)), (9, .ptr 9 0 0), (7, (vS key)), (6, AV.fn (17 : FuncId) [.ptr 5 0 0]), (5, .ptr 5 0 0), (2, .ptr 2 0 0)] [(20000, Blk.mk false 5 1 (F.eUs s)), (9, Blk.mk true 0 0 [[(vS u), (vI m), (vB br), (vI d), (vS ky), (vB g), AV.sl (List.map eStr x)]]), (5, Blk.mk true 52 0 [[.ptr 5 0 0, .own 20000]]), (2, Blk.mk true 0 0 [[(vI t), (vI f), (vI b), AV.sl (List.map eEnt es), (vB en)]])]) := (execR_bind _ _ _).symm.trans (by kernel_rfl)

theorem lpTx2_ok (t : Int) (f : Int) (b : Int) (es : List Ent) (en : Bool) (i : Nat) (key : ByteArray) (u : ByteArray) (m : Int) (br : Bool) (d : Int) (ky : ByteArray) (g : Bool) (x : List ByteArray) (s : ByteArray) (j : Nat) (hp : prlTx2 t f b es en i key u m br d ky g x s j = true) : ∀ ex s', (outTx2 t f b es en i key u m br d ky g x s j).val = some (ex, s') → LoopOK enTx (loopN Tryd.f10 1) (stTx2 t f b es en i key u m br d ky g x s j) ex s' := by
  simp only [prlTx2, Bool.and_eq_true, decide_eq_true_eq] at hp
  obtain ⟨⟨h1, h2⟩, h3⟩ := hp
  refine loop_gen (st := fun p : ByteArray × Nat => stTx2 t f b es en i key u m br d ky g x p.1 p.2) (out := fun p => outTx2 t f b es en i key u m br d ky g x p.1 p.2) (I := fun p => p.2 ≤ x.length ∧ (F.tX p.1 (x.drop p.2)).size ≤ 80000000) (n := ([50, 49, 48, 43, 42, 41, 9, 7, 6, 5, 2], [20000, 9, 5, 2])) (e := ([43, 42, 41, 9, 7, 6, 5, 2], [20000, 9, 5, 2])) (r := ([], [])) (fun p => x.length - p.2) ?_ (s, j) ⟨h2, h3⟩
  clear h2 h3
  rintro ⟨s, j⟩ ⟨h2, h3⟩
  simp only at h2 h3
  by_cases hlt : j < x.length
  · have hy : x[j]? = some x[j] := List.getElem?_eq_getElem hlt
    generalize x[j] = y at hy
    have hdd := drop_y hy
    rw [hdd, F.tX] at h3
    have hc := F.tX_le (x.drop (j + 1)) (F.pl s [y])
    have hc2 := F.pl_le s [y]
    have hc3 : F.cat s [y] = s ++ y := rfl
    right
    refine ⟨(F.pl s [y], j + 1), ?_, rfl, ⟨hlt, h3⟩, by simp only; omega, ?_⟩
    · rw [evTx2L]
      simp only [unIta, unDte, unDcm, unDsh, unPut, unWst, unBst, preIta1, preDte1, preDcm1, preDsh1, prePut1, preWst1, preBst1, unstTx1, unstTx2, unstTx10, unstTx20, prlTx1, prlTx2, outTx1, outTx2, etaEnt, etaLst, etaSnd, etaStrm, etaMas, Option.bind_some, List.length_map, unStrs, unInts, unBools, unEnts, unItms, unTrns, cond_true, cond_false, Bool.and_true, Bool.true_and, unWstU, unBstU, F.bldS_some, F.bldLen_some, cast_lt hlt, decide_eq_true hlt, getD_at hy, unPut1, resPut, fpl]
      rw [pre_ok s [y] (Nat.le_of_ble_eq_true rfl) (by omega), next_at hlt (by omega : x.length ≤ 9223372036854775807)]
      rfl
    · simp only [outTx2, hdd, F.tX]
  · have : j = x.length := by omega
    subst this
    left
    refine ⟨(.exit 2, ⟨[(43, vI i), (42, vI es.length), (41, .sl (es.map eEnt)), (9, .ptr 9 0 0), (7, vS key), (6, .fn 17 [.ptr 5 0 0]), (5, .ptr 5 0 0), (2, .ptr 2 0 0)], [(20000, ⟨false, 5, 1, F.eUs s⟩), (9, ⟨true, 0, 0, [[vS u, vI m, vB br, vI d, vS ky, vB g, .sl (x.map eStr)]]⟩), (5, ⟨true, 52, 0, [[.ptr 5 0 0, .own 20000]]⟩), (2, ⟨true, 0, 0, [[vI t, vI f, vI b, .sl (es.map eEnt), vB en]]⟩)]⟩), ?_, ?_, by simp, rfl⟩
    · rw [evTx2L]
      simp
    · simp only [outTx2, List.drop_length, F.tX]
      rfl

theorem evTx1L (t : Int) (f : Int) (b : Int) (es : List Ent) (en : Bool) (s : ByteArray) (key : ByteArray) (i : Nat) : ((exec enTx (loopN Tryd.f10 0) (stTx1 t f b es en s key i)).bind (lessX ([43, 42, 41, 7, 6, 5, 2], [20000, 5, 2]) ([6, 5, 2], [20000, 5, 2]) ([], []))).val =
  bif decide ((↑i : Int) < (↑(List.length es) : Int)) then Option.bind (unenc (List.map eEnt) (List.map eEnt es)) fun (z : List Ent) => bif decide (i < List.length z) then Option.bind (unenc stTx21 (St.mk [(50, (vI (0 : Int))), (49, (vI (↑(List.length (List.map eStr (List.getD z i (Ent.mk (ByteArray.mk (Array.mk [])) (0 : Int) false (0 : Int) (ByteArray.mk (Array.mk [])) false [])).extra)) : Int))), (48, AV.sl (List.map eStr (List.getD z i (Ent.mk (ByteArray.mk (Array.mk [])) (0 : Int) false (0 : Int) (ByteArray.mk (Array.mk [])) false [])).extra)), (43, (vI (↑i : Int))), (42, (vI (↑(List.length es) : Int))), (41, AV.sl (List.map eEnt es)), (9, .ptr 9 0 0), (7, (vS key)), (6, AV.fn (17 : FuncId) [.ptr 5 0 0]), (5, .ptr 5 0 0), (2, .ptr 2 0 0)] [(20000, Blk.mk false 5 1 (F.eUs s)), (9, Blk.mk true 0 0 [[(vS (List.getD z i (Ent.mk (ByteArray.mk (Array.mk [])) (0 : Int) false (0 : Int) (ByteArray.mk (Array.mk [])) false [])).uri), (vI (List.getD z i (Ent.mk (ByteArray.mk (Array.mk [])) (0 : Int) false (0 : Int) (ByteArray.mk (Array.mk [])) false [])).milli), (vB (List.getD z i (Ent.mk (ByteArray.mk (Array.mk [])) (0 : Int) false (0 : Int) (ByteArray.mk (Array.mk [])) false [])).brk), (vI (List.getD z i (Ent.mk (ByteArray.mk (Array.mk [])) (0 : Int) false (0 : Int) (ByteArray.mk (Array.mk [])) false [])).date), (vS (List.getD z i (Ent.mk (ByteArray.mk (Array.mk [])) (0 : Int) false (0 : Int) (ByteArray.mk (Array.mk [])) false [])).key), (vB (List.getD z i (Ent.mk (ByteArray.mk (Array.mk [])) (0 : Int) false (0 : Int) (ByteArray.mk (Array.mk [])) false [])).gap), AV.sl (List.map eStr (List.getD z i (Ent.mk (ByteArray.mk (Array.mk [])) (0 : Int) false (0 : Int) (ByteArray.mk (Array.mk [])) false [])).extra)]]), (5, Blk.mk true 52 0 [[.ptr 5 0 0, .own 20000]]), (2, Blk.mk true 0 0 [[(vI t), (vI f), (vI b), AV.sl (List.map eEnt es), (vB en)]])])) fun (z : Int × Int × Int × List Ent × Bool × Nat × ByteArray × ByteArray × Int × Bool × Int × ByteArray × Bool × List ByteArray × ByteArray × Nat) => bif decide (List.length z.snd.snd.snd.snd.snd.snd.snd.snd.snd.snd.snd.snd.snd.fst ≤ (1000 : Nat)) && decide (z.snd.snd.snd.snd.snd.snd.snd.snd.snd.snd.snd.snd.snd.snd.snd ≤ List.length z.snd.snd.snd.snd.snd.snd.snd.snd.snd.snd.snd.snd.snd.fst) && decide (ByteArray.size (F.tX z.snd.snd.snd.snd.snd.snd.snd.snd.snd.snd.snd.snd.snd.snd.fst (List.drop z.snd.snd.snd.snd.snd.snd.snd.snd.snd.snd.snd.snd.snd.snd.snd z.snd.snd.snd.snd.snd.snd.snd.snd.snd.snd.snd.snd.snd.fst)) ≤ (80000000 : Nat)) && true then bif z.snd.snd.snd.snd.snd.snd.snd.snd.snd.fst then Option.bind (unenc encPut ([.own 900, .ptr 901 0 0], [(902, Blk.mk false 5 1 (F.eUs (F.tX z.snd.snd.snd.snd.snd.snd.snd.snd.snd.snd.snd.snd.snd.snd.fst (List.drop z.snd.snd.snd.snd.snd.snd.snd.snd.snd.snd.snd.snd.snd.snd.snd z.snd.snd.snd.snd.snd.snd.snd.snd.snd.snd.snd.snd.snd.fst)))), (901, Blk.mk true 52 0 [[.ptr 901 0 0, .own 902]]), (900, Blk.mk false 9 1 [[(vS (ByteArray.mk (Array.mk [(35 : UInt8), (66 : UInt8), (82 : UInt8), (69 : UInt8), (65 : UInt8), (75 : UInt8)])))]])])) fun (z_1 : Option ByteArray × List ByteArray) => bif F.putB z_1.fst z_1.snd then bif match z_1.fst with | some val => false | none => true then none else bif decide ((0 : Int) ≤ z.snd.snd.snd.snd.snd.snd.snd.snd.snd.snd.fst) then Option.bind (unenc encDte [(vI z.snd.snd.snd.snd.snd.snd.snd.snd.snd.snd.fst)]) fun (z_2 : Int) => bif decide ((0 : Int) ≤ z_2) && decide (z_2 ≤ (253402300799999 : Int)) then Option.bind (unenc encPut ([.own 900, .ptr 901 0 0], [(902, Blk.mk false 5 1 (F.eUs (F.cat (F.bldS z_1.fst) z_1.snd ++ ByteArray.mk (Array.mk [(10 : UInt8)])))), (901, Blk.mk true 52 0 [[.ptr 901 0 0, .own 902]]), (900, Blk.mk false 9 1 [[(vS (ByteArray.mk (Array.mk [(35 : UInt8), (68 : UInt8), (65 : UInt8), (84 : UInt8), (69 : UInt8), (32 : UInt8)])))], [(vS (F.dtS z_2))]])])) fun (z_3 : Option ByteArray × List ByteArray) => bif F.putB z_3.fst z_3.snd then bif match z_3.fst with | some val => false | none => true then none else bif !ByteArray.toList z.snd.snd.snd.snd.snd.snd.snd.snd.snd.snd.snd.fst == ByteArray.toList z.snd.snd.snd.snd.snd.snd.fst then Option.bind (unenc encDsh [(vS z.snd.snd.snd.snd.snd.snd.snd.snd.snd.snd.snd.fst)]) fun (z_4 : ByteArray) => Option.bind (unenc encPut ([.own 900, .ptr 901 0 0], [(902, Blk.mk false 5 1 (F.eUs (F.cat (F.bldS z_3.fst) z_3.snd ++ ByteArray.mk (Array.mk [(10 : UInt8)])))), (901, Blk.mk true 52 0 [[.ptr 901 0 0, .own 902]]), (900, Blk.mk false 9 1 [[(vS (ByteArray.mk (Array.mk [(35 : UInt8), (75 : UInt8), (69 : UInt8), (89 : UInt8), (32 : UInt8)])))], [(vS (F.dsh z_4))]])])) fun (z_5 : Option ByteArray × List ByteArray) => bif F.putB z_5.fst z_5.snd then bif match z_5.fst with | some val => false | none => true then none else bif z.snd.snd.snd.snd.snd.snd.snd.snd.snd.snd.snd.snd.fst then Option.bind (unenc encPut ([.own 900, .ptr 901 0 0], [(902, Blk.mk false 5 1 (F.eUs (F.cat (F.bldS z_5.fst) z_5.snd ++ ByteArray.mk (Array.mk [(10 : UInt8)])))), (901, Blk.mk true 52 0 [[.ptr 901 0 0, .own 902]]), (900, Blk.mk false 9 1 [[(vS (ByteArray.mk (Array.mk [(35 : UInt8), (71 : UInt8), (65 : UInt8), (80 : UInt8)])))]])])) fun (z_6 : Option ByteArray × List ByteArray) => bif F.putB z_6.fst z_6.snd then bif match z_6.fst with | some val => false | none => true then none else Option.bind (unenc encDcm [(vI z.snd.snd.snd.snd.snd.snd.snd.snd.fst), (vI (1000 : Int)), (vI (3 : Int))]) fun (z_7 : Int) => bif decide ((0 : Int) ≤ z_7) && decide (z_7 ≤ (3600000 : Int)) then Option.bind (unenc encPut ([.own 900, .ptr 901 0 0], [(902, Blk.mk false 5 1 (F.eUs (F.cat (F.bldS z_6.fst) z_6.snd ++ ByteArray.mk (Array.mk [(10 : UInt8)])))), (901, Blk.mk true 52 0 [[.ptr 901 0 0, .own 902]]), (900, Blk.mk false 9 1 [[(vS (ByteArray.mk (Array.mk [(35 : UInt8), (84 : UInt8), (73 : UInt8), (77 : UInt8), (69 : UInt8), (32 : UInt8)])))], [(vS (F.tmS z_7))]])])) fun (z_8 : Option ByteArray × List ByteArray) => bif F.putB z_8.fst z_8.snd then bif match z_8.fst with | some val => false | none => true then none else Option.bind (unenc encPut ([.own 900, .ptr 901 0 0], [(902, Blk.mk false 5 1 (F.eUs (F.cat (F.bldS z_8.fst) z_8.snd ++ ByteArray.mk (Array.mk [(10 : UInt8)])))), (901, Blk.mk true 52 0 [[.ptr 901 0 0, .own 902]]), (900, Blk.mk false 9 1 [[(vS z.snd.snd.snd.snd.snd.snd.snd.fst)]])])) fun (z_9 : Option ByteArray × List ByteArray) => bif F.putB z_9.fst z_9.snd then bif match z_9.fst with | some val => false | none => true then none else some (Ex.normal, St.mk [(43, (vI (IntKind.wrap IntKind.i64 ((↑z.snd.snd.snd.snd.snd.fst : Int) + (1 : Int))))), (42, (vI (↑(List.length z.snd.snd.snd.fst) : Int))), (41, AV.sl (List.map eEnt z.snd.snd.snd.fst)), (7, (vS z.snd.snd.snd.snd.snd.snd.snd.snd.snd.snd.snd.fst)), (6, AV.fn (17 : FuncId) [.ptr 5 0 0]), (5, .ptr 5 0 0), (2, .ptr 2 0 0)] [(20000, Blk.mk false 5 1 (F.eUs (F.cat (F.bldS z_9.fst) z_9.snd ++ ByteArray.mk (Array.mk [(10 : UInt8)])))), (5, Blk.mk true 52 0 [[.ptr 5 0 0, .own 20000]]), (2, Blk.mk true 0 0 [[(vI z.fst), (vI z.snd.fst), (vI z.snd.snd.fst), AV.sl (List.map eEnt z.snd.snd.snd.fst), (vB z.snd.snd.snd.snd.fst)]])]) else none else none else none else none else Option.bind (unenc encDcm [(vI z.snd.snd.snd.snd.snd.snd.snd.snd.fst), (vI (1000 : Int)), (vI (3 : Int))]) fun (z_6 : Int) => bif decide ((0 : Int) ≤ z_6) && decide (z_6 ≤ (3600000 : Int)) then Option.bind (unenc encPut ([.own 900, .ptr 901 0 0], [(902, Blk.mk false 5 1 (F.eUs (F.cat (F.bldS z_5.fst) z_5.snd ++ ByteArray.mk (Array.mk [(10 : UInt8)])))), (901, Blk.mk true 52 0 [[.ptr 901 0 0, .own 902]]), (900, Blk.mk false 9 1 [[(vS (ByteArray.mk (Array.mk [(35 : UInt8), (84 : UInt8), (73 : UInt8), (77 : UInt8), (69 : UInt8), (32 : UInt8)])))], [(vS (F.tmS z_6))]])])) fun (z_7 : Option ByteArray × List ByteArray) => bif F.putB z_7.fst z_7.snd then bif match z_7.fst with | some val => false | none => true then none else Option.bind (unenc encPut ([.own 900, .ptr 901 0 0], [(902, Blk.mk false 5 1 (F.eUs (F.cat (F.bldS z_7.fst) z_7.snd ++ ByteArray.mk (Array.mk [(10 : UInt8)])))), (901, Blk.mk true 52 0 [[.ptr 901 0 0, .own 902]]), (900, Blk.mk false 9 1 [[(vS z.snd.snd.snd.snd.snd.snd.snd.fst)]])])) fun (z_8 : Option ByteArray × List ByteArray) => bif F.putB z_8.fst z_8.snd then bif match z_8.fst with | some val => false | none => true then none else some (Ex.normal, St.mk [(43, (vI (IntKind.wrap IntKind.i64 ((↑z.snd.snd.snd.snd.snd.fst : Int) + (1 : Int))))), (42, (vI (↑(List.length z.snd.snd.snd.fst) : Int))), (41, AV.sl (List.map eEnt z.snd.snd.snd.fst)), (7, (vS z.snd.snd.snd.snd.snd.snd.snd.snd.snd.snd.snd.fst)), (6, AV.fn (17 : FuncId) [.ptr 5 0 0]), (5, .ptr 5 0 0), (2, .ptr 2 0 0)] [(20000, Blk.mk false 5 1 (F.eUs (F.cat (F.bldS z_8.fst) z_8.snd ++ ByteArray.mk (Array.mk [(10 : UInt8)])))), (5, Blk.mk true 52 0 [[.ptr 5 0 0, .own 20000]]), (2, Blk.mk true 0 0 [[(vI z.fst), (vI z.snd.fst), (vI z.snd.snd.fst), AV.sl (List.map eEnt z.snd.snd.snd.fst), (vB z.snd.snd.snd.snd.fst)]])]) else none else none else none else none else bif z.snd.snd.snd.snd.snd.snd.snd.snd.snd.snd.snd.snd.fst then Option.bind (unenc encPut ([.own 900, .ptr 901 0 0], [(902, Blk.mk false 5 1 (F.eUs (F.cat (F.bldS z_3.fst) z_3.snd ++ ByteArray.mk (Array.mk [(10 : UInt8)])))), (901, Blk.mk true 52 0 [[.ptr 901 0 0, .own 902]]), (900, Blk.mk false 9 1 [[(vS (ByteArray.mk (Array.mk [(35 : UInt8), (71 : UInt8), (65 : UInt8), (80 : UInt8)])))]])])) fun (z_4 : Option ByteArray × List ByteArray) => bif F.putB z_4.fst z_4.snd then bif match z_4.fst with | some val => false | none => true then none else Option.bind (unenc encDcm [(vI z.snd.snd.snd.snd.snd.snd.snd.snd.fst), (vI (1000 : Int)), (vI (3 : Int))]) fun (z_5 : Int) => bif decide ((0 : Int) ≤ z_5) && decide (z_5 ≤ (3600000 : Int)) then Option.bind (unenc encPut ([.own 900, .ptr 901 0 0], [(902, Blk.mk false 5 1 (F.eUs (F.cat (F.bldS z_4.fst) z_4.snd ++ ByteArray.mk (Array.mk [(10 : UInt8)])))), (901, Blk.mk true 52 0 [[.ptr 901 0 0, .own 902]]), (900, Blk.mk false 9 1 [[(vS (ByteArray.mk (Array.mk [(35 : UInt8), (84 : UInt8), (73 : UInt8), (77 : UInt8), (69 : UInt8), (32 : UInt8)])))], [(vS (F.tmS z_5))]])])) fun (z_6 : Option ByteArray × List ByteArray) => bif F.putB z_6.fst z_6.snd then bif match z_6.fst with | some val => false | none => true then none else Option.bind (unenc encPut ([.own 900, .ptr 901 0 0], [(902, Blk.mk false 5 1 (F.eUs (F.cat (F.bldS z_6.fst) z_6.snd ++ ByteArray.mk (Array.mk [(10 : UInt8)])))), (901, Blk.mk true 52 0 [[.ptr 901 0 0, .own 902]]), (900, Blk.mk false 9 1 [[(vS z.snd.snd.snd.snd.snd.snd.snd.fst)]])])) fun (z_7 : Option ByteArray × List ByteArray) => bif F.putB z_7.fst z_7.snd then bif match z_7.fst with | some val => false | none => true then none else some (Ex.normal, St.mk [(43, (vI (IntKind.wrap IntKind.i64 ((↑z.snd.snd.snd.snd.snd.fst : Int) + (1 : Int))))), (42, (vI (↑(List.length z.snd.snd.snd.fst) : Int))), (41, AV.sl (List.map eEnt z.snd.snd.snd.fst)), (7, (vS z.snd.snd.snd.snd.snd.snd.fst)), (6, AV.fn (17 : FuncId) [.ptr 5 0 0]), (5, .ptr 5 0 0), (2, .ptr 2 0 0)] [(20000, Blk.mk false 5 1 (F.eUs (F.cat (F.bldS z_7.fst) z_7.snd ++ ByteArray.mk (Array.mk [(10 : UInt8)])))), (5, Blk.mk true 52 0 [[.ptr 5 0 0, .own 20000]]), (2, Blk.mk true 0 0 [[(vI z.fst), (vI z.snd.fst), (vI z.snd.snd.fst), AV.sl (List.map eEnt z.snd.snd.snd.fst), (vB z.snd.snd.snd.snd.fst)]])]) else none else none else none else none else Option.bind (unenc encDcm [(vI z.snd.snd.snd.snd.snd.snd.snd.snd.fst), (vI (1000 : Int)), (vI (3 : Int))]) fun (z_4 : Int) => bif decide ((0 : Int) ≤ z_4) && decide (z_4 ≤ (3600000 : Int)) then Option.bind (unenc encPut ([.own 900, .ptr 901 0 0], [(902, Blk.mk false 5 1 (F.eUs (F.cat (F.bldS z_3.fst) z_3.snd ++ ByteArray.mk (Array.mk [(10 : UInt8)])))), (901, Blk.mk true 52 0 [[.ptr 901 0 0, .own 902]]), (900, Blk.mk false 9 1 [[(vS (ByteArray.mk (Array.mk [(35 : UInt8), (84 : UInt8), (73 : UInt8), (77 : UInt8), (69 : UInt8), (32 : UInt8)])))], [(vS (F.tmS z_4))]])])) fun (z_5 : Option ByteArray × List ByteArray) => bif F.putB z_5.fst z_5.snd then bif match z_5.fst with | some val => false | none => true then none else Option.bind (unenc encPut ([.own 900, .ptr 901 0 0], [(902, Blk.mk false 5 1 (F.eUs (F.cat (F.bldS z_5.fst) z_5.snd ++ ByteArray.mk (Array.mk [(10 : UInt8)])))), (901, Blk.mk true 52 0 [[.ptr 901 0 0, .own 902]]), (900, Blk.mk false 9 1 [[(vS z.snd.snd.snd.snd.snd.snd.snd.fst)]])])) fun (z_6 : Option ByteArray × List ByteArray) => bif F.putB z_6.fst z_6.snd then bif match z_6.fst with | some val => false | none => true then none else some (Ex.normal, St.mk [(43, (vI (IntKind.wrap IntKind.i64 ((↑z.snd.snd.snd.snd.snd.fst : Int) + (1 : Int))))), (42, (vI (↑(List.length z.snd.snd.snd.fst) : Int))), (41, AV.sl (List.map eEnt z.snd.snd.snd.fst)), (7, (vS z.snd.snd.snd.snd.snd.snd.fst)), (6, AV.fn (17 : FuncId) [.ptr 5 0 0]), (5, .ptr 5 0 0), (2, .ptr 2 0 0)] [(20000, Blk.mk false 5 1 (F.eUs (F.cat (F.bldS z_6.fst) z_6.snd ++ ByteArray.mk (Array.mk [(10 : UInt8)])))), (5, Blk.mk true 52 0 [[.ptr 5 0 0, .own 20000]]), (2, Blk.mk true 0 0 [[(vI z.fst), (vI z.snd.fst), (vI z.snd.snd.fst), AV.sl (List.map eEnt z.snd.snd.snd.fst), (vB z.snd.snd.snd.snd.fst)]])]) else none else none else none else none else none else bif !ByteArray.toList z.snd.snd.snd.snd.snd.snd.snd.snd.snd.snd.snd.fst == ByteArray.toList z.snd.snd.snd.snd.snd.snd.fst then Option.bind (unenc encDsh [(vS z.snd.snd.snd.snd.snd.snd.snd.snd.snd.snd.snd.fst)]) fun (z_2 : ByteArray) => Option.bind (unenc encPut ([.own 900, .ptr 901 0 0], [(902, Blk.mk false 5 1 (F.eUs (F.cat (F.bldS z_1.fst) z_1.snd ++ ByteArray.mk (Array.mk [(10 : UInt8)])))), (901, Blk.mk true 52 0 [[.ptr 901 0 0, .own 902]]), (900, Blk.mk false 9 1 [[(vS (ByteArray.mk (Array.mk [(35 : UInt8), (75 : UInt8), (69 : UInt8), (89 : UInt8), (32 : UInt8)])))], [(vS (F.dsh z_2))]])])) fun (z_3 : Option ByteArray × List ByteArray) => bif F.putB z_3.fst z_3.snd then bif match z_3.fst with | some val => false | none => true then none else bif z.snd.snd.snd.snd.snd.snd.snd.snd.snd.snd.snd.snd.fst then Option.bind (unenc encPut ([.own 900, .ptr 901 0 0], [(902, Blk.mk false 5 1 (F.eUs (F.cat (F.bldS z_3.fst) z_3.snd ++ ByteArray.mk (Array.mk [(10 : UInt8)])))), (901, Blk.mk true 52 0 [[.ptr 901 0 0, .own 902]]), (900, Blk.mk false 9 1 [[(vS (ByteArray.mk (Array.mk [(35 : UInt8), (71 : UInt8), (65 : UInt8), (80 : UInt8)])))]])])) fun (z_4 : Option ByteArray × List ByteArray) => bif F.putB z_4.fst z_4.snd then bif match z_4.fst with | some val => false | none => true then none else Option.bind (unenc encDcm [(vI z.snd.snd.snd.snd.snd.snd.snd.snd.fst), (vI (1000 : Int)), (vI (3 : Int))]) fun (z_5 : Int) => bif decide ((0 : Int) ≤ z_5) && decide (z_5 ≤ (3600000 : Int)) then Option.bind (unenc encPut ([.own 900, .ptr 901 0 0], [(902, Blk.mk false 5 1 (F.eUs (F.cat (F.bldS z_4.fst) z_4.snd ++ ByteArray.mk (Array.mk [(10 : UInt8)])))), (901, Blk.mk true 52 0 [[.ptr 901 0 0, .own 902]]), (900, Blk.mk false 9 1 [[(vS (ByteArray.mk (Array.mk [(35 : UInt8), (84 : UInt8), (73 : UInt8), (77 : UInt8), (69 : UInt8), (32 : UInt8)])))], [(vS (F.tmS z_5))]])])) fun (z_6 : Option ByteArray × List ByteArray) => bif F.putB z_6.fst z_6.snd then bif match z_6.fst with | some val => false | none => true then none else Option.bind (unenc encPut ([.own 900, .ptr 901 0 0], [(902, Blk.mk false 5 1 (F.eUs (F.cat (F.bldS z_6.fst) z_6.snd ++ ByteArray.mk (Array.mk [(10 : UInt8)])))), (901, Blk.mk true 52 0 [[.ptr 901 0 0, .own 902]]), (900, Blk.mk false 9 1 [[(vS z.snd.snd.snd.snd.snd.snd.snd.fst)]])])) fun (z_7 : Option ByteArray × List ByteArray) => bif F.putB z_7.fst z_7.snd then bif match z_7.fst with | some val => false | none => true then none else some (Ex.normal, St.mk [(43, (vI (IntKind.wrap IntKind.i64 ((↑z.snd.snd.snd.snd.snd.fst : Int) + (1 : Int))))), (42, (vI (↑(List.length z.snd.snd.snd.fst) : Int))), (41, AV.sl (List.map eEnt z.snd.snd.snd.fst)), (7, (vS z.snd.snd.snd.snd.snd.snd.snd.snd.snd.snd.snd.fst)), (6, AV.fn (17 : FuncId) [.ptr 5 0 0]), (5, .ptr 5 0 0), (2, .ptr 2 0 0)] [(20000, Blk.mk false 5 1 (F.eUs (F.cat (F.bldS z_7.fst) z_7.snd ++ ByteArray.mk (Array.mk [(10 : UInt8)])))), (5, Blk.mk true 52 0 [[.ptr 5 0 0, .own 20000]]), (2, Blk.mk true 0 0 [[(vI z.fst), (vI z.snd.fst), (vI z.snd.snd.fst), AV.sl (List.map eEnt z.snd.snd.snd.fst), (vB z.snd.snd.snd.snd.fst)]])]) else none else none else none else none else Option.bind (unenc encDcm [(vI z.snd.snd.snd.snd.snd.snd.snd.snd.fst), (vI (1000 : Int)), (vI (3 : Int))]) fun (z_4 : Int) => bif decide ((0 : Int) ≤ z_4) && decide (z_4 ≤ (3600000 : Int)) then Option.bind (unenc encPut ([.own 900, .ptr 901 0 0], [(902, Blk.mk false 5 1 (F.eUs (F.cat (F.bldS z_3.fst) z_3.snd ++ ByteArray.mk (Array.mk [(10 : UInt8)])))), (901, Blk.mk true 52 0 [[.ptr 901 0 0, .own 902]]), (900, Blk.mk false 9 1 [[(vS (ByteArray.mk (Array.mk [(35 : UInt8), (84 : UInt8), (73 : UInt8), (77 : UInt8), (69 : UInt8), (32 : UInt8)])))], [(vS (F.tmS z_4))]])])) fun (z_5 : Option ByteArray × List ByteArray) => bif F.putB z_5.fst z_5.snd then bif match z_5.fst with | some val => false | none => true then none else Option.bind (unenc encPut ([.own 900, .ptr 901 0 0], [(902, Blk.mk false 5 1 (F.eUs (F.cat (F.bldS z_5.fst) z_5.snd ++ ByteArray.mk (Array.mk [(10 : UInt8)])))), (901, Blk.mk true 52 0 [[.ptr 901 0 0, .own 902]]), (900, Blk.mk false 9 1 [[(vS z.snd.snd.snd.snd.snd.snd.snd.fst)]])])) fun (z_6 : Option ByteArray × List ByteArray) => bif F.putB z_6.fst z_6.snd then bif match z_6.fst with | some val => false | none => true then none else some (Ex.normal, St.mk [(43, (vI (IntKind.wrap IntKind.i64 ((↑z.snd.snd.snd.snd.snd.fst : Int) + (1 : Int))))), (42, (vI (↑(List.length z.snd.snd.snd.fst) : Int))), (41, AV.sl (List.map eEnt z.snd.snd.snd.fst)), (7, (vS z.snd.snd.snd.snd.snd.snd.snd.snd.snd.snd.snd.fst)), (6, AV.fn (17 : FuncId) [.ptr 5 0 0]), (5, .ptr 5 0 0), (2, .ptr 2 0 0)] [(20000, Blk.mk false 5 1 (F.eUs (F.cat (F.bldS z_6.fst) z_6.snd ++ ByteArray.mk (Array.mk [(10 : UInt8)])))), (5, Blk.mk true 52 0 [[.ptr 5 0 0, .own 20000]]), (2, Blk.mk true 0 0 [[(vI z.fst), (vI z.snd.fst), (vI z.snd.snd.fst), AV.sl (List.map eEnt z.snd.snd.snd.fst), (vB z.snd.snd.snd.snd.fst)]])]) else none else none else none else none else bif z.snd.snd.snd.snd.snd.snd.snd.snd.snd.snd.snd.snd.fst then Option.bind (unenc encPut ([.own 900, .ptr 901 0 0], [(902, Blk.mk false 5 1 (F.eUs (F.cat (F.bldS z_1.fst) z_1.snd ++ ByteArray.mk (Array.mk [(10 : UInt8)])))), (901, Blk.mk true 52 0 [[.ptr 901 0 0, .own 902]]), (900, Blk.mk false 9 1 [[(vS (ByteArray.mk (Array.mk [(35 : UInt8), (71 : UInt8), (65 : UInt8), (80 : UInt8)])))]])])) fun (z_2 : Option ByteArray × List ByteArray) => bif F.putB z_2.fst z_2.snd then bif match z_2.fst with | some val => false | none => true then none else Option.bind (unenc encDcm [(vI z.snd.snd.snd.snd.snd.snd.snd.snd.fst), (vI (1000 : Int)), (vI (3 : Int))]) fun (z_3 : Int) => bif decide ((0 : Int) ≤ z_3) && decide (z_3 ≤ (3600000 : Int)) then Option.bind (unenc encPut ([.own 900, .ptr 901 0 0], [(902, Blk.mk false 5 1 (F.eUs (F.cat (F.bldS z_2.fst) z_2.snd ++ ByteArray.mk (Array.mk [(10 : UInt8)])))), (901, Blk.mk true 52 0 [[.ptr 901 0 0, .own 902]]), (900, Blk.mk false 9 1 [[(vS (ByteArray.mk (Array.mk [(35 : UInt8), (84 : UInt8), (73 : UInt8), (77 : UInt8), (69 : UInt8), (32 : UInt8)])))], [(vS (F.tmS z_3))]])])) fun (z_4 : Option ByteArray × List ByteArray) => bif F.putB z_4.fst z_4.snd then bif match z_4.fst with | some val => false | none => true then none else Option.bind (unenc encPut ([.own 900, .ptr 901 0 0], [(902, Blk.mk false 5 1 (F.eUs (F.cat (F.bldS z_4.fst) z_4.snd ++ ByteArray.mk (Array.mk [(10 : UInt8)])))), (901, Blk.mk true 52 0 [[.ptr 901 0 0, .own 902]]), (900, Blk.mk false 9 1 [[(vS z.snd.snd.snd.snd.snd.snd.snd.fst)]])])) fun (z_5 : Option ByteArray × List ByteArray) => bif F.putB z_5.fst z_5.snd then bif match z_5.fst with | some val => false | none => true then none else some (Ex.normal, St.mk [(43, (vI (IntKind.wrap IntKind.i64 ((↑z.snd.snd.snd.snd.snd.fst : Int) + (1 : Int))))), (42, (vI (↑(List.length z.snd.snd.snd.fst) : Int))), (41, AV.sl (List.map eEnt z.snd.snd.snd.fst)), (7, (vS z.snd.snd.snd.snd.snd.snd.fst)), (6, AV.fn (17 : FuncId) [.ptr 5 0 0]), (5, .ptr 5 0 0), (2, .ptr 2 0 0)] [(20000, Blk.mk false 5 1 (F.eUs (F.cat (F.bldS z_5.fst) z_5.snd ++ ByteArray.mk (Array.mk [(10 : UInt8)])))), (5, Blk.mk true 52 0 [[.ptr 5 0 0, .own 20000]]), (2, Blk.mk true 0 0 [[(vI z.fst), (vI z.snd.fst), (vI z.snd.snd.fst), AV.sl (List.map eEnt z.snd.snd.snd.fst), (vB z.snd.snd.snd.snd.fst)]])]) else none else none else none else none else Option.bind (unenc encDcm [(vI z.snd.snd.snd.snd.snd.snd.snd.snd.fst), (vI (1000 : Int)), (vI (3 : Int))]) fun (z_2 : Int) => bif decide ((0 : Int) ≤ z_2) && decide (z_2 ≤ (3600000 : Int)) then Option.bind (unenc encPut ([.own 900, .ptr 901 0 0], [(902, Blk.mk false 5 1 (F.eUs (F.cat (F.bldS z_1.fst) z_1.snd ++ ByteArray.mk (Array.mk [(10 : UInt8)])))), (901, Blk.mk true 52 0 [[.ptr 901 0 0, .own 902]]), (900, Blk.mk false 9 1 [[(vS (ByteArray.mk (Array.mk [(35 : UInt8), (84 : UInt8), (73 : UInt8), (77 : UInt8), (69 : UInt8), (32 : UInt8)])))], [(vS (F.tmS z_2))]])])) fun (z_3 : Option ByteArray × List ByteArray) => bif F.putB z_3.fst z_3.snd then bif match z_3.fst with | some val => false | none => true then none else Option.bind (unenc encPut ([.own 900, .ptr 901 0 0], [(902, Blk.mk false 5 1 (F.eUs (F.cat (F.bldS z_3.fst) z_3.snd ++ ByteArray.mk (Array.mk [(10 : UInt8)])))), (901, Blk.mk true 52 0 [[.ptr 901 0 0, .own 902]]), (900, Blk.mk false 9 1 [[(vS z.snd.snd.snd.snd.snd.snd.snd.fst)]])])) fun (z_4 : Option ByteArray × List ByteArray) => bif F.putB z_4.fst z_4.snd then bif match z_4.fst with | some val => false | none => true then none else some (Ex.normal, St.mk [(43, (vI (IntKind.wrap IntKind.i64 ((↑z.snd.snd.snd.snd.snd.fst : Int) + (1 : Int))))), (42, (vI (↑(List.length z.snd.snd.snd.fst) : Int))), (41, AV.sl (List.map eEnt z.snd.snd.snd.fst)), (7, (vS z.snd.snd.snd.snd.snd.snd.fst)), (6, AV.fn (17 : FuncId) [.ptr 5 0 0]), (5, .ptr 5 0 0), (2, .ptr 2 0 0)] [(20000, Blk.mk false 5 1 (F.eUs (F.cat (F.bldS z_4.fst) z_4.snd ++ ByteArray.mk (Array.mk [(10 : UInt8)])))), (5, Blk.mk true 52 0 [[.ptr 5 0 0, .own 20000]]), (2, Blk.mk true 0 0 [[(vI z.fst), (vI z.snd.fst), (vI z.snd.snd.fst), AV.sl (List.map eEnt z.snd.snd.snd.fst), (vB z.snd.snd.snd.snd.fst)]])]) else none else none else none else none else bif decide ((0 : Int) ≤ z.snd.snd.snd.snd.snd.snd.snd.snd.snd.snd.fst) then Option.bind (unenc encDte [(vI z.snd.snd.snd.snd.snd.snd.snd.snd.snd.snd.fst)]) fun (z_1 : Int) => bif decide ((0 : Int) ≤ z_1) && decide (z_1 ≤ (253402300799999 : Int)) then Option.bind (unenc encPut ([.own 900, .ptr 901 0 0], [(902, Blk.mk false 5 1 (F.eUs (F.tX z.snd.snd.snd.snd.snd.snd.snd.snd.snd.snd.snd.snd.snd.snd.fst (List.drop z.snd.snd.snd.snd.snd.snd.snd.snd.snd.snd.snd.snd.snd.snd.snd z.snd.snd.snd.snd.snd.snd.snd.snd.snd.snd.snd.snd.snd.fst)))), (901, Blk.mk true 52 0 [[.ptr 901 0 0, .own 902]]), (900, Blk.mk false 9 1 [[(vS (ByteArray.mk (Array.mk [(35 : UInt8), (68 : UInt8), (65 : UInt8), (84 : UInt8), (69 : UInt8), (32 : UInt8)])))], [(vS (F.dtS z_1))]])])) fun (z_2 : Option ByteArray × List ByteArray) => bif F.putB z_2.fst z_2.snd then bif match z_2.fst with | some val => false | none => true then none else bif !ByteArray.toList z.snd.snd.snd.snd.snd.snd.snd.snd.snd.snd.snd.fst == ByteArray.toList z.snd.snd.snd.snd.snd.snd.fst then Option.bind (unenc encDsh [(vS z.snd.snd.snd.snd.snd.snd.snd.snd.snd.snd.snd.fst)]) fun (z_3 : ByteArray) => Option.bind (unenc encPut ([.own 900, .ptr 901 0 0], [(902, Blk.mk false 5 1 (F.eUs (F.cat (F.bldS z_2.fst) z_2.snd ++ ByteArray.mk (Array.mk [(10 : UInt8)])))), (901, Blk.mk true 52 0 [[.ptr 901 0 0, .own 902]]), (900, Blk.mk false 9 1 [[(vS (ByteArray.mk (Array.mk [(35 : UInt8), (75 : UInt8), (69 : UInt8), (89 : UInt8), (32 : UInt8)])))], [(vS (F.dsh z_3))]])])) fun (z_4 : Option ByteArray × List ByteArray) => bif F.putB z_4.fst z_4.snd then bif match z_4.fst with | some val => false | none => true then none else bif z.snd.snd.snd.snd.snd.snd.snd.snd.snd.snd.snd.snd.fst then Option.bind (unenc encPut ([.own 900, .ptr 901 0 0], [(902, Blk.mk false 5 1 (F.eUs (F.cat (F.bldS z_4.fst) z_4.snd ++ ByteArray.mk (Array.mk [(10 : UInt8)])))), (901, Blk.mk true 52 0 [[.ptr 901 0 0, .own 902]]), (900, Blk.mk false 9 1 [[(vS (ByteArray.mk (Array.mk [(35 : UInt8), (71 : UInt8), (65 : UInt8), (80 : UInt8)])))]])])) fun (z_5 : Option ByteArray × List ByteArray) => bif F.putB z_5.fst z_5.snd then bif match z_5.fst with | some val => false | none => true then none else Option.bind (unenc encDcm [(vI z.snd.snd.snd.snd.snd.snd.snd.snd.fst), (vI (1000 : Int)), (vI (3 : Int))]) fun (z_6 : Int) => bif decide ((0 : Int) ≤ z_6) && decide (z_6 ≤ (3600000 : Int)) then Option.bind (unenc encPut ([.own 900, .ptr 901 0 0], [(902, Blk.mk false 5 1 (F.eUs (F.cat (F.bldS z_5.fst) z_5.snd ++ ByteArray.mk (Array.mk [(10 : UInt8)])))), (901, Blk.mk true 52 0 [[.ptr 901 0 0, .own 902]]), (900, Blk.mk false 9 1 [[(vS (ByteArray.mk (Array.mk [(35 : UInt8), (84 : UInt8), (73 : UInt8), (77 : UInt8), (69 : UInt8), (32 : UInt8)])))], [(vS (F.tmS z_6))]])])) fun (z_7 : Option ByteArray × List ByteArray) => bif F.putB z_7.fst z_7.snd then bif match z_7.fst with | some val => false | none => true then none else Option.bind (unenc encPut ([.own 900, .ptr 901 0 0], [(902, Blk.mk false 5 1 (F.eUs (F.cat (F.bldS z_7.fst) z_7.snd ++ ByteArray.mk (Array.mk [(10 : UInt8)])))), (901, Blk.mk true 52 0 [[.ptr 901 0 0, .own 902]]), (900, Blk.mk false 9 1 [[(vS z.snd.snd.snd.snd.snd.snd.snd.fst)]])])) fun (z_8 : Option ByteArray × List ByteArray) => bif F.putB z_8.fst z_8.snd then bif match z_8.fst with | some val => false | none => true then none else some (Ex.normal, St.mk [(43, (vI (IntKind.wrap IntKind.i64 ((↑z.snd.snd.snd.snd.snd.fst : Int) + (1 : Int))))), (42, (vI (↑(List.length z.snd.snd.snd.fst) : Int))), (41, AV.sl (List.map eEnt z.snd.snd.snd.fst)), (7, (vS z.snd.snd.snd.snd.snd.snd.snd.snd.snd.snd.snd.fst)), (6, AV.fn (17 : FuncId) [.ptr 5 0 0]), (5, .ptr 5 0 0), (2, .ptr 2 0 0)] [(20000, Blk.mk false 5 1 (F.eUs (F.cat (F.bldS z_8.fst) z_8.snd ++ ByteArray.mk (Array.mk [(10 : UInt8)])))), (5, Blk.mk true 52 0 [[.ptr 5 0 0, .own 20000]]), (2, Blk.mk true 0 0 [[(vI z.fst), (vI z.snd.fst), (vI z.snd.snd.fst), AV.sl (List.map eEnt z.snd.snd.snd.fst), (vB z.snd.snd.snd.snd.fst)]])]) else none else none else none else none else Option.bind (unenc encDcm [(vI z.snd.snd.snd.snd.snd.snd.snd.snd.fst), (vI (1000 : Int)), (vI (3 : Int))]) fun (z_5 : Int) => bif decide ((0 : Int) ≤ z_5) && decide (z_5 ≤ (3600000 : Int)) then Option.bind (unenc encPut ([.own 900, .ptr 901 0 0], [(902, Blk.mk false 5 1 (F.eUs (F.cat (F.bldS z_4.fst) z_4.snd ++ ByteArray.mk (Array.mk [(10 : UInt8)])))), (901, Blk.mk true 52 0 [[.ptr 901 0 0, .own 902]]), (900, Blk.mk false 9 1 [[(vS (ByteArray.mk (Array.mk [(35 : UInt8), (84 : UInt8), (73 : UInt8), (77 : UInt8), (69 : UInt8), (32 : UInt8)])))], [(vS (F.tmS z_5))]])])) fun (z_6 : Option ByteArray × List ByteArray) => bif F.putB z_6.fst z_6.snd then bif match z_6.fst with | some val => false | none => true then none else Option.bind (unenc encPut ([.own 900, .ptr 901 0 0], [(902, Blk.mk false 5 1 (F.eUs (F.cat (F.bldS z_6.fst) z_6.snd ++ ByteArray.mk (Array.mk [(10 : UInt8)])))), (901, Blk.mk true 52 0 [[.ptr 901 0 0, .own 902]]), (900, Blk.mk false 9 1 [[(vS z.snd.snd.snd.snd.snd.snd.snd.fst)]])])) fun (z_7 : Option ByteArray × List ByteArray) => bif F.putB z_7.fst z_7.snd then bif match z_7.fst with | some val => false | none => true then none else some (Ex.normal, St.mk [(43, (vI (IntKind.wrap IntKind.i64 ((↑z.snd.snd.snd.snd.snd.fst : Int) + (1 : Int))))), (42, (vI (↑(List.length z.snd.snd.snd.fst) : Int))), (41, AV.sl (List.map eEnt z.snd.snd.snd.fst)), (7, (vS z.snd.snd.snd.snd.snd.snd.snd.snd.snd.snd.snd.fst)), (6, AV.fn (17 : FuncId) [.ptr 5 0 0]), (5, .ptr 5 0 0), (2, .ptr 2 0 0)] [(20000, Blk.mk false 5 1 (F.eUs (F.cat (F.bldS z_7.fst) z_7.snd ++ ByteArray.mk (Array.mk [(10 : UInt8)])))), (5, Blk.mk true 52 0 [[.ptr 5 0 0, .own 20000]]), (2, Blk.mk true 0 0 [[(vI z.fst), (vI z.snd.fst), (vI z.snd.snd.fst), AV.sl (List.map eEnt z.snd.snd.snd.fst), (vB z.snd.snd.snd.snd.fst)]])]) else none else none else none else none else bif z.snd.snd.snd.snd.snd.snd.snd.snd.snd.snd.snd.snd.fst then Option.bind (unenc encPut ([.own 900, .ptr 901 0 0], [(902, Blk.mk false 5 1 (F.eUs (F.cat (F.bldS z_2.fst) z_2.snd ++ ByteArray.mk (Array.mk [(10 : UInt8)])))), (901, Blk.mk true 52 0 [[.ptr 901 0 0, .own 902]]), (900, Blk.mk false 9 1 [[(vS (ByteArray.mk (Array.mk [(35 : UInt8), (71 : UInt8), (65 : UInt8), (80 : UInt8)])))]])])) fun (z_3 : Option ByteArray × List ByteArray) => bif F.putB z_3.fst z_3.snd then bif match z_3.fst with | some val => false | none => true then none else Option.bind (unenc encDcm [(vI z.snd.snd.snd.snd.snd.snd.snd.snd.fst), (vI (1000 : Int)), (vI (3 : Int))]) fun (z_4 : Int) => bif decide ((0 : Int) ≤ z_4) && decide (z_4 ≤ (3600000 : Int)) then Option.bind (unenc encPut ([.own 900, .ptr 901 0 0], [(902, Blk.mk false 5 1 (F.eUs (F.cat (F.bldS z_3.fst) z_3.snd ++ ByteArray.mk (Array.mk [(10 : UInt8)])))), (901, Blk.mk true 52 0 [[.ptr 901 0 0, .own 902]]), (900, Blk.mk false 9 1 [[(vS (ByteArray.mk (Array.mk [(35 : UInt8), (84 : UInt8), (73 : UInt8), (77 : UInt8), (69 : UInt8), (32 : UInt8)])))], [(vS (F.tmS z_4))]])])) fun (z_5 : Option ByteArray × List ByteArray) => bif F.putB z_5.fst z_5.snd then bif match z_5.fst with | some val => false | none => true then none else Option.bind (unenc encPut ([.own 900, .ptr 901 0 0], [(902, Blk.mk false 5 1 (F.eUs (F.cat (F.bldS z_5.fst) z_5.snd ++ ByteArray.mk (Array.mk [(10 : UInt8)])))), (901, Blk.mk true 52 0 [[.ptr 901 0 0, .own 902]]), (900, Blk.mk false 9 1 [[(vS z.snd.snd.snd.snd.snd.snd.snd.fst)]])])) fun (z_6 : Option ByteArray × List ByteArray) => bif F.putB z_6.fst z_6.snd then bif match z_6.fst with | some val => false | none => true then none else some (Ex.normal, St.mk [(43, (vI (IntKind.wrap IntKind.i64 ((↑z.snd.snd.snd.snd.snd.fst : Int) + (1 : Int))))), (42, (vI (↑(List.length z.snd.snd.snd.fst) : Int))), (41, AV.sl (List.map eEnt z.snd.snd.snd.fst)), (7, (vS z.snd.snd.snd.snd.snd.snd.fst)), (6, AV.fn (17 : FuncId) [.ptr 5 0 0]), (5, .ptr 5 0 0), (2, .ptr 2 0 0)] [(20000, Blk.mk false 5 1 (F.eUs (F.cat (F.bldS z_6.fst) z_6.snd ++ ByteArray.mk (Array.mk [(10 : UInt8)])))), (5, Blk.mk true 52 0 [[.ptr 5 0 0, .own 20000]]), (2, Blk.mk true 0 0 [[(vI z.fst), (vI z.snd.fst), (vI z.snd.snd.fst), AV.sl (List.map eEnt z.snd.snd.snd.fst), (vB z.snd.snd.snd.snd.fst)]])]) else none else none else none else none else Option.bind (unenc encDcm [(vI z.snd.snd.snd.snd.snd.snd.snd.snd.fst), (vI (1000 : Int)), (vI (3 : Int))]) fun (z_3 : Int) => bif decide ((0 : Int) ≤ z_3) && decide (z_3 ≤ (3600000 : Int)) then Option.bind (unenc encPut ([.own 900, .ptr 901 0 0], [(902, Blk.mk false 5 1 (F.eUs (F.cat (F.bldS z_2.fst) z_2.snd ++ ByteArray.mk (Array.mk [(10 : UInt8)])))), (901, Blk.mk true 52 0 [[.ptr 901 0 0, .own 902]]), (900, Blk.mk false 9 1 [[(vS (ByteArray.mk (Array.mk [(35 : UInt8), (84 : UInt8), (73 : UInt8), (77 : UInt8), (69 : UInt8), (32 : UInt8)])))], [(vS (F.tmS z_3))]])])) fun (z_4 : Option ByteArray × List ByteArray) => bif F.putB z_4.fst z_4.snd then bif match z_4.fst with | some val => false | none => true then none else Option.bind (unenc encPut ([.own 900, .ptr 901 0 0], [(902, Blk.mk false 5 1 (F.eUs (F.cat (F.bldS z_4.fst) z_4.snd ++ ByteArray.mk (Array.mk [(10 : UInt8)])))), (901, Blk.mk true 52 0 [[.ptr 901 0 0, .own 902]]), (900, Blk.mk false 9 1 [[(vS z.snd.snd.snd.snd.snd.snd.snd.fst)]])])) fun (z_5 : Option ByteArray × List ByteArray) => bif F.putB z_5.fst z_5.snd then bif match z_5.fst with | some val => false | none => true then none else some (Ex.normal, St.mk [(43, (vI (IntKind.wrap IntKind.i64 ((↑z.snd.snd.snd.snd.snd.fst : Int) + (1 : Int))))), (42, (vI (↑(List.length z.snd.snd.snd.fst) : Int))), (41, AV.sl (List.map eEnt z.snd.snd.snd.fst)), (7, (vS z.snd.snd.snd.snd.snd.snd.fst)), (6, AV.fn (17 : FuncId) [.ptr 5 0 0]), (5, .ptr 5 0 0), (2, .ptr 2 0 0)] [(20000, Blk.mk false 5 1 (F.eUs (F.cat (F.bldS z_5.fst) z_5.snd ++ ByteArray.mk (Array.mk [(10 : UInt8)])))), (5, Blk.mk true 52 0 [[.ptr 5 0 0, .own 20000]]), (2, Blk.mk true 0 0 [[(vI z.fst), (vI z.snd.fst), (vI z.snd.snd.fst), AV.sl (List.map eEnt z.snd.snd.snd.fst), (vB z.snd.snd.snd.snd.fst)]])]) else none else none else none else none else none else bif !ByteArray.toList z.snd.snd.snd.snd.snd.snd.snd.snd.snd.snd.snd.fst == ByteArray.toList z.snd.snd.snd.snd.snd.snd.fst then Option.bind (unenc encDsh [(vS z.snd.snd.snd.snd.snd.snd.snd.snd.snd.snd.snd.fst)]) fun (z_1 : ByteArray) => Option.bind (unenc encPut ([.own 900, .ptr 901 0 0], [(902, Blk.mk false 5 1 (F.eUs (F.tX z.snd.snd.snd.snd.snd.snd.snd.snd.snd.snd.snd.snd.snd.snd.fst (List.drop z.snd.snd.snd.snd.snd.snd.snd.snd.snd.snd.snd.snd.snd.snd.snd z.snd.snd.snd.snd.snd.snd.snd.snd.snd.snd.snd.snd.snd.fst)))), (901, Blk.mk true 52 0 [[.ptr 901 0 0, .own 902]]), (900, Blk.mk false 9 1 [[(vS (ByteArray.mk (Array.mk [(35 : UInt8), (75 : UInt8), (69 : UInt8), (89 : UInt8), (32 : UInt8)])))], [(vS (F.dsh z_1))]])])) fun (z_2 : Option ByteArray × List ByteArray) => bif F.putB z_2.fst z_2.snd then bif match z_2.fst with | some val => false | none => true then none else bif z.snd.snd.snd.snd.snd.snd.snd.snd.snd.snd.snd.snd.fst then Option.bind (unenc encPut ([.own 900, .ptr 901 0 0], [(902, Blk.mk false 5 1 (F.eUs (F.cat (F.bldS z_2.fst) z_2.snd ++ ByteArray.mk (Array.mk [(10 : UInt8)])))), (901, Blk.mk true 52 0 [[.ptr 901 0 0, .own 902]]), (900, Blk.mk false 9 1 [[(vS (ByteArray.mk (Array.mk [(35 : UInt8), (71 : UInt8), (65 : UInt8), (80 : UInt8)])))]])])) fun (z_3 : Option ByteArray × List ByteArray) => bif F.putB z_3.fst z_3.snd then bif match z_3.fst with | some val => false | none => true then none else Option.bind (unenc encDcm [(vI z.snd.snd.snd.snd.snd.snd.snd.snd.fst), (vI (1000 : Int)), (vI (3 : Int))]) fun (z_4 : Int) => bif decide ((0 : Int) ≤ z_4) && decide (z_4 ≤ (3600000 : Int)) then Option.bind (unenc encPut ([.own 900, .ptr 901 0 0], [(902, Blk.mk false 5 1 (F.eUs (F.cat (F.bldS z_3.fst) z_3.snd ++ ByteArray.mk (Array.mk [(10 : UInt8)])))), (901, Blk.mk true 52 0 [[.ptr 901 0 0, .own 902]]), (900, Blk.mk false 9 1 [[(vS (ByteArray.mk (Array.mk [(35 : UInt8), (84 : UInt8), (73 : UInt8), (77 : UInt8), (69 : UInt8), (32 : UInt8)])))], [(vS (F.tmS z_4))]])])) fun (z_5 : Option ByteArray × List ByteArray) => bif F.putB z_5.fst z_5.snd then bif match z_5.fst with | some val => false | none => true then none else Option.bind (unenc encPut ([.own 900, .ptr 901 0 0], [(902, Blk.mk false 5 1 (F.eUs (F.cat (F.bldS z_5.fst) z_5.snd ++ ByteArray.mk (Array.mk [(10 : UInt8)])))), (901, Blk.mk true 52 0 [[.ptr 901 0 0, .own 902]]), (900, Blk.mk false 9 1 [[(vS z.snd.snd.snd.snd.snd.snd.snd.fst)]])])) fun (z_6 : Option ByteArray × List ByteArray) => bif F.putB z_6.fst z_6.snd then bif match z_6.fst with | some val => false | none => true then none else some (Ex.normal, St.mk [(43, (vI (IntKind.wrap IntKind.i64 ((↑z.snd.snd.snd.snd.snd.fst : Int) + (1 : Int))))), (42, (vI (↑(List.length z.snd.snd.snd.fst) : Int))), (41, AV.sl (List.map eEnt z.snd.snd.snd.fst)), (7, (vS z.snd.snd.snd.snd.snd.snd.snd.snd.snd.snd.snd.fst)), (6, AV.fn (17 : FuncId) [.ptr 5 0 0]), (5, .ptr 5 0 0), (2, .ptr 2 0 0)] [(20000, Blk.mk false 5 1 (F.eUs (F.cat (F.bldS z_6.fst) z_6.snd ++ ByteArray.mk (Array.mk [(10 : UInt8)])))), (5, Blk.mk true 52 0 [[.ptr 5 0 0, .own 20000]]), (2, Blk.mk true 0 0 [[(vI z.fst), (vI z.snd.fst), (vI z.snd.snd.fst), AV.sl (List.map eEnt z.snd.snd.snd.fst), (vB z.snd.snd.snd.snd.fst)]])]) else none else none else none else none else Option.bind (unenc encDcm [(vI z.snd.snd.snd.snd.snd.snd.snd.snd.fst), (vI (1000 : Int)), (vI (3 : Int))]) fun (z_3 : Int) => bif decide ((0 : Int) ≤ z_3) && decide (z_3 ≤ (3600000 : Int)) then Option.bind (unenc encPut ([.own 900, .ptr 901 0 0], [(902, Blk.mk false 5 1 (F.eUs (F.cat (F.bldS z_2.fst) z_2.snd ++ ByteArray.mk (Array.mk [(10 : UInt8)])))), (901, Blk.mk true 52 0 [[.ptr 901 0 0, .own 902]]), (900, Blk.mk false 9 1 [[(vS (ByteArray.mk (Array.mk [(35 : UInt8), (84 : UInt8), (73 : UInt8), (77 : UInt8), (69 : UInt8), (32 : UInt8)])))], [(vS (F.tmS z_3))]])])) fun (z_4 : Option ByteArray × List ByteArray) => bif F.putB z_4.fst z_4.snd then bif match z_4.fst with | some val => false | none => true then none else Option.bind (unenc encPut ([.own 900, .ptr 901 0 0], [(902, Blk.mk false 5 1 (F.eUs (F.cat (F.bldS z_4.fst) z_4.snd ++ ByteArray.mk (Array.mk [(10 : UInt8)])))), (901, Blk.mk true 52 0 [[.ptr 901 0 0, .own 902]]), (900, Blk.mk false 9 1 [[(vS z.snd.snd.snd.snd.snd.snd.snd.fst)]])])) fun (z_5 : Option ByteArray × List ByteArray) => bif F.putB z_5.fst z_5.snd then bif match z_5.fst with | some val => false | none => true then none else some (Ex.normal, St.mk [(43, (vI (IntKind.wrap IntKind.i64 ((↑z.snd.snd.snd.snd.snd.fst : Int) + (1 : Int))))), (42, (vI (↑(List.length z.snd.snd.snd.fst) : Int))), (41, AV.sl (List.map eEnt z.snd.snd.snd.fst)), (7, (vS z.snd.snd.snd.snd.snd.snd.snd.snd.snd.snd.snd.fst)), (6, AV.fn (17 : FuncId) [.ptr 5 0 0]), (5, .ptr 5 0 0), (2, .ptr 2 0 0)] [(20000, Blk.mk false 5 1 (F.eUs (F.cat (F.bldS z_5.fst) z_5.snd ++ ByteArray.mk (Array.mk [(10 : UInt8)])))), (5, Blk.mk true 52 0 [[.ptr 5 0 0, .own 20000]]), (2, Blk.mk true 0 0 [[(vI z.fst), (vI z.snd.fst), (vI z.snd.snd.fst), AV.sl (List.map eEnt z.snd.snd.snd.fst), (vB z.snd.snd.snd.snd.fst)]])]) else none else none else none else none else bif z.snd.snd.snd.snd.snd.snd.snd.snd.snd.snd.snd.snd.fst then Option.bind (unenc encPut ([.own 900, .ptr 901 0 0], [(902, Blk.mk false 5 1 (F.eUs (F.tX z.snd.snd.snd.snd.snd.snd.snd.snd.snd.snd.snd.snd.snd.snd.fst (List.drop z.snd.snd.snd.snd.snd.snd.snd.snd.snd.snd.snd.snd.snd.snd.snd z.snd.snd.snd.snd.snd.snd.snd.snd.snd.snd.snd.snd.snd.fst)))), (901, Blk.mk true 52 0 [[.ptr 901 0 0, .own 902]]), (900, Blk.mk false 9 1 [[(vS (ByteArray.mk (Array.mk [(35 : UInt8), (71 : UInt8), (65 : UInt8), (80 : UInt8)])))]])])) fun (z_1 : Option ByteArray × List ByteArray) => bif F.putB z_1.fst z_1.snd then bif match z_1.fst with | some val => false | none => true then none else Option.bind (unenc encDcm [(vI z.snd.snd.snd.snd.snd.snd.snd.snd.fst), (vI (1000 : Int)), (vI (3 : Int))]) fun (z_2 : Int) => bif decide ((0 : Int) ≤ z_2) && decide (z_2 ≤ (3600000 : Int)) then Option.bind (unenc encPut ([.own 900, .ptr 901 0 0], [(902, Blk.mk false 5 1 (F.eUs (F.cat (F.bldS z_1.fst) z_1.snd ++ ByteArray.mk (Array.mk [(10 : UInt8)])))), (901, Blk.mk true 52 0 [[.ptr 901 0 0, .own 902]]), (900, Blk.mk false 9 1 [[(vS (ByteArray.mk (Array.mk [(35 : UInt8), (84 : UInt8), (73 : UInt8), (77 : UInt8), (69 : UInt8), (32 : UInt8)])))], [(vS (F.tmS z_2))]])])) fun (z_3 : Option ByteArray × List ByteArray) => bif F.putB z_3.fst z_3.snd then bif match z_3.fst with | some val => false | none => true then none else Option.bind (unenc encPut ([.own 900, .ptr 901 0 0], [(902, Blk.mk false 5 1 (F.eUs (F.cat (F.bldS z_3.fst) z_3.snd ++ ByteArray.mk (Array.mk [(10 : UInt8)])))), (901, Blk.mk true 52 0 [[.ptr 901 0 0, .own 902]]), (900, Blk.mk false 9 1 [[(vS z.snd.snd.snd.snd.snd.snd.snd.fst)]])])) fun (z_4 : Option ByteArray × List ByteArray) => bif F.putB z_4.fst z_4.snd then bif match z_4.fst with | some val => false | none => true then none else some (Ex.normal, St.mk [(43, (vI (IntKind.wrap IntKind.i64 ((↑z.snd.snd.snd.snd.snd.fst : Int) + (1 : Int))))), (42, (vI (↑(List.length z.snd.snd.snd.fst) : Int))), (41, AV.sl (List.map eEnt z.snd.snd.snd.fst)), (7, (vS z.snd.snd.snd.snd.snd.snd.fst)), (6, AV.fn (17 : FuncId) [.ptr 5 0 0]), (5, .ptr 5 0 0), (2, .ptr 2 0 0)] [(20000, Blk.mk false 5 1 (F.eUs (F.cat (F.bldS z_4.fst) z_4.snd ++ ByteArray.mk (Array.mk [(10 : UInt8)])))), (5, Blk.mk true 52 0 [[.ptr 5 0 0, .own 20000]]), (2, Blk.mk true 0 0 [[(vI z.fst), (vI z.snd.fst), (vI z.snd.snd.fst), AV.sl (List.map eEnt z.snd.snd.snd.fst), (vB z.snd.snd.snd.snd.fst)]])]) else none else none else none else none else Option.bind (unenc encDcm [(vI z.snd.snd.snd.snd.snd.snd.snd.snd.fst), (vI (1000 : Int)), (vI (3 : Int))]) fun (z_1 : Int) => bif decide ((0 : Int) ≤ z_1) && decide (z_1 ≤ (3600000 : Int)) then Option.bind (unenc encPut ([.own 900, .ptr 901 0 0], [(902, Blk.mk false 5 1 (F.eUs (F.tX z.snd.snd.snd.snd.snd.snd.snd.snd.snd.snd.snd.snd.snd.snd.fst (List.drop z.snd.snd.snd.snd.snd.snd.snd.snd.snd.snd.snd.snd.snd.snd.snd z.snd.snd.snd.snd.snd.snd.snd.snd.snd.snd.snd.snd.snd.fst)))), (901, Blk.mk true 52 0 [[.ptr 901 0 0, .own 902]]), (900, Blk.mk false 9 1 [[(vS (ByteArray.mk (Array.mk [(35 : UInt8), (84 : UInt8), (73 : UInt8), (77 : UInt8), (69 : UInt8), (32 : UInt8)])))], [(vS (F.tmS z_1))]])])) fun (z_2 : Option ByteArray × List ByteArray) => bif F.putB z_2.fst z_2.snd then bif match z_2.fst with | some val => false | none => true then none else Option.bind (unenc encPut ([.own 900, .ptr 901 0 0], [(902, Blk.mk false 5 1 (F.eUs (F.cat (F.bldS z_2.fst) z_2.snd ++ ByteArray.mk (Array.mk [(10 : UInt8)])))), (901, Blk.mk true 52 0 [[.ptr 901 0 0, .own 902]]), (900, Blk.mk false 9 1 [[(vS z.snd.snd.snd.snd.snd.snd.snd.fst)]])])) fun (z_3 : Option ByteArray × List ByteArray) => bif F.putB z_3.fst z_3.snd then bif match z_3.fst with | some val => false | none => true then none else some (Ex.normal, St.mk [(43, (vI (IntKind.wrap IntKind.i64 ((↑z.snd.snd.snd.snd.snd.fst : Int) + (1 : Int))))), (42, (vI (↑(List.length z.snd.snd.snd.fst) : Int))), (41, AV.sl (List.map eEnt z.snd.snd.snd.fst)), (7, (vS z.snd.snd.snd.snd.snd.snd.fst)), (6, AV.fn (17 : FuncId) [.ptr 5 0 0]), (5, .ptr 5 0 0), (2, .ptr 2 0 0)] [(20000, Blk.mk false 5 1 (F.eUs (F.cat (F.bldS z_3.fst) z_3.snd ++ ByteArray.mk (Array.mk [(10 : UInt8)])))), (5, Blk.mk true 52 0 [[.ptr 5 0 0, .own 20000]]), (2, Blk.mk true 0 0 [[(vI z.fst), (vI z.snd.fst), (vI z.snd.snd.fst), AV.sl (List.map eEnt z.snd.snd.snd.fst), (vB z.snd.snd.snd.snd.fst)]])]) else none else none else none else none else none else some (Ex.exit (0 : Nat), St.mk [(6, AV.fn (17 : FuncId) [.ptr 5 0 0]), (5, .ptr 5 0 0), (2, .ptr 2 0 0)] [(20000, Blk.mk false 5 1 (F.eUs s)), (5, Blk.mk true 52 0 [[.ptr 5 0 0, .own 20000]]), (2, Blk.mk true 0 0 [[(vI t), (vI f), (vI b), AV.sl (List.map eEnt es), (vB en)]])]) := (execR_bind _ _ _).symm.trans (by kernel_rfl)

theorem lpTx1_ok (t : Int) (f : Int) (b : Int) (es : List Ent) (en : Bool) (s : ByteArray) (key : ByteArray) (i : Nat) (hp : prlTx1 t f b es en s key i = true) : ∀ ex s', (outTx1 t f b es en s key i).val = some (ex, s') → LoopOK enTx (loopN Tryd.f10 0) (stTx1 t f b es en s key i) ex s' := by
  simp only [prlTx1, Bool.and_eq_true, decide_eq_true_eq] at hp
  obtain ⟨⟨⟨h1, h2⟩, h4⟩, h3⟩ := hp
  have h3 := F.tEB_iff.1 h3
  refine loop_gen (st := fun p : ByteArray × ByteArray × Nat => stTx1 t f b es en p.1 p.2.1 p.2.2) (out := fun p => outTx1 t f b es en p.1 p.2.1 p.2.2) (I := fun p => p.2.2 ≤ es.length ∧ (F.tE p.1 p.2.1 (es.drop p.2.2)).size ≤ 80000000) (n := ([43, 42, 41, 7, 6, 5, 2], [20000, 5, 2])) (e := ([6, 5, 2], [20000, 5, 2])) (r := ([], [])) (fun p => es.length - p.2.2) ?_ (s, key, i) ⟨h2, h3⟩
  clear h2 h3
  rintro ⟨s, key, i⟩ ⟨h2, h3⟩
  simp only at h2 h3
  by_cases hlt : i < es.length
  · have hy : es[i]? = some es[i] := List.getElem?_eq_getElem hlt
    have hmem : es[i] ∈ es := List.getElem_mem hlt
    generalize es[i] = y at hy hmem
    have hdd := drop_y hy
    rw [hdd, F.tE] at h3
    have hw := List.all_eq_true.1 h4 y hmem
    unfold F.entW at hw
    simp only [Bool.and_eq_true, decide_eq_true_eq] at hw
    obtain ⟨⟨⟨m1, m2⟩, m3⟩, m4⟩ := hw
    right
    refine ⟨(F.bE s key y, y.key, i + 1), ?_, rfl, ⟨hlt, h3⟩, by simp only; omega, ?_⟩
    · rw [evTx1L]
      simp only [unIta, unDte, unDcm, unDsh, unPut, unWst, unBst, preIta1, preDte1, preDcm1, preDsh1, prePut1, preWst1, preBst1, unstTx1, unstTx2, unstTx10, unstTx20, prlTx1, prlTx2, outTx1, outTx2, etaEnt, etaLst, etaSnd, etaStrm, etaMas, Option.bind_some, List.length_map, unStrs, unInts, unBools, unEnts, unItms, unTrns, cond_true, cond_false, Bool.and_true, Bool.true_and, unWstU, unBstU, F.bldS_some, F.bldLen_some, cast_lt hlt, decide_eq_true hlt, getD_at hy, unPut1, unPut2, resPut, fpl, List.drop_zero]
      have qB : (⟨⟨[35, 66, 82, 69, 65, 75]⟩⟩ : ByteArray) = F.kBrk := rfl
      have qD : (⟨⟨[35, 68, 65, 84, 69, 32]⟩⟩ : ByteArray) = F.kDatS := rfl
      have qK : (⟨⟨[35, 75, 69, 89, 32]⟩⟩ : ByteArray) = F.kKeyS := rfl
      have qG : (⟨⟨[35, 71, 65, 80]⟩⟩ : ByteArray) = F.kGap := rfl
      have qT : (⟨⟨[35, 84, 73, 77, 69, 32]⟩⟩ : ByteArray) = F.kTimS := rfl
      have qs : (y.key.toList == key.toList) = F.seq y.key key := rfl
      rw [qB, qD, qK, qG, qT, qs]
      clear qB qD qK qG qT qs
      have hE := F.tE_le (es.drop (i + 1)) (F.bE s key y) y.key
      obtain ⟨l1, l2, l3, l4⟩ := F.e_le (F.tX s y.extra) key y.brk y.date y.key y.gap
      have hbE : F.bE s key y = F.bE' (F.tX s y.extra) key y.uri y.milli y.brk y.date y.key y.gap := rfl
      have hX := F.tX_le y.extra s
      have hE : (F.bE s key y).size ≤ 80000000 := by omega
      rw [hbE] at hE ⊢
      clear hbE
      unfold F.bE' at hE ⊢
      generalize F.tX s y.extra = T0 at *
      obtain ⟨X1, hX1⟩ : ∃ X1, F.e1 T0 y.brk = X1 := ⟨_, rfl⟩
      rw [hX1] at l1 l2 l3 l4 hE ⊢
      obtain ⟨X2, hX2⟩ : ∃ X2, F.e2 X1 y.date = X2 := ⟨_, rfl⟩
      rw [hX2] at l2 l3 l4 hE ⊢
      obtain ⟨X3, hX3⟩ : ∃ X3, F.e3 X2 key y.key = X3 := ⟨_, rfl⟩
      rw [hX3] at l3 l4 hE ⊢
      obtain ⟨X4, hX4⟩ : ∃ X4, F.e4 X3 y.gap = X4 := ⟨_, rfl⟩
      rw [hX4] at l4 hE ⊢
      have l5 := F.pl_le X4 [F.kTimS, F.tmS y.milli]
      have l6 := F.pl_le (F.pl X4 [F.kTimS, F.tmS y.milli]) [y.uri]
      rw [decide_eq_true m4, decide_eq_true (Nat.zero_le y.extra.length), decide_eq_true (by omega : T0.size ≤ 80000000), decide_eq_true m1, decide_eq_true m2, decide_eq_true m3]
      cases hb : y.brk
      case true =>
        have e : F.pl T0 [F.kBrk] = X1 := by rw [← hX1, hb]; rfl
        rw [pre_ok T0 [F.kBrk] (Nat.le_of_ble_eq_true rfl) (by rw [e]; omega), e]
        by_cases hd : 0 ≤ y.date
        rotate_left
        · have e : X1 = X2 := by rw [← hX2]; unfold F.e2; rw [decide_eq_false hd]; rfl
          rw [decide_eq_false hd, e]
          cases hk : F.seq y.key key
          · have e : F.pl X2 [F.kKeyS, F.dsh y.key] = X3 := by rw [← hX3]; unfold F.e3; rw [hk]; rfl
            rw [pre_ok X2 [F.kKeyS, F.dsh y.key] (Nat.le_of_ble_eq_true rfl) (by rw [e]; omega), e]
            cases hg : y.gap
            · have e : X3 = X4 := by rw [← hX4, hg]; rfl
              rw [e, pre_ok X4 [F.kTimS, F.tmS y.milli] (Nat.le_of_ble_eq_true rfl) (by omega), pre_ok (F.pl X4 [F.kTimS, F.tmS y.milli]) [y.uri] (Nat.le_of_ble_eq_true rfl) (by omega), next_at hlt (by omega : es.length ≤ 9223372036854775807)]
              first | rfl | (rw [hkk]; rfl)
            · have e : F.pl X3 [F.kGap] = X4 := by rw [← hX4, hg]; rfl
              rw [pre_ok X3 [F.kGap] (Nat.le_of_ble_eq_true rfl) (by rw [e]; omega), e, pre_ok X4 [F.kTimS, F.tmS y.milli] (Nat.le_of_ble_eq_true rfl) (by omega), pre_ok (F.pl X4 [F.kTimS, F.tmS y.milli]) [y.uri] (Nat.le_of_ble_eq_true rfl) (by omega), next_at hlt (by omega : es.length ≤ 9223372036854775807)]
              first | rfl | (rw [hkk]; rfl)
          · have e : X2 = X3 := by rw [← hX3]; unfold F.e3; rw [hk]; rfl
            have hkk : y.key = key := F.seq_iff.1 hk
            rw [e]
            cases hg : y.gap
            · have e : X3 = X4 := by rw [← hX4, hg]; rfl
              rw [e, pre_ok X4 [F.kTimS, F.tmS y.milli] (Nat.le_of_ble_eq_true rfl) (by omega), pre_ok (F.pl X4 [F.kTimS, F.tmS y.milli]) [y.uri] (Nat.le_of_ble_eq_true rfl) (by omega), next_at hlt (by omega : es.length ≤ 9223372036854775807)]
              first | rfl | (rw [hkk]; rfl)
            · have e : F.pl X3 [F.kGap] = X4 := by rw [← hX4, hg]; rfl
              rw [pre_ok X3 [F.kGap] (Nat.le_of_ble_eq_true rfl) (by rw [e]; omega), e, pre_ok X4 [F.kTimS, F.tmS y.milli] (Nat.le_of_ble_eq_true rfl) (by omega), pre_ok (F.pl X4 [F.kTimS, F.tmS y.milli]) [y.uri] (Nat.le_of_ble_eq_true rfl) (by omega), next_at hlt (by omega : es.length ≤ 9223372036854775807)]
              first | rfl | (rw [hkk]; rfl)
        · have e : F.pl X1 [F.kDatS, F.dtS y.date] = X2 := by rw [← hX2]; unfold F.e2; rw [decide_eq_true hd]; rfl
          rw [decide_eq_true hd, pre_ok X1 [F.kDatS, F.dtS y.date] (Nat.le_of_ble_eq_true rfl) (by rw [e]; omega), e]
          cases hk : F.seq y.key key
          · have e : F.pl X2 [F.kKeyS, F.dsh y.key] = X3 := by rw [← hX3]; unfold F.e3; rw [hk]; rfl
            rw [pre_ok X2 [F.kKeyS, F.dsh y.key] (Nat.le_of_ble_eq_true rfl) (by rw [e]; omega), e]
            cases hg : y.gap
            · have e : X3 = X4 := by rw [← hX4, hg]; rfl
              rw [e, pre_ok X4 [F.kTimS, F.tmS y.milli] (Nat.le_of_ble_eq_true rfl) (by omega), pre_ok (F.pl X4 [F.kTimS, F.tmS y.milli]) [y.uri] (Nat.le_of_ble_eq_true rfl) (by omega), next_at hlt (by omega : es.length ≤ 9223372036854775807)]
              first | rfl | (rw [hkk]; rfl)
            · have e : F.pl X3 [F.kGap] = X4 := by rw [← hX4, hg]; rfl
              rw [pre_ok X3 [F.kGap] (Nat.le_of_ble_eq_true rfl) (by rw [e]; omega), e, pre_ok X4 [F.kTimS, F.tmS y.milli] (Nat.le_of_ble_eq_true rfl) (by omega), pre_ok (F.pl X4 [F.kTimS, F.tmS y.milli]) [y.uri] (Nat.le_of_ble_eq_true rfl) (by omega), next_at hlt (by omega : es.length ≤ 9223372036854775807)]
              first | rfl | (rw [hkk]; rfl)
          · have e : X2 = X3 := by rw [← hX3]; unfold F.e3; rw [hk]; rfl
            have hkk : y.key = key := F.seq_iff.1 hk
            rw [e]
            cases hg : y.gap
            · have e : X3 = X4 := by rw [← hX4, hg]; rfl
              rw [e, pre_ok X4 [F.kTimS, F.tmS y.milli] (Nat.le_of_ble_eq_true rfl) (by omega), pre_ok (F.pl X4 [F.kTimS, F.tmS y.milli]) [y.uri] (Nat.le_of_ble_eq_true rfl) (by omega), next_at hlt (by omega : es.length ≤ 9223372036854775807)]
              first | rfl | (rw [hkk]; rfl)
            · have e : F.pl X3 [F.kGap] = X4 := by rw [← hX4, hg]; rfl
              rw [pre_ok X3 [F.kGap] (Nat.le_of_ble_eq_true rfl) (by rw [e]; omega), e, pre_ok X4 [F.kTimS, F.tmS y.milli] (Nat.le_of_ble_eq_true rfl) (by omega), pre_ok (F.pl X4 [F.kTimS, F.tmS y.milli]) [y.uri] (Nat.le_of_ble_eq_true rfl) (by omega), next_at hlt (by omega : es.length ≤ 9223372036854775807)]
              first | rfl | (rw [hkk]; rfl)
      case false =>
        have e : T0 = X1 := by rw [← hX1, hb]; rfl
        rw [e]
        by_cases hd : 0 ≤ y.date
        rotate_left
        · have e : X1 = X2 := by rw [← hX2]; unfold F.e2; rw [decide_eq_false hd]; rfl
          rw [decide_eq_false hd, e]
          cases hk : F.seq y.key key
          · have e : F.pl X2 [F.kKeyS, F.dsh y.key] = X3 := by rw [← hX3]; unfold F.e3; rw [hk]; rfl
            rw [pre_ok X2 [F.kKeyS, F.dsh y.key] (Nat.le_of_ble_eq_true rfl) (by rw [e]; omega), e]
            cases hg : y.gap
            · have e : X3 = X4 := by rw [← hX4, hg]; rfl
              rw [e, pre_ok X4 [F.kTimS, F.tmS y.milli] (Nat.le_of_ble_eq_true rfl) (by omega), pre_ok (F.pl X4 [F.kTimS, F.tmS y.milli]) [y.uri] (Nat.le_of_ble_eq_true rfl) (by omega), next_at hlt (by omega : es.length ≤ 9223372036854775807)]
              first | rfl | (rw [hkk]; rfl)
            · have e : F.pl X3 [F.kGap] = X4 := by rw [← hX4, hg]; rfl
              rw [pre_ok X3 [F.kGap] (Nat.le_of_ble_eq_true rfl) (by rw [e]; omega), e, pre_ok X4 [F.kTimS, F.tmS y.milli] (Nat.le_of_ble_eq_true rfl) (by omega), pre_ok (F.pl X4 [F.kTimS, F.tmS y.milli]) [y.uri] (Nat.le_of_ble_eq_true rfl) (by omega), next_at hlt (by omega : es.length ≤ 9223372036854775807)]
              first | rfl | (rw [hkk]; rfl)
          · have e : X2 = X3 := by rw [← hX3]; unfold F.e3; rw [hk]; rfl
            have hkk : y.key = key := F.seq_iff.1 hk
            rw [e]
            cases hg : y.gap
            · have e : X3 = X4 := by rw [← hX4, hg]; rfl
              rw [e, pre_ok X4 [F.kTimS, F.tmS y.milli] (Nat.le_of_ble_eq_true rfl) (by omega), pre_ok (F.pl X4 [F.kTimS, F.tmS y.milli]) [y.uri] (Nat.le_of_ble_eq_true rfl) (by omega), next_at hlt (by omega : es.length ≤ 9223372036854775807)]
              first | rfl | (rw [hkk]; rfl)
            · have e : F.pl X3 [F.kGap] = X4 := by rw [← hX4, hg]; rfl
              rw [pre_ok X3 [F.kGap] (Nat.le_of_ble_eq_true rfl) (by rw [e]; omega), e, pre_ok X4 [F.kTimS, F.tmS y.milli] (Nat.le_of_ble_eq_true rfl) (by omega), pre_ok (F.pl X4 [F.kTimS, F.tmS y.milli]) [y.uri] (Nat.le_of_ble_eq_true rfl) (by omega), next_at hlt (by omega : es.length ≤ 9223372036854775807)]
              first | rfl | (rw [hkk]; rfl)
        · have e : F.pl X1 [F.kDatS, F.dtS y.date] = X2 := by rw [← hX2]; unfold F.e2; rw [decide_eq_true hd]; rfl
          rw [decide_eq_true hd, pre_ok X1 [F.kDatS, F.dtS y.date] (Nat.le_of_ble_eq_true rfl) (by rw [e]; omega), e]
          cases hk : F.seq y.key key
          · have e : F.pl X2 [F.kKeyS, F.dsh y.key] = X3 := by rw [← hX3]; unfold F.e3; rw [hk]; rfl
            rw [pre_ok X2 [F.kKeyS, F.dsh y.key] (Nat.le_of_ble_eq_true rfl) (by rw [e]; omega), e]
            cases hg : y.gap
            · have e : X3 = X4 := by rw [← hX4, hg]; rfl
              rw [e, pre_ok X4 [F.kTimS, F.tmS y.milli] (Nat.le_of_ble_eq_true rfl) (by omega), pre_ok (F.pl X4 [F.kTimS, F.tmS y.milli]) [y.uri] (Nat.le_of_ble_eq_true rfl) (by omega), next_at hlt (by omega : es.length ≤ 9223372036854775807)]
              first | rfl | (rw [hkk]; rfl)
            · have e : F.pl X3 [F.kGap] = X4 := by rw [← hX4, hg]; rfl
              rw [pre_ok X3 [F.kGap] (Nat.le_of_ble_eq_true rfl) (by rw [e]; omega), e, pre_ok X4 [F.kTimS, F.tmS y.milli] (Nat.le_of_ble_eq_true rfl) (by omega), pre_ok (F.pl X4 [F.kTimS, F.tmS y.milli]) [y.uri] (Nat.le_of_ble_eq_true rfl) (by omega), next_at hlt (by omega : es.length ≤ 9223372036854775807)]
              first | rfl | (rw [hkk]; rfl)
          · have e : X2 = X3 := by rw [← hX3]; unfold F.e3; rw [hk]; rfl
            have hkk : y.key = key := F.seq_iff.1 hk
            rw [e]
            cases hg : y.gap
            · have e : X3 = X4 := by rw [← hX4, hg]; rfl
              rw [e, pre_ok X4 [F.kTimS, F.tmS y.milli] (Nat.le_of_ble_eq_true rfl) (by omega), pre_ok (F.pl X4 [F.kTimS, F.tmS y.milli]) [y.uri] (Nat.le_of_ble_eq_true rfl) (by omega), next_at hlt (by omega : es.length ≤ 9223372036854775807)]
              first | rfl | (rw [hkk]; rfl)
            · have e : F.pl X3 [F.kGap] = X4 := by rw [← hX4, hg]; rfl
              rw [pre_ok X3 [F.kGap] (Nat.le_of_ble_eq_true rfl) (by rw [e]; omega), e, pre_ok X4 [F.kTimS, F.tmS y.milli] (Nat.le_of_ble_eq_true rfl) (by omega), pre_ok (F.pl X4 [F.kTimS, F.tmS y.milli]) [y.uri] (Nat.le_of_ble_eq_true rfl) (by omega), next_at hlt (by omega : es.length ≤ 9223372036854775807)]
              first | rfl | (rw [hkk]; rfl)
    · simp only [outTx1, hdd, F.tE]
  · have : i = es.length := by omega
    subst this
    left
    refine ⟨(.exit 0, ⟨[(6, .fn 17 [.ptr 5 0 0]), (5, .ptr 5 0 0), (2, .ptr 2 0 0)], [(20000, ⟨false, 5, 1, F.eUs s⟩), (5, ⟨true, 52, 0, [[.ptr 5 0 0, .own 20000]]⟩), (2, ⟨true, 0, 0, [[vI t, vI f, vI b, .sl (es.map eEnt), vB en]]⟩)]⟩), ?_, ?_, by simp, rfl⟩
    · rw [evTx1L]
      simp
    · simp only [outTx1, List.drop_length, F.tE]
      rfl

end M
end Go.Proofs.YtgkjfochkhiojaaDoor
