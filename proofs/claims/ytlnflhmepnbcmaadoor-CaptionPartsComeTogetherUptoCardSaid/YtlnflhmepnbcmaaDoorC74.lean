/- What is proved here: the faults of parts, and which caption another one continues, of both (no statement of the seat). -/
import Derived.Test.YtlnflhmepnbcmaaDoorC72
namespace Go.Proofs.YtlnflhmepnbcmaaDoor
open Go Go.RowKit
set_option linter.unusedVariables false
set_option linter.unusedSimpArgs false
set_option maxHeartbeats 1000000

/-- The number of the first of a list that is asked for. -/
def F.findI {α : Type} (p : α → Bool) (k : Nat) : List α → Option Nat
  | [] => none
  | y :: l => bif p y then some k else F.findI p (k + 1) l

def F.idxI (o : Option Nat) : Int := bif F.found o then ((F.got o 0 : Nat) : Int) else -1

theorem F.idx_any {α : Type} (p : α → Bool) (k : Nat) (l : List α) : decide (0 ≤ F.idxI (F.findI p k l)) = l.any p := by
  have h : F.found (F.findI p k l) = l.any p := by
    induction l generalizing k with
    | nil => rfl
    | cons y l ih =>
      simp only [F.findI, List.any_cons]
      cases p y
      · simp only [cond_false, Bool.false_or]; exact ih (k + 1)
      · rfl
  unfold F.idxI
  rw [h]
  cases l.any p
  · rfl
  · simp only [cond_true]; exact decide_eq_true (by omega)


/-- Does c continue o? -/
def F.contd (c o : Cap) : Bool := o.aft && (o.to == c.fr) && (o.row == c.row) && F.sameSL o.lines c.lines

/-- The fault of a part between two times. -/
def F.prtF (a b : Int) (c : Cap) : Int := bif F.lt c.fr a || F.lt b c.to then 1 else bif (c.bef && (c.fr != a)) || (c.aft && (c.to != b)) then 3 else 0

/-- The first fault of parts of segments. -/
def F.segF : List (List Cap) → List Int → Int
  | p :: ps, a :: b :: r => bif M.ffI (F.prtF a b) p != 0 then M.ffI (F.prtF a b) p else F.segF ps (b :: r)
  | _, _ => 0

def F.prtsF (l : List (List Cap)) (bs : List Int) : Int :=
  bif M.ffI F.chkC l != 0 then M.ffI F.chkC l else bif F.bnds bs != 0 then F.bnds bs else bif (l.length + 1 != bs.length) then 3 else F.segF l bs

def F.smLL (l : List (List Cap)) : Bool := l.all F.smC

theorem F.segF_at {l : List (List Cap)} {bs : List Int} {k : Nat} {p : List Cap} {a b : Int} (hp : l[k]? = some p) (ha : bs[k]? = some a) (hb : bs[k + 1]? = some b) :
    F.segF (l.drop k) (bs.drop k) = bif M.ffI (F.prtF a b) p != 0 then M.ffI (F.prtF a b) p else F.segF (l.drop (k + 1)) (bs.drop (k + 1)) := by
  rw [M.drop_at hp, M.drop_at ha, M.drop_at hb]
  rfl

namespace M

theorem ite_bif {α : Type} (x : Int) (A B : α) : (if x = 0 then A else B) = bif x != 0 then B else A := by
  by_cases h : x = 0
  · rw [if_pos h, bne0 h]; rfl
  · rw [if_neg h, bne1 h]; rfl

theorem ffI_all {γ : Type} {g : γ → Int} : ∀ {l : List γ}, ffI g l = 0 → ∀ y ∈ l, g y = 0
  | [], _, y, hy => by cases hy
  | x :: l, h, y, hy => by
    unfold ffI at h
    by_cases hx : g x = 0
    · rw [if_pos hx] at h
      rcases List.mem_cons.1 hy with rfl | hy
      · exact hx
      · exact ffI_all h y hy
    · rw [if_neg hx] at h; exact absurd h hx

noncomputable def enJc : Env := envH ty noG lks [oEqS] [] [] []

theorem enJc_ok : EnvOK Tryd.prog enJc := by
  refine envH_ok lks_ok ty_ok ?_ ?_
  · simp only [List.forall_mem_cons]
    exact ⟨okEqS, by simp⟩
  · simp

theorem evJc (o : Cap) (c : Cap) : (runF enJc false Tryd.f54 [.agg (eCap o), .pel (eCap c) 0]).val =
  bif bif bif o.aft then o.to == c.fr else false then o.row == c.row else false then Option.bind (unenc encEqS [AV.sl (List.map eStr o.lines), AV.sl (List.map eStr
  c.lines)]) fun (z : List ByteArray × List ByteArray) => some ((vB (F.sameSL z.fst z.snd)), []) else some ((vB false), []) := (runFR_val).symm.trans (by kernel_rfl)

def encJc1 (o : Cap) (c : Cap) : List AV := [.agg (eCap o), .pel (eCap c) 0]

def encJc (a : Cap × Cap) : List AV := encJc1 a.1 a.2

theorem encJc_inj (a a' : Cap × Cap) (h : encJc a = encJc a') : a = a' := by
  simp only [encJc, encJc1] at h
  try simp [strs_inj, ints_inj, bools_inj, eCaps_inj, eCap_iff, eL_eCaps_inj, eMchs_inj, eMch_iff, eWrds_inj, eWrd_iff, eFnds_inj, eFnd_iff, eRatios_inj, eRatio_iff, eWays_inj, eWay_iff] at h
  grind

theorem unJc (o : Cap) (c : Cap) : unenc encJc ([AV.agg [(vI o.fr), (vI o.to), AV.sl (List.map eStr o.lines), (vI o.row), (vB o.bef), (vB o.aft)], AV.pel [(vI c.fr), (vI c.to), AV.sl (List.map eStr c.lines), (vI c.row),
  (vB c.bef), (vB c.aft)] (0 : Nat)]) = some (o, c) := unenc_of encJc_inj (o, c) rfl

theorem unJcw (o_fr : Int) (o_to : Int) (o_lines : List ByteArray) (o_row : Int) (o_bef : Bool) (o_aft : Bool) (c_fr : Int) (c_to : Int) (c_lines : List ByteArray) (c_row : Int) (c_bef : Bool) (c_aft : Bool) : unenc encJc ([AV.agg [(vI o_fr), (vI o_to), AV.sl (List.map eStr o_lines), (vI o_row), (vB o_bef), (vB o_aft)], AV.pel [(vI c_fr), (vI c_to), AV.sl (List.map eStr c_lines), (vI c_row),
  (vB c_bef), (vB c_aft)] (0 : Nat)]) = some ((Cap.mk o_fr o_to o_lines o_row o_bef o_aft), (Cap.mk c_fr c_to c_lines c_row c_bef c_aft)) := unenc_of encJc_inj ((Cap.mk o_fr o_to o_lines o_row o_bef o_aft), (Cap.mk c_fr c_to c_lines c_row c_bef c_aft)) rfl

def resJc1 (o : Cap) (c : Cap) : AV × Heap := (vB (F.contd c o), [])

def preJc1 (o : Cap) (c : Cap) : Bool := true

noncomputable def oJc : Orc := orc 54 true encJc (fun a => preJc1 a.1 a.2) fun a => resJc1 a.1 a.2

theorem okJc : OrcOK Tryd.prog noG oJc := by
  refine mk_ok Tryd.f54 (keep := false) (by kernel_rfl) (by kernel_rfl) enJc_ok mixed (no_loops (by kernel_rfl)) (by first | exact fun _ _ => ⟨rfl, rfl⟩ | (intro h; cases h)) ?_
  rintro ⟨o, c⟩ hpre hok
  show (runF enJc false _ (encJc1 _ _)).val = some (resJc1 _ _)
  unfold encJc1 resJc1
  rw [evJc]
  simp only [unEqS, preEqS1, etaCap, etaMch, etaWrd, etaFnd, etaRatio, etaWay, Option.bind_some, List.length_map, unStrs, unInts, unBools, unCaps, uneL_eCaps, unMchs, unWrds, unFnds, unRatios, unWays, F.lt, F.le, cond_true, cond_false, Bool.and_true, Bool.true_and, F.contd]
  cases o.aft <;> cases (o.to == c.fr) <;> cases (o.row == c.row) <;> cases F.sameSL o.lines c.lines <;> rfl

def stIxc (l : List Cap) (c : Cap) (k : Nat) : St := ⟨[(8, vI k), (7, vI l.length), (1, .fn 54 [.pel (eCap c) 0]), (0, .sl (l.map eCap))], []⟩

def stIxc1 (a : (List Cap) × Cap × Nat) : St := stIxc a.1 a.2.1 a.2.2

theorem stIxc_inj (a a' : (List Cap) × Cap × Nat) (h : stIxc1 a = stIxc1 a') : a = a' := by
  simp only [stIxc1, stIxc] at h
  try simp [strs_inj, ints_inj, bools_inj, eCaps_inj, eCap_iff, eL_eCaps_inj, eMchs_inj, eMch_iff, eWrds_inj, eWrd_iff, eFnds_inj, eFnd_iff, eRatios_inj, eRatio_iff, eWays_inj, eWay_iff] at h
  grind

theorem unstIxc (l : List Cap) (c : Cap) (k : Nat) : unenc stIxc1 (St.mk [(8, (vI (↑k : Int))), (7, (vI (↑(List.length l) : Int))), (1, AV.fn (54 : FuncId) [AV.pel [(vI c.fr), (vI c.to), AV.sl (List.map eStr c.lines), (vI c.row), (vB
  c.bef), (vB c.aft)] (0 : Nat)]), (0, AV.sl (List.map eCap l))] []) = some (l, c, k) := unenc_of stIxc_inj (l, c, k) rfl

theorem unstIxc0 (l : List Cap) (c : Cap)  : unenc stIxc1 (St.mk [(8, (vI (0 : Int))), (7, (vI (↑(List.length l) : Int))), (1, AV.fn (54 : FuncId) [AV.pel [(vI c.fr), (vI c.to), AV.sl (List.map eStr c.lines), (vI c.row), (vB
  c.bef), (vB c.aft)] (0 : Nat)]), (0, AV.sl (List.map eCap l))] []) = some (l, c, 0) := unenc_of stIxc_inj (l, c, 0) rfl

def outIxc (l : List Cap) (c : Cap) (k : Nat) : T (Ex × St) := .ifB (F.found (F.findI (F.contd c) k (l.drop k))) (.ret (.ret, ⟨[(4, vI ((F.got (F.findI (F.contd c) k (l.drop k)) 0 : Nat) : Int))], []⟩)) (.ret (.exit 0, ⟨[], []⟩))

noncomputable def prlIxc (l : List Cap) (c : Cap) (k : Nat) : Bool := decide (l.length ≤ 9223372036854775807) && decide (k ≤ l.length)

noncomputable def lpIxc : Nat × (St → T (Ex × St)) := (2, lpo [8, 7, 1, 0] [] stIxc1 (fun a => prlIxc a.1 a.2.1 a.2.2) fun a => outIxc a.1 a.2.1 a.2.2)

noncomputable def enIxc : Env := envH ty noG lks [oJc] [] [] [lpIxc]

theorem enIxc_ok : EnvOK Tryd.prog enIxc := by
  refine envH_ok lks_ok ty_ok ?_ ?_
  · simp only [List.forall_mem_cons]
    exact ⟨okJc, by simp⟩
  · simp

theorem evIxcL (l : List Cap) (c : Cap) (k : Nat) : ((exec enIxc (loopN Tryd.f53 0) (stIxc l c k)).bind (lessX ([8, 7, 1, 0], []) ([], []) ([4], []))).val =
  bif decide ((↑k : Int) < (↑(List.length l) : Int)) then Option.bind (unenc (List.map eCap) (List.map eCap l)) fun (z : List Cap) => bif decide (k < List.length z) then
  Option.bind (unenc encJc [AV.agg [(vI (List.getD z k (Cap.mk (0 : Int) (0 : Int) [] (0 : Int) false false)).fr), (vI (List.getD z k (Cap.mk (0 : Int) (0 : Int) [] (0 :
  Int) false false)).to), AV.sl (List.map eStr (List.getD z k (Cap.mk (0 : Int) (0 : Int) [] (0 : Int) false false)).lines), (vI (List.getD z k (Cap.mk (0 : Int) (0 : Int)
  [] (0 : Int) false false)).row), (vB (List.getD z k (Cap.mk (0 : Int) (0 : Int) [] (0 : Int) false false)).bef), (vB (List.getD z k (Cap.mk (0 : Int) (0 : Int) [] (0 :
  Int) false false)).aft)], AV.pel [(vI c.fr), (vI c.to), AV.sl (List.map eStr c.lines), (vI c.row), (vB c.bef), (vB c.aft)] (0 : Nat)]) fun (z : Cap × Cap) => bif F.contd
  z.snd z.fst then some (Ex.ret, St.mk [(4, (vI (↑k : Int)))] []) else some (Ex.normal, St.mk [(8, (vI (IntKind.wrap IntKind.i64 ((↑k : Int) + (1 : Int))))), (7, (vI
  (↑(List.length l) : Int))), (1, AV.fn (54 : FuncId) [AV.pel [(vI c.fr), (vI c.to), AV.sl (List.map eStr c.lines), (vI c.row), (vB c.bef), (vB c.aft)] (0 : Nat)]), (0,
  AV.sl (List.map eCap l))] []) else none else some (Ex.exit (0 : Nat), St.mk [] []) := (execR_bind _ _ _).symm.trans (by kernel_rfl)

theorem lpIxc_ok (l : List Cap) (c : Cap) (k : Nat) (hp : prlIxc l c k = true) : ∀ ex s', (outIxc l c k).val = some (ex, s') → LoopOK enIxc (loopN Tryd.f53 0) (stIxc l c k) ex s' := by
  simp only [prlIxc, Bool.and_eq_true, decide_eq_true_eq] at hp
  refine loop_gen (st := stIxc l c) (out := outIxc l c) (I := fun k => k ≤ l.length) (n := ([8, 7, 1, 0], [])) (e := ([], [])) (r := ([4], [])) (fun k => l.length - k) ?_ k hp.2
  intro k hk
  by_cases hlt : k < l.length
  · have hy : l[k]? = some l[k] := List.getElem?_eq_getElem hlt
    generalize l[k] = y at hy
    have hd := drop_at hy
    cases hc : (F.contd c) y
    · right
      refine ⟨k + 1, ?_, rfl, hlt, by omega, ?_⟩
      · rw [evIxcL]
        simp only [unJc, unJcw, preJc1, unstIxc, unstIxc0, prlIxc, outIxc, etaCap, etaMch, etaWrd, etaFnd, etaRatio, etaWay, Option.bind_some, List.length_map, unStrs, unInts, unBools, unCaps, uneL_eCaps, unMchs, unWrds, unFnds, unRatios, unWays, F.lt, F.le, cond_true, cond_false, Bool.and_true, Bool.true_and, cast_lt hlt, decide_eq_true hlt, next_at hlt hp.1, getD_at hy, hc, stIxc]
        try rfl
      · simp only [outIxc, hd, F.findI, hc, cond_false]
    · left
      refine ⟨(.ret, ⟨[(4, vI k)], []⟩), ?_, ?_, by simp, rfl⟩
      · rw [evIxcL]
        simp only [unJc, unJcw, preJc1, unstIxc, unstIxc0, prlIxc, outIxc, etaCap, etaMch, etaWrd, etaFnd, etaRatio, etaWay, Option.bind_some, List.length_map, unStrs, unInts, unBools, unCaps, uneL_eCaps, unMchs, unWrds, unFnds, unRatios, unWays, F.lt, F.le, cond_true, cond_false, Bool.and_true, Bool.true_and, cast_lt hlt, decide_eq_true hlt, next_at hlt hp.1, getD_at hy, hc, stIxc]
      · simp only [outIxc, hd, F.findI, hc, cond_true, F.found, F.got]
        rfl
  · have : k = l.length := by omega
    subst this
    left
    refine ⟨(.exit 0, ⟨[], []⟩), ?_, ?_, by simp, rfl⟩
    · rw [evIxcL]; simp
    · simp [outIxc, F.findI, F.found, T.val]

theorem evIxc (l : List Cap) (c : Cap) : (runF enIxc false Tryd.f53 [.sl (l.map eCap), .fn 54 [.pel (eCap c) 0]]).val =
  Option.bind (unenc stIxc1 (St.mk [(8, (vI (0 : Int))), (7, (vI (↑(List.length (List.map eCap l)) : Int))), (1, AV.fn (54 : FuncId) [AV.pel [(vI c.fr), (vI c.to), AV.sl
  (List.map eStr c.lines), (vI c.row), (vB c.bef), (vB c.aft)] (0 : Nat)]), (0, AV.sl (List.map eCap l))] [])) fun (z : List Cap × Cap × Nat) => bif decide (List.length
  z.fst ≤ (9223372036854775807 : Nat)) && decide (z.snd.snd ≤ List.length z.fst) && true then bif F.found (F.findI (F.contd z.snd.fst) z.snd.snd (List.drop z.snd.snd z.fst))
  then some ((vI (↑(F.got (F.findI (F.contd z.snd.fst) z.snd.snd (List.drop z.snd.snd z.fst)) (0 : Nat)) : Int)), []) else some ((vI (-1 : Int)), []) else none := (runFR_val).symm.trans (by kernel_rfl)

def encIxc1 (l : List Cap) (c : Cap) : List AV := [.sl (l.map eCap), .fn 54 [.pel (eCap c) 0]]

def encIxc (a : (List Cap) × Cap) : List AV := encIxc1 a.1 a.2

theorem encIxc_inj (a a' : (List Cap) × Cap) (h : encIxc a = encIxc a') : a = a' := by
  simp only [encIxc, encIxc1] at h
  try simp [strs_inj, ints_inj, bools_inj, eCaps_inj, eCap_iff, eL_eCaps_inj, eMchs_inj, eMch_iff, eWrds_inj, eWrd_iff, eFnds_inj, eFnd_iff, eRatios_inj, eRatio_iff, eWays_inj, eWay_iff] at h
  grind

theorem unIxc (l : List Cap) (c : Cap) : unenc encIxc ([AV.sl (List.map eCap l), AV.fn (54 : FuncId) [AV.pel [(vI c.fr), (vI c.to), AV.sl (List.map eStr c.lines), (vI c.row), (vB c.bef), (vB c.aft)] (0 : Nat)]]) = some (l, c) := unenc_of encIxc_inj (l, c) rfl

theorem unIxcw (l : List Cap) (c_fr : Int) (c_to : Int) (c_lines : List ByteArray) (c_row : Int) (c_bef : Bool) (c_aft : Bool) : unenc encIxc ([AV.sl (List.map eCap l), AV.fn (54 : FuncId) [AV.pel [(vI c_fr), (vI c_to), AV.sl (List.map eStr c_lines), (vI c_row), (vB c_bef), (vB c_aft)] (0 : Nat)]]) = some (l, (Cap.mk c_fr c_to c_lines c_row c_bef c_aft)) := unenc_of encIxc_inj (l, (Cap.mk c_fr c_to c_lines c_row c_bef c_aft)) rfl

def resIxc1 (l : List Cap) (c : Cap) : AV × Heap := (vI (F.idxI (F.findI (F.contd c) 0 l)), [])

def preIxc1 (l : List Cap) (c : Cap) : Bool := true

noncomputable def oIxc : Orc := orc 53 true encIxc (fun a => preIxc1 a.1 a.2) fun a => resIxc1 a.1 a.2

theorem okIxc : OrcOK Tryd.prog noG oIxc := by
  refine mk_ok Tryd.f53 (keep := false) (by kernel_rfl) (by kernel_rfl) enIxc_ok mixed (one_loop (x0 := loopN Tryd.f53 0) (by kernel_rfl) (lpo_ok ?_)) (by first | exact fun _ _ => ⟨rfl, rfl⟩ | (intro h; cases h)) ?_
  · rintro ⟨l, c, k⟩ hp
    exact lpIxc_ok l c k hp
  rintro ⟨l, c⟩ hpre hok
  show (runF enIxc false _ (encIxc1 _ _)).val = some (resIxc1 _ _)
  unfold encIxc1 resIxc1
  rw [evIxc]
  have hx : l.length ≤ 9223372036854775807 := by simpa using (okA_sl (hok _ (List.mem_cons_self ..))).1
  simp only [unJc, unJcw, preJc1, unstIxc, unstIxc0, prlIxc, outIxc, etaCap, etaMch, etaWrd, etaFnd, etaRatio, etaWay, Option.bind_some, List.length_map, unStrs, unInts, unBools, unCaps, uneL_eCaps, unMchs, unWrds, unFnds, unRatios, unWays, F.lt, F.le, cond_true, cond_false, Bool.and_true, Bool.true_and, hx, List.drop_zero, Nat.zero_le, decide_true, F.idxI]
  cases F.found (F.findI (F.contd c) 0 l) <;> rfl


def stCt (l : List Cap) (c : Cap) (k : Nat) : St := ⟨[(9, vI k), (8, vI l.length), (7, .sl (l.map eCap)), (3, .ptr 3 0 0)], [(3, ⟨true, 0, 0, [eCap c]⟩)]⟩

def stCt1 (a : (List Cap) × Cap × Nat) : St := stCt a.1 a.2.1 a.2.2

theorem stCt_inj (a a' : (List Cap) × Cap × Nat) (h : stCt1 a = stCt1 a') : a = a' := by
  simp only [stCt1, stCt] at h
  try simp [strs_inj, ints_inj, bools_inj, eCaps_inj, eCap_iff, eL_eCaps_inj, eMchs_inj, eMch_iff, eWrds_inj, eWrd_iff, eFnds_inj, eFnd_iff, eRatios_inj, eRatio_iff, eWays_inj, eWay_iff] at h
  grind

theorem unstCt (l : List Cap) (c : Cap) (k : Nat) : unenc stCt1 (St.mk [(9, (vI (↑k : Int))), (8, (vI (↑(List.length l) : Int))), (7, AV.sl (List.map eCap l)), (3, .ptr 3 0 0)] [(3, Blk.mk true 0 0 [[(vI c.fr), (vI c.to), AV.sl
  (List.map eStr c.lines), (vI c.row), (vB c.bef), (vB c.aft)]])]) = some (l, c, k) := unenc_of stCt_inj (l, c, k) rfl

theorem unstCt0 (l : List Cap) (c : Cap)  : unenc stCt1 (St.mk [(9, (vI (0 : Int))), (8, (vI (↑(List.length l) : Int))), (7, AV.sl (List.map eCap l)), (3, .ptr 3 0 0)] [(3, Blk.mk true 0 0 [[(vI c.fr), (vI c.to), AV.sl (List.map
  eStr c.lines), (vI c.row), (vB c.bef), (vB c.aft)]])]) = some (l, c, 0) := unenc_of stCt_inj (l, c, 0) rfl

def outCt (l : List Cap) (c : Cap) (k : Nat) : T (Ex × St) := .ifB (F.found (F.findI (F.contd c) k (l.drop k))) (.ret (.ret, ⟨[(4, vI ((F.got (F.findI (F.contd c) k (l.drop k)) 0 : Nat) : Int))], []⟩)) (.ret (.exit 0, ⟨[], []⟩))

noncomputable def prlCt (l : List Cap) (c : Cap) (k : Nat) : Bool := decide (l.length ≤ 9223372036854775807) && decide (k ≤ l.length)

noncomputable def lpCt : Nat × (St → T (Ex × St)) := (2, lpo [9, 8, 7, 3] [3] stCt1 (fun a => prlCt a.1 a.2.1 a.2.2) fun a => outCt a.1 a.2.1 a.2.2)

noncomputable def enCt : Env := envH ty noG lks [oEqS] [] [] [lpCt]

theorem enCt_ok : EnvOK Tryd.prog enCt := by
  refine envH_ok lks_ok ty_ok ?_ ?_
  · simp only [List.forall_mem_cons]
    exact ⟨okEqS, by simp⟩
  · simp

theorem evCtL (l : List Cap) (c : Cap) (k : Nat) : ((exec enCt (loopN Tryd.f58 0) (stCt l c k)).bind (lessX ([9, 8, 7, 3], [3]) ([], []) ([4], []))).val =
  bif decide ((↑k : Int) < (↑(List.length l) : Int)) then Option.bind (unenc (List.map eCap) (List.map eCap l)) fun (z : List Cap) => bif decide (k < List.length z) then bif
  bif bif (List.getD z k (Cap.mk (0 : Int) (0 : Int) [] (0 : Int) false false)).aft then (List.getD z k (Cap.mk (0 : Int) (0 : Int) [] (0 : Int) false false)).to == c.fr
  else false then (List.getD z k (Cap.mk (0 : Int) (0 : Int) [] (0 : Int) false false)).row == c.row else false then Option.bind (unenc encEqS [AV.sl (List.map eStr
  (List.getD z k (Cap.mk (0 : Int) (0 : Int) [] (0 : Int) false false)).lines), AV.sl (List.map eStr c.lines)]) fun (z : List ByteArray × List ByteArray) => bif F.sameSL
  z.fst z.snd then some (Ex.ret, St.mk [(4, (vI (↑k : Int)))] []) else some (Ex.normal, St.mk [(9, (vI (IntKind.wrap IntKind.i64 ((↑k : Int) + (1 : Int))))), (8, (vI
  (↑(List.length l) : Int))), (7, AV.sl (List.map eCap l)), (3, .ptr 3 0 0)] [(3, Blk.mk true 0 0 [[(vI c.fr), (vI c.to), AV.sl (List.map eStr c.lines), (vI c.row), (vB
  c.bef), (vB c.aft)]])]) else some (Ex.normal, St.mk [(9, (vI (IntKind.wrap IntKind.i64 ((↑k : Int) + (1 : Int))))), (8, (vI (↑(List.length l) : Int))), (7, AV.sl (List.map
  eCap l)), (3, .ptr 3 0 0)] [(3, Blk.mk true 0 0 [[(vI c.fr), (vI c.to), AV.sl (List.map eStr c.lines), (vI c.row), (vB c.bef), (vB c.aft)]])]) else none else some (Ex.exit
  (0 : Nat), St.mk [] []) := (execR_bind _ _ _).symm.trans (by kernel_rfl)

theorem lpCt_ok (l : List Cap) (c : Cap) (k : Nat) (hp : prlCt l c k = true) : ∀ ex s', (outCt l c k).val = some (ex, s') → LoopOK enCt (loopN Tryd.f58 0) (stCt l c k) ex s' := by
  simp only [prlCt, Bool.and_eq_true, decide_eq_true_eq] at hp
  refine loop_gen (st := stCt l c) (out := outCt l c) (I := fun k => k ≤ l.length) (n := ([9, 8, 7, 3], [3])) (e := ([], [])) (r := ([4], [])) (fun k => l.length - k) ?_ k hp.2
  intro k hk
  by_cases hlt : k < l.length
  · have hy : l[k]? = some l[k] := List.getElem?_eq_getElem hlt
    generalize l[k] = y at hy
    have hd := drop_at hy
    cases hc : F.contd c y
    · right
      refine ⟨k + 1, ?_, rfl, hlt, by omega, ?_⟩
      · rw [evCtL]
        simp only [unEqS, preEqS1, unstCt, unstCt0, prlCt, outCt, etaCap, etaMch, etaWrd, etaFnd, etaRatio, etaWay, Option.bind_some, List.length_map, unStrs, unInts, unBools, unCaps, uneL_eCaps, unMchs, unWrds, unFnds, unRatios, unWays, F.lt, F.le, cond_true, cond_false, Bool.and_true, Bool.true_and, cast_lt hlt, decide_eq_true hlt, next_at hlt hp.1, getD_at hy, stCt]
        unfold F.contd at hc
        revert hc
        cases y.aft <;> cases (y.to == c.fr) <;> cases (y.row == c.row) <;> cases F.sameSL y.lines c.lines <;> intro hc <;> first | rfl | cases hc
      · simp only [outCt, hd, F.findI, hc, cond_false]
    · left
      refine ⟨(.ret, ⟨[(4, vI k)], []⟩), ?_, ?_, by simp, rfl⟩
      · rw [evCtL]
        simp only [unEqS, preEqS1, unstCt, unstCt0, prlCt, outCt, etaCap, etaMch, etaWrd, etaFnd, etaRatio, etaWay, Option.bind_some, List.length_map, unStrs, unInts, unBools, unCaps, uneL_eCaps, unMchs, unWrds, unFnds, unRatios, unWays, F.lt, F.le, cond_true, cond_false, Bool.and_true, Bool.true_and, cast_lt hlt, decide_eq_true hlt, next_at hlt hp.1, getD_at hy, stCt]
        unfold F.contd at hc
        revert hc
        cases y.aft <;> cases (y.to == c.fr) <;> cases (y.row == c.row) <;> cases F.sameSL y.lines c.lines <;> intro hc <;> first | rfl | cases hc
      · simp only [outCt, hd, F.findI, hc, cond_true, F.found, F.got]
        rfl
  · have : k = l.length := by omega
    subst this
    left
    refine ⟨(.exit 0, ⟨[], []⟩), ?_, ?_, by simp, rfl⟩
    · rw [evCtL]; simp
    · simp [outCt, F.findI, F.found, T.val]

theorem evCt (l : List Cap) (c : Cap) : (runF enCt false Tryd.f58 [.sl (l.map eCap), .agg (eCap c)]).val =
  Option.bind (unenc stCt1 (St.mk [(9, (vI (0 : Int))), (8, (vI (↑(List.length (List.map eCap l)) : Int))), (7, AV.sl (List.map eCap l)), (3, .ptr 3 0 0)] [(3, Blk.mk true 0
  0 [[(vI c.fr), (vI c.to), AV.sl (List.map eStr c.lines), (vI c.row), (vB c.bef), (vB c.aft)]])])) fun (z : List Cap × Cap × Nat) => bif decide (List.length z.fst ≤
  (9223372036854775807 : Nat)) && decide (z.snd.snd ≤ List.length z.fst) && true then bif F.found (F.findI (F.contd z.snd.fst) z.snd.snd (List.drop z.snd.snd z.fst)) then
  some ((vI (↑(F.got (F.findI (F.contd z.snd.fst) z.snd.snd (List.drop z.snd.snd z.fst)) (0 : Nat)) : Int)), []) else some ((vI (-1 : Int)), []) else none := (runFR_val).symm.trans (by kernel_rfl)

def encCt1 (l : List Cap) (c : Cap) : List AV := [.sl (l.map eCap), .agg (eCap c)]

def encCt (a : (List Cap) × Cap) : List AV := encCt1 a.1 a.2

theorem encCt_inj (a a' : (List Cap) × Cap) (h : encCt a = encCt a') : a = a' := by
  simp only [encCt, encCt1] at h
  try simp [strs_inj, ints_inj, bools_inj, eCaps_inj, eCap_iff, eL_eCaps_inj, eMchs_inj, eMch_iff, eWrds_inj, eWrd_iff, eFnds_inj, eFnd_iff, eRatios_inj, eRatio_iff, eWays_inj, eWay_iff] at h
  grind

theorem unCt (l : List Cap) (c : Cap) : unenc encCt ([AV.sl (List.map eCap l), AV.agg [(vI c.fr), (vI c.to), AV.sl (List.map eStr c.lines), (vI c.row), (vB c.bef), (vB c.aft)]]) = some (l, c) := unenc_of encCt_inj (l, c) rfl

theorem unCtw (l : List Cap) (c_fr : Int) (c_to : Int) (c_lines : List ByteArray) (c_row : Int) (c_bef : Bool) (c_aft : Bool) : unenc encCt ([AV.sl (List.map eCap l), AV.agg [(vI c_fr), (vI c_to), AV.sl (List.map eStr c_lines), (vI c_row), (vB c_bef), (vB c_aft)]]) = some (l, (Cap.mk c_fr c_to c_lines c_row c_bef c_aft)) := unenc_of encCt_inj (l, (Cap.mk c_fr c_to c_lines c_row c_bef c_aft)) rfl

def resCt1 (l : List Cap) (c : Cap) : AV × Heap := (vI (F.idxI (F.findI (F.contd c) 0 l)), [])

def preCt1 (l : List Cap) (c : Cap) : Bool := true

noncomputable def oCt : Orc := orc 58 true encCt (fun a => preCt1 a.1 a.2) fun a => resCt1 a.1 a.2

theorem okCt : OrcOK Tryd.prog noG oCt := by
  refine mk_ok Tryd.f58 (keep := false) (by kernel_rfl) (by kernel_rfl) enCt_ok mixed (one_loop (x0 := loopN Tryd.f58 0) (by kernel_rfl) (lpo_ok ?_)) (by first | exact fun _ _ => ⟨rfl, rfl⟩ | (intro h; cases h)) ?_
  · rintro ⟨l, c, k⟩ hp
    exact lpCt_ok l c k hp
  rintro ⟨l, c⟩ hpre hok
  show (runF enCt false _ (encCt1 _ _)).val = some (resCt1 _ _)
  unfold encCt1 resCt1
  rw [evCt]
  have hx := caps_len (hok _ (List.mem_cons_self ..))
  simp only [unEqS, preEqS1, unstCt, unstCt0, prlCt, outCt, etaCap, etaMch, etaWrd, etaFnd, etaRatio, etaWay, Option.bind_some, List.length_map, unStrs, unInts, unBools, unCaps, uneL_eCaps, unMchs, unWrds, unFnds, unRatios, unWays, F.lt, F.le, cond_true, cond_false, Bool.and_true, Bool.true_and, hx, List.drop_zero, Nat.zero_le, decide_true, F.idxI]
  cases F.found (F.findI (F.contd c) 0 l) <;> rfl

def stCkP (l : List Cap) (a : Int) (b : Int) (k : Nat) : St := ⟨[(11, vI k), (10, vI l.length), (9, .sl (l.map eCap)), (2, vI b), (1, vI a)], []⟩

def stCkP1 (a : (List Cap) × Int × Int × Nat) : St := stCkP a.1 a.2.1 a.2.2.1 a.2.2.2

theorem stCkP_inj (a a' : (List Cap) × Int × Int × Nat) (h : stCkP1 a = stCkP1 a') : a = a' := by
  simp only [stCkP1, stCkP] at h
  try simp [strs_inj, ints_inj, bools_inj, eCaps_inj, eCap_iff, eL_eCaps_inj, eMchs_inj, eMch_iff, eWrds_inj, eWrd_iff, eFnds_inj, eFnd_iff, eRatios_inj, eRatio_iff, eWays_inj, eWay_iff] at h
  grind

theorem unstCkP (l : List Cap) (a : Int) (b : Int) (k : Nat) : unenc stCkP1 (St.mk [(11, (vI (↑k : Int))), (10, (vI (↑(List.length l) : Int))), (9, AV.sl (List.map eCap l)), (2, (vI b)), (1, (vI a))] []) = some (l, a, b, k) := unenc_of stCkP_inj (l, a, b, k) rfl

theorem unstCkP0 (l : List Cap) (a : Int) (b : Int)  : unenc stCkP1 (St.mk [(11, (vI (0 : Int))), (10, (vI (↑(List.length l) : Int))), (9, AV.sl (List.map eCap l)), (2, (vI b)), (1, (vI a))] []) = some (l, a, b, 0) := unenc_of stCkP_inj (l, a, b, 0) rfl

def outCkP (l : List Cap) (a : Int) (b : Int) (k : Nat) : T (Ex × St) := .ifB (decide (M.ffI (F.prtF a b) (l.drop k) = 0)) (.ret (.exit 0, ⟨[], []⟩)) (.ret (.ret, ⟨[(6, vI (M.ffI (F.prtF a b) (l.drop k)))], []⟩))

noncomputable def prlCkP (l : List Cap) (a : Int) (b : Int) (k : Nat) : Bool := decide (l.length ≤ 9223372036854775807) && decide (k ≤ l.length)

noncomputable def lpCkP : Nat × (St → T (Ex × St)) := (2, lpo [11, 10, 9, 2, 1] [] stCkP1 (fun a => prlCkP a.1 a.2.1 a.2.2.1 a.2.2.2) fun a => outCkP a.1 a.2.1 a.2.2.1 a.2.2.2)

noncomputable def enCkP : Env := envH ty noG lks [] [] [] [lpCkP]

theorem enCkP_ok : EnvOK Tryd.prog enCkP := by
  refine envH_ok lks_ok ty_ok ?_ ?_
  · simp
  · simp

theorem evCkPL (l : List Cap) (a : Int) (b : Int) (k : Nat) : ((exec enCkP (loopN Tryd.f57 0) (stCkP l a b k)).bind (lessX ([11, 10, 9, 2, 1], []) ([], []) ([6], []))).val =
  bif decide ((↑k : Int) < (↑(List.length l) : Int)) then Option.bind (unenc (List.map eCap) (List.map eCap l)) fun (z : List Cap) => bif decide (k < List.length z) then bif
  bif decide ((List.getD z k (Cap.mk (0 : Int) (0 : Int) [] (0 : Int) false false)).fr < a) then true else decide (b < (List.getD z k (Cap.mk (0 : Int) (0 : Int) [] (0 :
  Int) false false)).to) then some (Ex.ret, St.mk [(6, (vI (1 : Int)))] []) else bif bif bif (List.getD z k (Cap.mk (0 : Int) (0 : Int) [] (0 : Int) false false)).bef then
  (List.getD z k (Cap.mk (0 : Int) (0 : Int) [] (0 : Int) false false)).fr != a else false then true else bif (List.getD z k (Cap.mk (0 : Int) (0 : Int) [] (0 : Int) false
  false)).aft then (List.getD z k (Cap.mk (0 : Int) (0 : Int) [] (0 : Int) false false)).to != b else false then some (Ex.ret, St.mk [(6, (vI (3 : Int)))] []) else some
  (Ex.normal, St.mk [(11, (vI (IntKind.wrap IntKind.i64 ((↑k : Int) + (1 : Int))))), (10, (vI (↑(List.length l) : Int))), (9, AV.sl (List.map eCap l)), (2, (vI b)), (1, (vI
  a))] []) else none else some (Ex.exit (0 : Nat), St.mk [] []) := (execR_bind _ _ _).symm.trans (by kernel_rfl)

theorem lpCkP_ok (l : List Cap) (a : Int) (b : Int) (k : Nat) (hp : prlCkP l a b k = true) : ∀ ex s', (outCkP l a b k).val = some (ex, s') → LoopOK enCkP (loopN Tryd.f57 0) (stCkP l a b k) ex s' := by
  simp only [prlCkP, Bool.and_eq_true, decide_eq_true_eq] at hp
  refine loop_code (xs := l) (st := stCkP l a b) (g := F.prtF a b) (o := fun c => (.ret, ⟨[(6, vI c)], []⟩)) (n := ([11, 10, 9, 2, 1], [])) (e := ([], [])) (r := ([6], [])) ?_ ⟨by simp, rfl⟩ (fun _ => ⟨by simp, rfl⟩) (fun _ => rfl) ?_ k hp.2
  · rw [evCkPL]; simp
  · intro k y hy
    have hlt := lt_at hy
    rw [evCkPL]
    rw [ite_bif]
    simp only [unstCkP, unstCkP0, prlCkP, outCkP, etaCap, etaMch, etaWrd, etaFnd, etaRatio, etaWay, Option.bind_some, List.length_map, unStrs, unInts, unBools, unCaps, uneL_eCaps, unMchs, unWrds, unFnds, unRatios, unWays, F.lt, F.le, cond_true, cond_false, Bool.and_true, Bool.true_and, cast_lt hlt, decide_eq_true hlt, next_at hlt hp.1, getD_at hy, stCkP, F.prtF]
    cases decide (y.fr < a) <;> cases decide (b < y.to) <;> cases y.bef <;> cases (y.fr != a) <;> cases y.aft <;> cases (y.to != b) <;> rfl

theorem evCkP (l : List Cap) (a : Int) (b : Int) : (runF enCkP false Tryd.f57 [.sl (l.map eCap), vI a, vI b]).val =
  Option.bind (unenc stCkP1 (St.mk [(11, (vI (0 : Int))), (10, (vI (↑(List.length (List.map eCap l)) : Int))), (9, AV.sl (List.map eCap l)), (2, (vI b)), (1, (vI a))] []))
  fun (z : List Cap × Int × Int × Nat) => bif decide (List.length z.fst ≤ (9223372036854775807 : Nat)) && decide (z.snd.snd.snd ≤ List.length z.fst) && true then bif decide
  (ffI (F.prtF z.snd.fst z.snd.snd.fst) (List.drop z.snd.snd.snd z.fst) = (0 : Int)) then some ((vI (0 : Int)), []) else some ((vI (ffI (F.prtF z.snd.fst z.snd.snd.fst)
  (List.drop z.snd.snd.snd z.fst))), []) else none := (runFR_val).symm.trans (by kernel_rfl)

def encCkP1 (l : List Cap) (a : Int) (b : Int) : List AV := [.sl (l.map eCap), vI a, vI b]

def encCkP (a : (List Cap) × Int × Int) : List AV := encCkP1 a.1 a.2.1 a.2.2

theorem encCkP_inj (a a' : (List Cap) × Int × Int) (h : encCkP a = encCkP a') : a = a' := by
  simp only [encCkP, encCkP1] at h
  try simp [strs_inj, ints_inj, bools_inj, eCaps_inj, eCap_iff, eL_eCaps_inj, eMchs_inj, eMch_iff, eWrds_inj, eWrd_iff, eFnds_inj, eFnd_iff, eRatios_inj, eRatio_iff, eWays_inj, eWay_iff] at h
  grind

theorem unCkP (l : List Cap) (a : Int) (b : Int) : unenc encCkP ([AV.sl (List.map eCap l), (vI a), (vI b)]) = some (l, a, b) := unenc_of encCkP_inj (l, a, b) rfl

def resCkP1 (l : List Cap) (a : Int) (b : Int) : AV × Heap := (vI (M.ffI (F.prtF a b) l), [])

def preCkP1 (l : List Cap) (a : Int) (b : Int) : Bool := true

noncomputable def oCkP : Orc := orc 57 true encCkP (fun a => preCkP1 a.1 a.2.1 a.2.2) fun a => resCkP1 a.1 a.2.1 a.2.2

theorem okCkP : OrcOK Tryd.prog noG oCkP := by
  refine mk_ok Tryd.f57 (keep := false) (by kernel_rfl) (by kernel_rfl) enCkP_ok mixed (one_loop (x0 := loopN Tryd.f57 0) (by kernel_rfl) (lpo_ok ?_)) (by first | exact fun _ _ => ⟨rfl, rfl⟩ | (intro h; cases h)) ?_
  · rintro ⟨l, a, b, k⟩ hp
    exact lpCkP_ok l a b k hp
  rintro ⟨l, a, b⟩ hpre hok
  show (runF enCkP false _ (encCkP1 _ _ _)).val = some (resCkP1 _ _ _)
  unfold encCkP1 resCkP1
  rw [evCkP]
  have hx := caps_len (hok _ (List.mem_cons_self ..))
  simp only [unstCkP, unstCkP0, prlCkP, outCkP, etaCap, etaMch, etaWrd, etaFnd, etaRatio, etaWay, Option.bind_some, List.length_map, unStrs, unInts, unBools, unCaps, uneL_eCaps, unMchs, unWrds, unFnds, unRatios, unWays, F.lt, F.le, cond_true, cond_false, Bool.and_true, Bool.true_and, hx, List.drop_zero, Nat.zero_le, decide_true]
  by_cases h : M.ffI (F.prtF a b) l = 0 <;> simp [h]

def stPf1 (l : List (List Cap)) (bs : List Int) (k : Nat) : St := ⟨[(15, vI k), (14, vI l.length), (13, .sl (l.map eL_eCap)), (1, .sl (bs.map eI)), (0, .sl (l.map eL_eCap))], []⟩

def stPf11 (a : (List (List Cap)) × (List Int) × Nat) : St := stPf1 a.1 a.2.1 a.2.2

theorem stPf1_inj (a a' : (List (List Cap)) × (List Int) × Nat) (h : stPf11 a = stPf11 a') : a = a' := by
  simp only [stPf11, stPf1] at h
  try simp [strs_inj, ints_inj, bools_inj, eCaps_inj, eCap_iff, eL_eCaps_inj, eMchs_inj, eMch_iff, eWrds_inj, eWrd_iff, eFnds_inj, eFnd_iff, eRatios_inj, eRatio_iff, eWays_inj, eWay_iff] at h
  grind

theorem unstPf1 (l : List (List Cap)) (bs : List Int) (k : Nat) : unenc stPf11 (St.mk [(15, (vI (↑k : Int))), (14, (vI (↑(List.length l) : Int))), (13, AV.sl (List.map eL_eCap l)), (1, AV.sl (List.map eI bs)), (0, AV.sl (List.map eL_eCap l))] []) = some (l, bs, k) := unenc_of stPf1_inj (l, bs, k) rfl

theorem unstPf10 (l : List (List Cap)) (bs : List Int)  : unenc stPf11 (St.mk [(15, (vI (0 : Int))), (14, (vI (↑(List.length l) : Int))), (13, AV.sl (List.map eL_eCap l)), (1, AV.sl (List.map eI bs)), (0, AV.sl (List.map eL_eCap l))] []) = some (l, bs, 0) := unenc_of stPf1_inj (l, bs, 0) rfl

def outPf1 (l : List (List Cap)) (bs : List Int) (k : Nat) : T (Ex × St) := .ifB (decide (M.ffI F.chkC (l.drop k) = 0)) (.ret (.exit 0, ⟨[(1, .sl (bs.map eI)), (0, .sl (l.map eL_eCap))], []⟩)) (.ret (.ret, ⟨[(4, vI (M.ffI F.chkC (l.drop k)))], []⟩))

noncomputable def prlPf1 (l : List (List Cap)) (bs : List Int) (k : Nat) : Bool := decide (l.length ≤ 9223372036854775807) && decide (k ≤ l.length) && F.smLL l

noncomputable def lpPf1 : Nat × (St → T (Ex × St)) := (2, lpo [15, 14, 13, 1, 0] [] stPf11 (fun a => prlPf1 a.1 a.2.1 a.2.2) fun a => outPf1 a.1 a.2.1 a.2.2)

def stPf2 (l : List (List Cap)) (bs : List Int) (k : Nat) : St := ⟨[(38, vI k), (37, vI l.length), (36, .sl (l.map eL_eCap)), (1, .sl (bs.map eI))], []⟩

def stPf21 (a : (List (List Cap)) × (List Int) × Nat) : St := stPf2 a.1 a.2.1 a.2.2

theorem stPf2_inj (a a' : (List (List Cap)) × (List Int) × Nat) (h : stPf21 a = stPf21 a') : a = a' := by
  simp only [stPf21, stPf2] at h
  try simp [strs_inj, ints_inj, bools_inj, eCaps_inj, eCap_iff, eL_eCaps_inj, eMchs_inj, eMch_iff, eWrds_inj, eWrd_iff, eFnds_inj, eFnd_iff, eRatios_inj, eRatio_iff, eWays_inj, eWay_iff] at h
  grind

theorem unstPf2 (l : List (List Cap)) (bs : List Int) (k : Nat) : unenc stPf21 (St.mk [(38, (vI (↑k : Int))), (37, (vI (↑(List.length l) : Int))), (36, AV.sl (List.map eL_eCap l)), (1, AV.sl (List.map eI bs))] []) = some (l, bs, k) := unenc_of stPf2_inj (l, bs, k) rfl

theorem unstPf20 (l : List (List Cap)) (bs : List Int)  : unenc stPf21 (St.mk [(38, (vI (0 : Int))), (37, (vI (↑(List.length l) : Int))), (36, AV.sl (List.map eL_eCap l)), (1, AV.sl (List.map eI bs))] []) = some (l, bs, 0) := unenc_of stPf2_inj (l, bs, 0) rfl

def outPf2 (l : List (List Cap)) (bs : List Int) (k : Nat) : T (Ex × St) := .ifB (decide (F.segF (l.drop k) (bs.drop k) = 0)) (.ret (.exit 2, ⟨[], []⟩)) (.ret (.ret, ⟨[(4, vI (F.segF (l.drop k) (bs.drop k)))], []⟩))

noncomputable def prlPf2 (l : List (List Cap)) (bs : List Int) (k : Nat) : Bool := decide (bs.length ≤ 200) && decide (k ≤ l.length) && decide (l.length + 1 = bs.length) && decide (M.ffI F.chkC l = 0)

noncomputable def lpPf2 : Nat × (St → T (Ex × St)) := (14, lpo [38, 37, 36, 1] [] stPf21 (fun a => prlPf2 a.1 a.2.1 a.2.2) fun a => outPf2 a.1 a.2.1 a.2.2)

def stPf3 (l : List (List Cap)) (bs : List Int) (k : Nat) (p : List Cap) (j : Nat) : St := ⟨[(45, vI j), (44, vI p.length), (43, .sl (p.map eCap)), (38, vI k), (37, vI l.length), (36, .sl (l.map eL_eCap)), (9, vI k), (1, .sl (bs.map eI))], []⟩

def stPf31 (a : (List (List Cap)) × (List Int) × Nat × (List Cap) × Nat) : St := stPf3 a.1 a.2.1 a.2.2.1 a.2.2.2.1 a.2.2.2.2

theorem stPf3_inj (a a' : (List (List Cap)) × (List Int) × Nat × (List Cap) × Nat) (h : stPf31 a = stPf31 a') : a = a' := by
  simp only [stPf31, stPf3] at h
  try simp [strs_inj, ints_inj, bools_inj, eCaps_inj, eCap_iff, eL_eCaps_inj, eMchs_inj, eMch_iff, eWrds_inj, eWrd_iff, eFnds_inj, eFnd_iff, eRatios_inj, eRatio_iff, eWays_inj, eWay_iff] at h
  grind

theorem unstPf3 (l : List (List Cap)) (bs : List Int) (k : Nat) (p : List Cap) (j : Nat) : unenc stPf31 (St.mk [(45, (vI (↑j : Int))), (44, (vI (↑(List.length p) : Int))), (43, AV.sl (List.map eCap p)), (38, (vI (↑k : Int))), (37, (vI (↑(List.length l) : Int))), (36, AV.sl
  (List.map eL_eCap l)), (9, (vI (↑k : Int))), (1, AV.sl (List.map eI bs))] []) = some (l, bs, k, p, j) := unenc_of stPf3_inj (l, bs, k, p, j) rfl

theorem unstPf30 (l : List (List Cap)) (bs : List Int) (k : Nat) (p : List Cap)  : unenc stPf31 (St.mk [(45, (vI (0 : Int))), (44, (vI (↑(List.length p) : Int))), (43, AV.sl (List.map eCap p)), (38, (vI (↑k : Int))), (37, (vI (↑(List.length l) : Int))), (36, AV.sl
  (List.map eL_eCap l)), (9, (vI (↑k : Int))), (1, AV.sl (List.map eI bs))] []) = some (l, bs, k, p, 0) := unenc_of stPf3_inj (l, bs, k, p, 0) rfl

def outPf3 (l : List (List Cap)) (bs : List Int) (k : Nat) (p : List Cap) (j : Nat) : T (Ex × St) := .ifB (decide (M.ffI (F.prtF (bs.getD k 0) (bs.getD (k + 1) 0)) (p.drop j) = 0)) (.ret (.exit 4, ⟨[(38, vI k), (37, vI l.length), (36, .sl (l.map eL_eCap)), (1, .sl (bs.map eI))], []⟩)) (.ret (.ret, ⟨[(4, vI (M.ffI (F.prtF (bs.getD k 0) (bs.getD (k + 1) 0)) (p.drop j)))], []⟩))

noncomputable def prlPf3 (l : List (List Cap)) (bs : List Int) (k : Nat) (p : List Cap) (j : Nat) : Bool := decide (p.length ≤ 9223372036854775807) && decide (j ≤ p.length) && decide (k + 1 < bs.length ∧ bs.length ≤ 9223372036854775807)

noncomputable def lpPf3 : Nat × (St → T (Ex × St)) := (17, lpo [45, 44, 43, 38, 37, 36, 9, 1] [] stPf31 (fun a => prlPf3 a.1 a.2.1 a.2.2.1 a.2.2.2.1 a.2.2.2.2) fun a => outPf3 a.1 a.2.1 a.2.2.1 a.2.2.2.1 a.2.2.2.2)

noncomputable def enPf : Env := envH ty noG lks [oChC, oBF] [] [] [lpPf1, lpPf2, lpPf3]

theorem enPf_ok : EnvOK Tryd.prog enPf := by
  refine envH_ok lks_ok ty_ok ?_ ?_
  · simp only [List.forall_mem_cons]
    exact ⟨okChC, okBF, by simp⟩
  · simp

theorem evPf1L (l : List (List Cap)) (bs : List Int) (k : Nat) : ((exec enPf (loopN Tryd.f52 0) (stPf1 l bs k)).bind (lessX ([15, 14, 13, 1, 0], []) ([1, 0], []) ([4], []))).val =
  bif decide ((↑k : Int) < (↑(List.length l) : Int)) then Option.bind (unenc (List.map eL_eCap) (List.map eL_eCap l)) fun (z : List (List Cap)) => bif decide (k <
  List.length z) then Option.bind (unenc encChC [AV.sl (List.map eCap (List.getD z k []))]) fun (z : List Cap) => bif F.smC z then bif F.chkC z != (0 : Int) then some
  (Ex.ret, St.mk [(4, (vI (F.chkC z)))] []) else some (Ex.normal, St.mk [(15, (vI (IntKind.wrap IntKind.i64 ((↑k : Int) + (1 : Int))))), (14, (vI (↑(List.length l) : Int))),
  (13, AV.sl (List.map eL_eCap l)), (1, AV.sl (List.map eI bs)), (0, AV.sl (List.map eL_eCap l))] []) else none else none else some (Ex.exit (0 : Nat), St.mk [(1, AV.sl
  (List.map eI bs)), (0, AV.sl (List.map eL_eCap l))] []) := (execR_bind _ _ _).symm.trans (by kernel_rfl)

theorem lpPf1_ok (l : List (List Cap)) (bs : List Int) (k : Nat) (hp : prlPf1 l bs k = true) : ∀ ex s', (outPf1 l bs k).val = some (ex, s') → LoopOK enPf (loopN Tryd.f52 0) (stPf1 l bs k) ex s' := by
  simp only [prlPf1, Bool.and_eq_true, decide_eq_true_eq] at hp
  obtain ⟨⟨h1, h2⟩, h3⟩ := hp
  refine loop_code (xs := l) (st := stPf1 l bs) (g := F.chkC) (o := fun c => (.ret, ⟨[(4, vI c)], []⟩)) (n := ([15, 14, 13, 1, 0], [])) (e := ([1, 0], [])) (r := ([4], [])) ?_ ⟨by simp, rfl⟩ (fun _ => ⟨by simp, rfl⟩) (fun _ => rfl) ?_ k h2
  · rw [evPf1L]; simp
  · intro k y hy
    have hlt := lt_at hy
    have hsm : F.smC y = true := List.all_eq_true.1 h3 y (List.mem_of_getElem? hy)
    rw [evPf1L]
    simp only [unChC, unBF, preChC1, preBF1, unstPf1, unstPf2, unstPf3, unstPf10, unstPf20, unstPf30, prlPf1, prlPf2, prlPf3, outPf1, outPf2, outPf3, etaCap, etaMch, etaWrd, etaFnd, etaRatio, etaWay, Option.bind_some, List.length_map, unStrs, unInts, unBools, unCaps, uneL_eCaps, unMchs, unWrds, unFnds, unRatios, unWays, F.lt, F.le, cond_true, cond_false, Bool.and_true, Bool.true_and, cast_lt hlt, decide_eq_true hlt, next_at hlt h1, getD_at hy, hsm, stPf1]
    by_cases h : F.chkC y = 0
    · rw [bne0 h, if_pos h]; rfl
    · rw [bne1 h, if_neg h]; rfl

theorem evPf3L (l : List (List Cap)) (bs : List Int) (k : Nat) (p : List Cap) (j : Nat) : ((exec enPf (loopN Tryd.f52 2) (stPf3 l bs k p j)).bind (lessX ([45, 44, 43, 38, 37, 36, 9, 1], []) ([38, 37, 36, 1], []) ([4], []))).val =
  bif decide ((↑j : Int) < (↑(List.length p) : Int)) then Option.bind (unenc (List.map eCap) (List.map eCap p)) fun (z : List Cap) => bif decide (j < List.length z) then
  Option.bind (unenc (List.map eI) (List.map eI bs)) fun (z_1 : List Int) => bif decide (k < List.length z_1) then bif !decide ((List.getD z j (Cap.mk (0 : Int) (0 : Int) []
  (0 : Int) false false)).fr < List.getD z_1 k (0 : Int)) then Option.bind (idx (IntKind.wrap IntKind.i64 ((↑k : Int) + (1 : Int)))) fun (z_2 : Nat) => Option.bind (unenc
  (List.map eI) (List.map eI bs)) fun (z_3 : List Int) => bif decide (z_2 < List.length z_3) then bif decide (List.getD z_3 z_2 (0 : Int) < (List.getD z j (Cap.mk (0 : Int)
  (0 : Int) [] (0 : Int) false false)).to) then some (Ex.ret, St.mk [(4, (vI (1 : Int)))] []) else bif (List.getD z j (Cap.mk (0 : Int) (0 : Int) [] (0 : Int) false
  false)).bef then Option.bind (unenc (List.map eI) (List.map eI bs)) fun (z_4 : List Int) => bif decide (k < List.length z_4) then bif !(List.getD z j (Cap.mk (0 : Int) (0
  : Int) [] (0 : Int) false false)).fr != List.getD z_4 k (0 : Int) && (List.getD z j (Cap.mk (0 : Int) (0 : Int) [] (0 : Int) false false)).aft then Option.bind (idx
  (IntKind.wrap IntKind.i64 ((↑k : Int) + (1 : Int)))) fun (z_5 : Nat) => Option.bind (unenc (List.map eI) (List.map eI bs)) fun (z_6 : List Int) => bif decide (z_5 <
  List.length z_6) then bif bif (List.getD z j (Cap.mk (0 : Int) (0 : Int) [] (0 : Int) false false)).fr != List.getD z_4 k (0 : Int) then true else (List.getD z j (Cap.mk
  (0 : Int) (0 : Int) [] (0 : Int) false false)).to != List.getD z_6 z_5 (0 : Int) then some (Ex.ret, St.mk [(4, (vI (3 : Int)))] []) else some (Ex.normal, St.mk [(45, (vI
  (IntKind.wrap IntKind.i64 ((↑j : Int) + (1 : Int))))), (44, (vI (↑(List.length p) : Int))), (43, AV.sl (List.map eCap p)), (38, (vI (↑k : Int))), (37, (vI (↑(List.length
  l) : Int))), (36, AV.sl (List.map eL_eCap l)), (9, (vI (↑k : Int))), (1, AV.sl (List.map eI bs))] []) else none else bif !(List.getD z j (Cap.mk (0 : Int) (0 : Int) [] (0
  : Int) false false)).fr != List.getD z_4 k (0 : Int) && (List.getD z j (Cap.mk (0 : Int) (0 : Int) [] (0 : Int) false false)).aft then none else bif !(List.getD z j
  (Cap.mk (0 : Int) (0 : Int) [] (0 : Int) false false)).fr != List.getD z_4 k (0 : Int) && (List.getD z j (Cap.mk (0 : Int) (0 : Int) [] (0 : Int) false false)).aft then
  none else bif !(List.getD z j (Cap.mk (0 : Int) (0 : Int) [] (0 : Int) false false)).fr != List.getD z_4 k (0 : Int) && (List.getD z j (Cap.mk (0 : Int) (0 : Int) [] (0 :
  Int) false false)).aft then none else bif bif (List.getD z j (Cap.mk (0 : Int) (0 : Int) [] (0 : Int) false false)).fr != List.getD z_4 k (0 : Int) then true else false
  then some (Ex.ret, St.mk [(4, (vI (3 : Int)))] []) else some (Ex.normal, St.mk [(45, (vI (IntKind.wrap IntKind.i64 ((↑j : Int) + (1 : Int))))), (44, (vI (↑(List.length p)
  : Int))), (43, AV.sl (List.map eCap p)), (38, (vI (↑k : Int))), (37, (vI (↑(List.length l) : Int))), (36, AV.sl (List.map eL_eCap l)), (9, (vI (↑k : Int))), (1, AV.sl
  (List.map eI bs))] []) else none else bif (List.getD z j (Cap.mk (0 : Int) (0 : Int) [] (0 : Int) false false)).aft then Option.bind (idx (IntKind.wrap IntKind.i64 ((↑k :
  Int) + (1 : Int)))) fun (z_4 : Nat) => Option.bind (unenc (List.map eI) (List.map eI bs)) fun (z_5 : List Int) => bif decide (z_4 < List.length z_5) then bif (List.getD z
  j (Cap.mk (0 : Int) (0 : Int) [] (0 : Int) false false)).to != List.getD z_5 z_4 (0 : Int) then some (Ex.ret, St.mk [(4, (vI (3 : Int)))] []) else some (Ex.normal, St.mk
  [(45, (vI (IntKind.wrap IntKind.i64 ((↑j : Int) + (1 : Int))))), (44, (vI (↑(List.length p) : Int))), (43, AV.sl (List.map eCap p)), (38, (vI (↑k : Int))), (37, (vI
  (↑(List.length l) : Int))), (36, AV.sl (List.map eL_eCap l)), (9, (vI (↑k : Int))), (1, AV.sl (List.map eI bs))] []) else none else bif (List.getD z j (Cap.mk (0 : Int) (0
  : Int) [] (0 : Int) false false)).aft then none else bif (List.getD z j (Cap.mk (0 : Int) (0 : Int) [] (0 : Int) false false)).aft then none else bif (List.getD z j
  (Cap.mk (0 : Int) (0 : Int) [] (0 : Int) false false)).aft then none else some (Ex.normal, St.mk [(45, (vI (IntKind.wrap IntKind.i64 ((↑j : Int) + (1 : Int))))), (44, (vI
  (↑(List.length p) : Int))), (43, AV.sl (List.map eCap p)), (38, (vI (↑k : Int))), (37, (vI (↑(List.length l) : Int))), (36, AV.sl (List.map eL_eCap l)), (9, (vI (↑k :
  Int))), (1, AV.sl (List.map eI bs))] []) else none else some (Ex.ret, St.mk [(4, (vI (1 : Int)))] []) else none else none else some (Ex.exit (4 : Nat), St.mk [(38, (vI (↑k
  : Int))), (37, (vI (↑(List.length l) : Int))), (36, AV.sl (List.map eL_eCap l)), (1, AV.sl (List.map eI bs))] []) := (execR_bind _ _ _).symm.trans (by kernel_rfl)

theorem lpPf3_ok (l : List (List Cap)) (bs : List Int) (k : Nat) (p : List Cap) (j : Nat) (hp : prlPf3 l bs k p j = true) : ∀ ex s', (outPf3 l bs k p j).val = some (ex, s') → LoopOK enPf (loopN Tryd.f52 2) (stPf3 l bs k p j) ex s' := by
  simp only [prlPf3, Bool.and_eq_true, decide_eq_true_eq] at hp
  obtain ⟨⟨h1, h2⟩, h3, h4⟩ := hp
  obtain ⟨a, ha⟩ := at_lt (show k < bs.length by omega)
  obtain ⟨b, hb⟩ := at_lt (show k + 1 < bs.length from h3)
  refine loop_code (xs := p) (st := stPf3 l bs k p) (g := F.prtF (bs.getD k 0) (bs.getD (k + 1) 0)) (o := fun c => (.ret, ⟨[(4, vI c)], []⟩)) (n := ([45, 44, 43, 38, 37, 36, 9, 1], [])) (e := ([38, 37, 36, 1], [])) (r := ([4], [])) ?_ ⟨by simp, rfl⟩ (fun _ => ⟨by simp, rfl⟩) (fun _ => rfl) ?_ j h2
  · rw [evPf3L]; simp
  · intro j y hy
    have hlt := lt_at hy
    have hw : IntKind.i64.wrap ((k : Int) + 1) = ((k + 1 : Nat) : Int) := w_add1 (by omega)
    rw [evPf3L]
    rw [ite_bif]
    simp only [unChC, unBF, preChC1, preBF1, unstPf1, unstPf2, unstPf3, unstPf10, unstPf20, unstPf30, prlPf1, prlPf2, prlPf3, outPf1, outPf2, outPf3, etaCap, etaMch, etaWrd, etaFnd, etaRatio, etaWay, Option.bind_some, List.length_map, unStrs, unInts, unBools, unCaps, uneL_eCaps, unMchs, unWrds, unFnds, unRatios, unWays, F.lt, F.le, cond_true, cond_false, Bool.and_true, Bool.true_and, cast_lt hlt, decide_eq_true hlt, next_at hlt h1, getD_at hy, hw, idx_nat, decide_eq_true (lt_at ha), decide_eq_true (lt_at hb), getD_at ha, getD_at hb, stPf3, F.prtF]
    cases decide (y.fr < a) <;> cases decide (b < y.to) <;> cases y.bef <;> cases (y.fr != a) <;> cases y.aft <;> cases (y.to != b) <;> rfl

theorem evPf2L (l : List (List Cap)) (bs : List Int) (k : Nat) : ((exec enPf (loopN Tryd.f52 1) (stPf2 l bs k)).bind (lessX ([38, 37, 36, 1], []) ([], []) ([4], []))).val =
  bif decide ((↑k : Int) < (↑(List.length l) : Int)) then Option.bind (unenc (List.map eL_eCap) (List.map eL_eCap l)) fun (z : List (List Cap)) => bif decide (k <
  List.length z) then Option.bind (unenc stPf31 (St.mk [(45, (vI (0 : Int))), (44, (vI (↑(List.length (List.map eCap (List.getD z k []))) : Int))), (43, AV.sl (List.map eCap
  (List.getD z k []))), (38, (vI (↑k : Int))), (37, (vI (↑(List.length l) : Int))), (36, AV.sl (List.map eL_eCap l)), (9, (vI (↑k : Int))), (1, AV.sl (List.map eI bs))] []))
  fun (z : List (List Cap) × List Int × Nat × List Cap × Nat) => bif decide (List.length z.snd.snd.snd.fst ≤ (9223372036854775807 : Nat)) && decide (z.snd.snd.snd.snd ≤
  List.length z.snd.snd.snd.fst) && decide (z.snd.snd.fst + (1 : Nat) < List.length z.snd.fst ∧ List.length z.snd.fst ≤ (9223372036854775807 : Nat)) && true then bif decide
  (ffI (F.prtF (List.getD z.snd.fst z.snd.snd.fst (0 : Int)) (List.getD z.snd.fst (z.snd.snd.fst + (1 : Nat)) (0 : Int))) (List.drop z.snd.snd.snd.snd z.snd.snd.snd.fst) =
  (0 : Int)) then some (Ex.normal, St.mk [(38, (vI (IntKind.wrap IntKind.i64 ((↑z.snd.snd.fst : Int) + (1 : Int))))), (37, (vI (↑(List.length z.fst) : Int))), (36, AV.sl
  (List.map eL_eCap z.fst)), (1, AV.sl (List.map eI z.snd.fst))] []) else some (Ex.ret, St.mk [(4, (vI (ffI (F.prtF (List.getD z.snd.fst z.snd.snd.fst (0 : Int)) (List.getD
  z.snd.fst (z.snd.snd.fst + (1 : Nat)) (0 : Int))) (List.drop z.snd.snd.snd.snd z.snd.snd.snd.fst))))] []) else none else none else some (Ex.exit (2 : Nat), St.mk [] []) := (execR_bind _ _ _).symm.trans (by kernel_rfl)

theorem lpPf2_ok (l : List (List Cap)) (bs : List Int) (k : Nat) (hp : prlPf2 l bs k = true) : ∀ ex s', (outPf2 l bs k).val = some (ex, s') → LoopOK enPf (loopN Tryd.f52 1) (stPf2 l bs k) ex s' := by
  simp only [prlPf2, Bool.and_eq_true, decide_eq_true_eq] at hp
  obtain ⟨⟨⟨h1, h2⟩, h3⟩, h4⟩ := hp
  refine loop_gen (st := stPf2 l bs) (out := outPf2 l bs) (I := fun k => k ≤ l.length) (n := ([38, 37, 36, 1], [])) (e := ([], [])) (r := ([4], [])) (fun k => l.length - k) ?_ k h2
  intro k hk
  by_cases hlt : k < l.length
  · have hy : l[k]? = some l[k] := List.getElem?_eq_getElem hlt
    generalize l[k] = y at hy
    obtain ⟨a, ha⟩ := at_lt (show k < bs.length by omega)
    obtain ⟨b, hb⟩ := at_lt (show k + 1 < bs.length by omega)
    have hyl := F.chk_len (ffI_all h4 y (List.mem_of_getElem? hy))
    have q1 : k + 1 < bs.length ∧ bs.length ≤ 9223372036854775807 := ⟨by omega, by omega⟩
    have hs := F.segF_at hy ha hb
    by_cases hc : M.ffI (F.prtF a b) y = 0
    · right
      rw [bne0 hc, cond_false] at hs
      refine ⟨k + 1, ?_, rfl, hlt, by omega, by simp only [outPf2, hs]⟩
      rw [evPf2L]
      simp only [unChC, unBF, preChC1, preBF1, unstPf1, unstPf2, unstPf3, unstPf10, unstPf20, unstPf30, prlPf1, prlPf2, prlPf3, outPf1, outPf2, outPf3, etaCap, etaMch, etaWrd, etaFnd, etaRatio, etaWay, Option.bind_some, List.length_map, unStrs, unInts, unBools, unCaps, uneL_eCaps, unMchs, unWrds, unFnds, unRatios, unWays, F.lt, F.le, cond_true, cond_false, Bool.and_true, Bool.true_and, cast_lt hlt, decide_eq_true hlt, getD_at hy, decide_eq_true (show y.length ≤ 9223372036854775807 by omega), Nat.zero_le, decide_true, decide_eq_true q1, List.drop_zero, getD_at ha, getD_at hb, decide_eq_true hc, w_add1 (show k < 9223372036854775807 by omega), stPf2]
    · left
      rw [bne1 hc, cond_true] at hs
      refine ⟨(.ret, ⟨[(4, vI (M.ffI (F.prtF a b) y))], []⟩), ?_, ?_, by simp, rfl⟩
      · rw [evPf2L]
        simp only [unChC, unBF, preChC1, preBF1, unstPf1, unstPf2, unstPf3, unstPf10, unstPf20, unstPf30, prlPf1, prlPf2, prlPf3, outPf1, outPf2, outPf3, etaCap, etaMch, etaWrd, etaFnd, etaRatio, etaWay, Option.bind_some, List.length_map, unStrs, unInts, unBools, unCaps, uneL_eCaps, unMchs, unWrds, unFnds, unRatios, unWays, F.lt, F.le, cond_true, cond_false, Bool.and_true, Bool.true_and, cast_lt hlt, decide_eq_true hlt, getD_at hy, decide_eq_true (show y.length ≤ 9223372036854775807 by omega), Nat.zero_le, decide_true, decide_eq_true q1, List.drop_zero, getD_at ha, getD_at hb, decide_eq_false hc]
      · simp [outPf2, hs, hc, T.val]
  · left
    have : k = l.length := by omega
    subst this
    refine ⟨(.exit 2, ⟨[], []⟩), ?_, ?_, by simp, rfl⟩
    · rw [evPf2L]; simp
    · simp [outPf2, F.segF, T.val]

theorem evPf (l : List (List Cap)) (bs : List Int) : (runF enPf false Tryd.f52 [.sl (l.map eL_eCap), .sl (bs.map eI)]).val =
  Option.bind (unenc stPf11 (St.mk [(15, (vI (0 : Int))), (14, (vI (↑(List.length (List.map eL_eCap l)) : Int))), (13, AV.sl (List.map eL_eCap l)), (1, AV.sl (List.map eI
  bs)), (0, AV.sl (List.map eL_eCap l))] [])) fun (z : List (List Cap) × List Int × Nat) => bif decide (List.length z.fst ≤ (9223372036854775807 : Nat)) && decide (z.snd.snd
  ≤ List.length z.fst) && F.smLL z.fst && true then bif decide (ffI F.chkC (List.drop z.snd.snd z.fst) = (0 : Int)) then Option.bind (unenc encBF [AV.sl (List.map eI
  z.snd.fst)]) fun (z_1 : List Int) => bif F.bnds z_1 != (0 : Int) then some ((vI (F.bnds z_1)), []) else bif (↑(List.length (List.map eL_eCap z.fst)) : Int) != IntKind.wrap
  IntKind.i64 ((↑(List.length (List.map eI z.snd.fst)) : Int) - (1 : Int)) then some ((vI (3 : Int)), []) else Option.bind (unenc stPf21 (St.mk [(38, (vI (0 : Int))), (37,
  (vI (↑(List.length (List.map eL_eCap z.fst)) : Int))), (36, AV.sl (List.map eL_eCap z.fst)), (1, AV.sl (List.map eI z.snd.fst))] [])) fun (z : List (List Cap) × List Int ×
  Nat) => bif decide (List.length z.snd.fst ≤ (200 : Nat)) && decide (z.snd.snd ≤ List.length z.fst) && decide (List.length z.fst + (1 : Nat) = List.length z.snd.fst) &&
  decide (ffI F.chkC z.fst = (0 : Int)) && true then bif decide (F.segF (List.drop z.snd.snd z.fst) (List.drop z.snd.snd z.snd.fst) = (0 : Int)) then some ((vI (0 : Int)),
  []) else some ((vI (F.segF (List.drop z.snd.snd z.fst) (List.drop z.snd.snd z.snd.fst))), []) else none else some ((vI (ffI F.chkC (List.drop z.snd.snd z.fst))), []) else
  none := (runFR_val).symm.trans (by kernel_rfl)

def encPf1 (l : List (List Cap)) (bs : List Int) : List AV := [.sl (l.map eL_eCap), .sl (bs.map eI)]

def encPf (a : (List (List Cap)) × (List Int)) : List AV := encPf1 a.1 a.2

theorem encPf_inj (a a' : (List (List Cap)) × (List Int)) (h : encPf a = encPf a') : a = a' := by
  simp only [encPf, encPf1] at h
  try simp [strs_inj, ints_inj, bools_inj, eCaps_inj, eCap_iff, eL_eCaps_inj, eMchs_inj, eMch_iff, eWrds_inj, eWrd_iff, eFnds_inj, eFnd_iff, eRatios_inj, eRatio_iff, eWays_inj, eWay_iff] at h
  grind

theorem unPf (l : List (List Cap)) (bs : List Int) : unenc encPf ([AV.sl (List.map eL_eCap l), AV.sl (List.map eI bs)]) = some (l, bs) := unenc_of encPf_inj (l, bs) rfl

def resPf1 (l : List (List Cap)) (bs : List Int) : AV × Heap := (vI (F.prtsF l bs), [])

def prePf1 (l : List (List Cap)) (bs : List Int) : Bool := F.smLL l

noncomputable def oPf : Orc := orc 52 true encPf (fun a => prePf1 a.1 a.2) fun a => resPf1 a.1 a.2

theorem okPf : OrcOK Tryd.prog noG oPf := by
  refine mk_ok Tryd.f52 (keep := false) (by kernel_rfl) (by kernel_rfl) enPf_ok mixed (three_loops (x0 := loopN Tryd.f52 0) (x1 := loopN Tryd.f52 1) (x2 := loopN Tryd.f52 2) (by kernel_rfl) (lpo_ok ?_) (lpo_ok ?_) (lpo_ok ?_)) (by first | exact fun _ _ => ⟨rfl, rfl⟩ | (intro h; cases h)) ?_
  · rintro ⟨l, bs, k⟩ hp
    exact lpPf1_ok l bs k hp
  · rintro ⟨l, bs, k⟩ hp
    exact lpPf2_ok l bs k hp
  · rintro ⟨l, bs, k, p, j⟩ hp
    exact lpPf3_ok l bs k p j hp
  rintro ⟨l, bs⟩ hpre hok
  show (runF enPf false _ (encPf1 _ _)).val = some (resPf1 _ _)
  unfold encPf1 resPf1
  rw [evPf]
  simp only [prePf1] at hpre
  have hx : l.length ≤ 9223372036854775807 := by simpa using (okA_sl (hok _ (List.mem_cons_self ..))).1
  simp only [unChC, unBF, preChC1, preBF1, unstPf1, unstPf2, unstPf3, unstPf10, unstPf20, unstPf30, prlPf1, prlPf2, prlPf3, outPf1, outPf2, outPf3, etaCap, etaMch, etaWrd, etaFnd, etaRatio, etaWay, Option.bind_some, List.length_map, unStrs, unInts, unBools, unCaps, uneL_eCaps, unMchs, unWrds, unFnds, unRatios, unWays, F.lt, F.le, cond_true, cond_false, Bool.and_true, Bool.true_and, hx, List.drop_zero, Nat.zero_le, decide_true, hpre, F.prtsF]
  by_cases h0 : M.ffI F.chkC l = 0
  case neg => simp only [decide_eq_false h0, bne1 h0, cond_true, cond_false]
  simp only [decide_eq_true h0, bne0 h0, cond_true, cond_false]
  by_cases hb : F.bnds bs = 0
  case neg => simp only [bne1 hb, cond_true]
  obtain ⟨b1, b2⟩ := F.bnds_ok hb
  simp only [bne0 hb, cond_false, w_sub1 (show 1 ≤ bs.length by omega) (show bs.length ≤ 9223372036854775807 by omega)]
  have e : ((l.length : Int) != ((bs.length - 1 : Nat) : Int)) = (l.length + 1 != bs.length) := by
    by_cases h : l.length + 1 = bs.length
    · rw [show bs.length - 1 = l.length by omega]; simp [h]
    · have h2 : ¬ ((l.length : Int) = ((bs.length - 1 : Nat) : Int)) := by omega
      rw [bne_iff_ne.2 h, bne_iff_ne.2 h2]
  rw [e]
  by_cases h : l.length + 1 = bs.length
  case neg =>
    rw [show (l.length + 1 != bs.length) = true from bne_iff_ne.2 h]; rfl
  rw [show (l.length + 1 != bs.length) = false by simp [h]]
  simp only [cond_false, decide_eq_true b2, decide_eq_true h, cond_true]
  by_cases hs : F.segF l bs = 0 <;> simp [hs]

end M
end Go.Proofs.YtlnflhmepnbcmaaDoor
