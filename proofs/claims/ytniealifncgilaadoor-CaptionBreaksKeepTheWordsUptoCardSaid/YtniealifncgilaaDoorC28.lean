/- What is proved here: Drift of the reference (no statement of the seat). -/
import Derived.Test.YtniealifncgilaaDoorC27
namespace Go.Proofs.YtniealifncgilaaDoor
open Go Go.RowKit
set_option linter.unusedVariables false
set_option linter.unusedSimpArgs false

/-- The number of the first of those that begin last. -/
def F.mxI (a : List Cap) : List Cap → Nat → Nat → Nat
  | [], _, m => m
  | c :: l, k, m => F.mxI a l (k + 1) (bif F.lt (a.getD m default).fr c.fr then k else m)

theorem F.chkP_sorted : ∀ {l : List Cap} {p : Option Cap}, F.chkP F.capF p l = 0 → l.Pairwise (fun x y => x.fr ≤ y.fr) ∧ ∀ q, p = some q → ∀ x ∈ l, q.fr ≤ x.fr
  | [], _, _ => ⟨List.Pairwise.nil, fun _ _ _ h => by cases h⟩
  | c :: l, p, h => by
    rw [F.chkP] at h
    by_cases h1 : F.capF p c = 0
    · rw [M.bne0 h1, cond_false] at h
      obtain ⟨h2, h3⟩ := F.chkP_sorted h
      refine ⟨List.Pairwise.cons (fun x hx => h3 c rfl x hx) h2, fun q hq x hx => ?_⟩
      have hqc : q.fr ≤ c.fr := by
        subst hq
        have := (F.capF_ok h1).2.2.2.1
        unfold F.befP F.before F.lt at this
        simp only [Bool.or_eq_false_iff, decide_eq_false_iff_not] at this
        omega
      rcases List.mem_cons.1 hx with rfl | hx
      · exact hqc
      · have := h3 c rfl x hx; omega
    · rw [M.bne1 h1, cond_true] at h
      exact absurd h h1

theorem F.chk_sorted {l : List Cap} (h : F.chkC l = 0) : l.Pairwise (fun x y => x.fr ≤ y.fr) := by
  have h1 := F.chk_len h
  unfold F.chkC at h
  rw [decide_eq_false (by omega)] at h
  exact (F.chkP_sorted h).1

/-- It is the first of those that begin last. -/
theorem F.mxI_ok (a : List Cap) : ∀ (n k m : Nat), a.length - k = n → k ≤ a.length → m < a.length → (∀ i, i < k → (a.getD i default).fr ≤ (a.getD m default).fr) → (∀ i, i < m → (a.getD i default).fr < (a.getD m default).fr) →
    F.mxI a (a.drop k) k m < a.length ∧ (∀ i, i < a.length → (a.getD i default).fr ≤ (a.getD (F.mxI a (a.drop k) k m) default).fr) ∧ (∀ i, i < F.mxI a (a.drop k) k m → (a.getD i default).fr < (a.getD (F.mxI a (a.drop k) k m) default).fr) := by
  intro n
  induction n with
  | zero =>
    intro k m hn hk hm h1 h2
    have : k = a.length := by omega
    subst this
    rw [List.drop_length]
    exact ⟨hm, h1, h2⟩
  | succ n ih =>
    intro k m hn hk hm h1 h2
    have hlt : k < a.length := by omega
    have hy : a[k]? = some a[k] := List.getElem?_eq_getElem hlt
    have hg : a.getD k default = a[k] := M.getD_at hy
    rw [M.drop_at hy, F.mxI]
    cases hb : F.lt (a.getD m default).fr a[k].fr
    · have hb : ¬ (a.getD m default).fr < a[k].fr := of_decide_eq_false hb
      refine ih (k + 1) m (by omega) hlt hm (fun i hi => ?_) h2
      by_cases hik : i < k
      · exact h1 i hik
      · have : i = k := by omega
        subst this
        rw [hg]; omega
    · have hb : (a.getD m default).fr < a[k].fr := of_decide_eq_true hb
      refine ih (k + 1) k (by omega) hlt hlt (fun i hi => ?_) (fun i hi => ?_)
      · by_cases hik : i < k
        · have := h1 i hik; rw [hg]; omega
        · have : i = k := by omega
          subst this
          exact Int.le_refl _
      · have := h1 i hi; rw [hg]; omega

theorem F.findI_first {α : Type} {p : α → Bool} : ∀ {l : List α} {k r : Nat} {y : α}, l[r]? = some y → p y = true → (∀ i x, i < r → l[i]? = some x → p x = false) → F.findI p k l = some (k + r)
  | [], _, _, _, h, _, _ => by simp at h
  | z :: l, k, 0, y, h, hp, _ => by
    simp at h
    subst h
    rw [F.findI, hp]
    rfl
  | z :: l, k, r + 1, y, h, hp, hn => by
    have hz := hn 0 z (by omega) rfl
    rw [F.findI, hz, cond_false, F.findI_first (l := l) (k := k + 1) (r := r) (by simpa using h) hp (fun i x hi hx => hn (i + 1) x (by omega) (by simpa using hx))]
    congr 1; omega

theorem F.mx_drK {a : List Cap} (h : F.chkC a = 0) (hne : a.isEmpty = false) : F.mxI a a 0 0 = F.drK a := by
  have hn : a ≠ [] := by intro e; rw [e] at hne; cases hne
  have hl : 0 < a.length := List.length_pos_iff.2 hn
  obtain ⟨h1, h2, h3⟩ := F.mxI_ok a a.length 0 0 (by omega) (Nat.zero_le _) hl (fun i hi => by omega) (fun i hi => by omega)
  rw [List.drop_zero] at h1 h2 h3
  generalize F.mxI a a 0 0 = r at h1 h2 h3
  have hs := F.chk_sorted h
  have hr : a[r]? = some a[r] := List.getElem?_eq_getElem h1
  have hz : a[a.length - 1]? = some a[a.length - 1] := List.getElem?_eq_getElem (by omega)
  have e1 : F.drL a = a[a.length - 1].fr := by unfold F.drL; rw [M.getD_at hz]
  have e2 : a[r].fr = a[a.length - 1].fr := by
    have q1 := h2 (a.length - 1) (by omega)
    rw [M.getD_at hz, M.getD_at hr] at q1
    by_cases hrl : r < a.length - 1
    · have := List.pairwise_iff_getElem.1 hs r (a.length - 1) h1 (by omega) hrl
      omega
    · have : r = a.length - 1 := by omega
      subst this
      rfl
  have hf : F.findI (fun c => F.frIs (F.drL a) c) 0 a = some (0 + r) := by
    refine F.findI_first hr (by unfold F.frIs; rw [e1, e2]; simp) fun i x hi hx => ?_
    have := h3 i hi
    rw [M.getD_at hx, M.getD_at hr] at this
    unfold F.frIs
    rw [e1, ← e2]
    simp; omega
  unfold F.drK
  rw [hf]
  show r = 0 + r
  omega

theorem F.fin_len {l x : List Cap} (h : (F.fin l).2 = 0) : (F.fin l).1 = l := by
  unfold F.fin at h ⊢
  cases hh : F.chkC l != 0
  · rfl
  · rw [hh] at h
    have h : F.chkC l = 0 := h
    rw [h] at hh; cases hh

theorem F.stretch_len {l : List Cap} {u v : Mch} (h : (F.stretch l u v).2 = 0) : (F.stretch l u v).1.length = l.length ∧ l.length ≤ 500 := by
  unfold F.stretch at h ⊢
  cases h0 : F.chkC l != 0
  · have h0' : F.chkC l = 0 := by simpa using h0
    simp only [h0, cond_false] at h ⊢
    cases h1 : F.mTm u v
    · simp only [h1, cond_false] at h ⊢
      cases h2 : F.le v.was u.was || F.le v.now u.now
      · simp only [h2, cond_false] at h ⊢
        rw [F.fin_len (x := []) h, List.length_map]
        exact ⟨rfl, F.chk_len h0'⟩
      · simp only [h2, cond_true] at h
        cases h
    · simp only [h1, cond_true] at h
      cases h
  · simp only [h0, cond_true] at h
    rw [h] at h0; cases h0

namespace M

def stRDr1 (a : List Cap) (b : List Cap) (m : Nat) (k : Nat) : St := ⟨[(51, vI k), (50, vI a.length), (11, vI m), (8, .ptr 8 0 0), (5, .ptr 5 0 0), (4, .ptr 4 0 0), (1, .sl (b.map eCap)), (0, .sl (a.map eCap))], [(8, ⟨true, 0, 0, [[vI 0, vI 0]]⟩), (5, ⟨true, 0, 0, [[vI 0, vI 0]]⟩), (4, ⟨true, 0, 0, [[vI 0, vI 0]]⟩)]⟩

def stRDr11 (a : (List Cap) × (List Cap) × Nat × Nat) : St := stRDr1 a.1 a.2.1 a.2.2.1 a.2.2.2

theorem stRDr1_inj (a a' : (List Cap) × (List Cap) × Nat × Nat) (h : stRDr11 a = stRDr11 a') : a = a' := by
  simp only [stRDr11, stRDr1] at h
  try simp [strs_inj, ints_inj, bools_inj, eCaps_inj, eCap_iff, eL_eCaps_inj, eMchs_inj, eMch_iff, eWrds_inj, eWrd_iff, eFnds_inj, eFnd_iff, eRatios_inj, eRatio_iff, eWays_inj, eWay_iff] at h
  grind

theorem unstRDr1 (a : List Cap) (b : List Cap) (m : Nat) (k : Nat) : unenc stRDr11 (St.mk [(51, (vI (↑k : Int))), (50, (vI (↑(List.length a) : Int))), (11, (vI (↑m : Int))), (8, .ptr 8 0 0), (5, .ptr 5 0 0), (4, .ptr 4 0 0), (1, AV.sl (List.map eCap b)),
  (0, AV.sl (List.map eCap a))] [(8, Blk.mk true 0 0 [[(vI (0 : Int)), (vI (0 : Int))]]), (5, Blk.mk true 0 0 [[(vI (0 : Int)), (vI (0 : Int))]]), (4, Blk.mk true 0 0 [[(vI
  (0 : Int)), (vI (0 : Int))]])]) = some (a, b, m, k) := unenc_of stRDr1_inj (a, b, m, k) rfl

theorem unstRDr10 (a : List Cap) (b : List Cap)  : unenc stRDr11 (St.mk [(51, (vI (0 : Int))), (50, (vI (↑(List.length a) : Int))), (11, (vI (0 : Int))), (8, .ptr 8 0 0), (5, .ptr 5 0 0), (4, .ptr 4 0 0), (1, AV.sl (List.map eCap b)),
  (0, AV.sl (List.map eCap a))] [(8, Blk.mk true 0 0 [[(vI (0 : Int)), (vI (0 : Int))]]), (5, Blk.mk true 0 0 [[(vI (0 : Int)), (vI (0 : Int))]]), (4, Blk.mk true 0 0 [[(vI
  (0 : Int)), (vI (0 : Int))]])]) = some (a, b, 0, 0) := unenc_of stRDr1_inj (a, b, 0, 0) rfl

def outRDr1 (a : List Cap) (b : List Cap) (m : Nat) (k : Nat) : T (Ex × St) := .ifB (F.eqcs true ((a.zip b).drop k)) (.ret (.exit 0, ⟨[(11, vI (F.mxI a (a.drop k) k m : Nat)), (8, .ptr 8 0 0), (5, .ptr 5 0 0), (4, .ptr 4 0 0), (1, .sl (b.map eCap)), (0, .sl (a.map eCap))], [(8, ⟨true, 0, 0, [[vI 0, vI 0]]⟩), (5, ⟨true, 0, 0, [[vI 0, vI 0]]⟩), (4, ⟨true, 0, 0, [[vI 0, vI 0]]⟩)]⟩))
      (.ret (.ret, ⟨[(7, vI 3), (6, vB false), (5, .ptr 5 0 0), (4, .ptr 4 0 0)], [(5, ⟨true, 0, 0, [[vI 0, vI 0]]⟩), (4, ⟨true, 0, 0, [[vI 0, vI 0]]⟩)]⟩))

noncomputable def prlRDr1 (a : List Cap) (b : List Cap) (m : Nat) (k : Nat) : Bool := decide (a.length ≤ 500) && decide (k ≤ a.length) && decide (a.length = b.length) && decide (m < a.length)

noncomputable def lpRDr1 : Nat × (St → T (Ex × St)) := (14, lpo [51, 50, 11, 8, 5, 4, 1, 0] [8, 5, 4] stRDr11 (fun a => prlRDr1 a.1 a.2.1 a.2.2.1 a.2.2.2) fun a => outRDr1 a.1 a.2.1 a.2.2.1 a.2.2.2)

def stRDr2 (l : List Cap) (b : List Cap) (u : Mch) (v : Mch) (k : Nat) : St := ⟨[(114, vI k), (113, vI l.length), (15, .sl (l.map eCap)), (14, .ptr 14 0 0), (13, .ptr 13 0 0), (8, .ptr 8 0 0), (5, .ptr 5 0 0), (4, .ptr 4 0 0), (1, .sl (b.map eCap))], [(14, ⟨true, 0, 0, [eMch v]⟩), (13, ⟨true, 0, 0, [eMch u]⟩), (8, ⟨true, 0, 0, [[vI 0, vI 0]]⟩), (5, ⟨true, 0, 0, [[vI 0, vI 0]]⟩), (4, ⟨true, 0, 0, [[vI 0, vI 0]]⟩)]⟩

def stRDr21 (a : (List Cap) × (List Cap) × Mch × Mch × Nat) : St := stRDr2 a.1 a.2.1 a.2.2.1 a.2.2.2.1 a.2.2.2.2

theorem stRDr2_inj (a a' : (List Cap) × (List Cap) × Mch × Mch × Nat) (h : stRDr21 a = stRDr21 a') : a = a' := by
  simp only [stRDr21, stRDr2] at h
  try simp [strs_inj, ints_inj, bools_inj, eCaps_inj, eCap_iff, eL_eCaps_inj, eMchs_inj, eMch_iff, eWrds_inj, eWrd_iff, eFnds_inj, eFnd_iff, eRatios_inj, eRatio_iff, eWays_inj, eWay_iff] at h
  grind

theorem unstRDr2 (l : List Cap) (b : List Cap) (u : Mch) (v : Mch) (k : Nat) : unenc stRDr21 (St.mk [(114, (vI (↑k : Int))), (113, (vI (↑(List.length l) : Int))), (15, AV.sl (List.map eCap l)), (14, .ptr 14 0 0), (13, .ptr 13 0 0), (8, .ptr 8 0 0), (5, .ptr 5 0 0),
  (4, .ptr 4 0 0), (1, AV.sl (List.map eCap b))] [(14, Blk.mk true 0 0 [[(vI v.was), (vI v.now)]]), (13, Blk.mk true 0 0 [[(vI u.was), (vI u.now)]]), (8, Blk.mk true 0 0
  [[(vI (0 : Int)), (vI (0 : Int))]]), (5, Blk.mk true 0 0 [[(vI (0 : Int)), (vI (0 : Int))]]), (4, Blk.mk true 0 0 [[(vI (0 : Int)), (vI (0 : Int))]])]) = some (l, b, u, v, k) := unenc_of stRDr2_inj (l, b, u, v, k) rfl

theorem unstRDr20 (l : List Cap) (b : List Cap) (u : Mch) (v : Mch)  : unenc stRDr21 (St.mk [(114, (vI (0 : Int))), (113, (vI (↑(List.length l) : Int))), (15, AV.sl (List.map eCap l)), (14, .ptr 14 0 0), (13, .ptr 13 0 0), (8, .ptr 8 0 0), (5, .ptr 5 0 0),
  (4, .ptr 4 0 0), (1, AV.sl (List.map eCap b))] [(14, Blk.mk true 0 0 [[(vI v.was), (vI v.now)]]), (13, Blk.mk true 0 0 [[(vI u.was), (vI u.now)]]), (8, Blk.mk true 0 0
  [[(vI (0 : Int)), (vI (0 : Int))]]), (5, Blk.mk true 0 0 [[(vI (0 : Int)), (vI (0 : Int))]]), (4, Blk.mk true 0 0 [[(vI (0 : Int)), (vI (0 : Int))]])]) = some (l, b, u, v, 0) := unenc_of stRDr2_inj (l, b, u, v, 0) rfl

def outRDr2 (l : List Cap) (b : List Cap) (u : Mch) (v : Mch) (k : Nat) : T (Ex × St) := .ifB (F.eqcs false ((l.zip b).drop k)) (.ret (.exit 2, ⟨[(14, .ptr 14 0 0), (13, .ptr 13 0 0), (5, .ptr 5 0 0), (4, .ptr 4 0 0)], [(14, ⟨true, 0, 0, [eMch v]⟩), (13, ⟨true, 0, 0, [eMch u]⟩), (5, ⟨true, 0, 0, [[vI 0, vI 0]]⟩), (4, ⟨true, 0, 0, [[vI 0, vI 0]]⟩)]⟩))
      (.ret (.ret, ⟨[(7, vI 0), (6, vB false), (5, .ptr 5 0 0), (4, .ptr 4 0 0)], [(5, ⟨true, 0, 0, [[vI 0, vI 0]]⟩), (4, ⟨true, 0, 0, [[vI 0, vI 0]]⟩)]⟩))

noncomputable def prlRDr2 (l : List Cap) (b : List Cap) (u : Mch) (v : Mch) (k : Nat) : Bool := decide (l.length ≤ 500) && decide (k ≤ l.length) && decide (l.length = b.length)

noncomputable def lpRDr2 : Nat × (St → T (Ex × St)) := (26, lpo [114, 113, 15, 14, 13, 8, 5, 4, 1] [14, 13, 8, 5, 4] stRDr21 (fun a => prlRDr2 a.1 a.2.1 a.2.2.1 a.2.2.2.1 a.2.2.2.2) fun a => outRDr2 a.1 a.2.1 a.2.2.1 a.2.2.2.1 a.2.2.2.2)

noncomputable def enRDr : Env := envH ty noG lks [oRhC, oEqS, oRSt] [] [] [lpRDr1, lpRDr2]

theorem enRDr_ok : EnvOK Tryd.prog enRDr := by
  refine envH_ok lks_ok ty_ok ?_ ?_
  · simp only [List.forall_mem_cons]
    exact ⟨okRhC, okEqS, okRSt, by simp⟩
  · simp

theorem evRDr1L (a : List Cap) (b : List Cap) (m : Nat) (k : Nat) : ((exec enRDr (loopN Tryd.f39 0) (stRDr1 a b m k)).bind (lessX ([51, 50, 11, 8, 5, 4, 1, 0], [8, 5, 4]) ([11, 8, 5, 4, 1, 0], [8, 5, 4]) ([7, 6, 5, 4], [5, 4]))).val =
  bif decide ((↑k : Int) < (↑(List.length a) : Int)) then Option.bind (unenc (List.map eCap) (List.map eCap a)) fun (z : List Cap) => bif decide (k < List.length z) then
  Option.bind (unenc (List.map eCap) (List.map eCap b)) fun (z_1 : List Cap) => bif decide (k < List.length z_1) then Option.bind (unenc encEqS [AV.sl (List.map eStr
  (List.getD z k (Cap.mk (0 : Int) (0 : Int) [] (0 : Int) false false)).lines), AV.sl (List.map eStr (List.getD z_1 k (Cap.mk (0 : Int) (0 : Int) [] (0 : Int) false
  false)).lines)]) fun (z : List ByteArray × List ByteArray) => bif !F.sameSL z.fst z.snd then some (Ex.ret, St.mk [(7, (vI (3 : Int))), (6, (vB false)), (5, .ptr 5 0 0),
  (4, .ptr 4 0 0)] [(5, Blk.mk true 0 0 [[(vI (0 : Int)), (vI (0 : Int))]]), (4, Blk.mk true 0 0 [[(vI (0 : Int)), (vI (0 : Int))]])]) else Option.bind (unenc (List.map
  eCap) (List.map eCap a)) fun (z : List Cap) => bif decide (k < List.length z) then Option.bind (unenc (List.map eCap) (List.map eCap a)) fun (z_2 : List Cap) => bif decide
  (m < List.length z_2) then bif decide ((List.getD z_2 m (Cap.mk (0 : Int) (0 : Int) [] (0 : Int) false false)).fr < (List.getD z k (Cap.mk (0 : Int) (0 : Int) [] (0 : Int)
  false false)).fr) then some (Ex.normal, St.mk [(51, (vI (IntKind.wrap IntKind.i64 ((↑k : Int) + (1 : Int))))), (50, (vI (↑(List.length a) : Int))), (11, (vI (↑k : Int))),
  (8, .ptr 8 0 0), (5, .ptr 5 0 0), (4, .ptr 4 0 0), (1, AV.sl (List.map eCap b)), (0, AV.sl (List.map eCap a))] [(8, Blk.mk true 0 0 [[(vI (0 : Int)), (vI (0 : Int))]]),
  (5, Blk.mk true 0 0 [[(vI (0 : Int)), (vI (0 : Int))]]), (4, Blk.mk true 0 0 [[(vI (0 : Int)), (vI (0 : Int))]])]) else some (Ex.normal, St.mk [(51, (vI (IntKind.wrap
  IntKind.i64 ((↑k : Int) + (1 : Int))))), (50, (vI (↑(List.length a) : Int))), (11, (vI (↑m : Int))), (8, .ptr 8 0 0), (5, .ptr 5 0 0), (4, .ptr 4 0 0), (1, AV.sl (List.map
  eCap b)), (0, AV.sl (List.map eCap a))] [(8, Blk.mk true 0 0 [[(vI (0 : Int)), (vI (0 : Int))]]), (5, Blk.mk true 0 0 [[(vI (0 : Int)), (vI (0 : Int))]]), (4, Blk.mk true
  0 0 [[(vI (0 : Int)), (vI (0 : Int))]])]) else none else none else none else none else some (Ex.exit (0 : Nat), St.mk [(11, (vI (↑m : Int))), (8, .ptr 8 0 0), (5, .ptr 5 0
  0), (4, .ptr 4 0 0), (1, AV.sl (List.map eCap b)), (0, AV.sl (List.map eCap a))] [(8, Blk.mk true 0 0 [[(vI (0 : Int)), (vI (0 : Int))]]), (5, Blk.mk true 0 0 [[(vI (0 :
  Int)), (vI (0 : Int))]]), (4, Blk.mk true 0 0 [[(vI (0 : Int)), (vI (0 : Int))]])]) := (execR_bind _ _ _).symm.trans (by kernel_rfl)

theorem lpRDr1_ok (a : List Cap) (b : List Cap) (m : Nat) (k : Nat) (hp : prlRDr1 a b m k = true) : ∀ ex s', (outRDr1 a b m k).val = some (ex, s') → LoopOK enRDr (loopN Tryd.f39 0) (stRDr1 a b m k) ex s' := by
  simp only [prlRDr1, Bool.and_eq_true, decide_eq_true_eq] at hp
  obtain ⟨⟨⟨h1, h2⟩, h3⟩, h4⟩ := hp
  have hz : (a.zip b).length = a.length := by rw [List.length_zip]; omega
  refine loop_gen (st := fun x : Nat × Nat => stRDr1 a b x.1 x.2) (out := fun x => outRDr1 a b x.1 x.2) (I := fun x => x.2 ≤ a.length ∧ x.1 < a.length) (n := ([51, 50, 11, 8, 5, 4, 1, 0], [8, 5, 4])) (e := ([11, 8, 5, 4, 1, 0], [8, 5, 4])) (r := ([7, 6, 5, 4], [5, 4])) (fun x => a.length - x.2) ?_ (m, k) ⟨h2, h4⟩
  rintro ⟨m, k⟩ ⟨h2, h4⟩
  simp only at h2 h4
  by_cases hlt : k < a.length
  · have hy : a[k]? = some a[k] := List.getElem?_eq_getElem hlt
    have hw : b[k]? = some b[k] := List.getElem?_eq_getElem (by omega)
    generalize a[k] = y at hy
    generalize b[k] = w at hw
    have hlb := lt_at hw
    have hm : a[m]? = some a[m] := List.getElem?_eq_getElem h4
    generalize a[m] = q at hm
    have hzy : (a.zip b)[k]? = some (y, w) := by rw [List.getElem?_zip_eq_some]; exact ⟨hy, hw⟩
    have hd := drop_at hzy
    have hN := next_at hlt (by omega : a.length ≤ 9223372036854775807)
    cases hs : F.sameSL y.lines w.lines
    · refine Or.inl ⟨(.ret, ⟨[(7, vI 3), (6, vB false), (5, .ptr 5 0 0), (4, .ptr 4 0 0)], [(5, ⟨true, 0, 0, [[vI 0, vI 0]]⟩), (4, ⟨true, 0, 0, [[vI 0, vI 0]]⟩)]⟩), ?h1, ?h2, ?h3⟩
      case h2 =>
        have e : F.eqcs true ((a.zip b).drop k) = false := by rw [hd]; simp only [F.eqcs, List.all_cons, F.eqcP, F.lnP, hs, cond_true, Bool.false_and]
        simp only [outRDr1, e]
        rfl
      case h3 => exact ⟨by simp, rfl⟩
      case h1 =>
        rw [evRDr1L]
        simp only [unRhC, unEqS, unRSt, unRStw, preRhC1, preEqS1, preRSt1, unstRDr1, unstRDr2, unstRDr10, unstRDr20, prlRDr1, prlRDr2, outRDr1, outRDr2, etaCap, etaMch, etaWrd, etaFnd, etaRatio, etaWay, Option.bind_some, List.length_map, unStrs, unInts, unBools, unCaps, uneL_eCaps, unMchs, unWrds, unFnds, unRatios, unWays, F.lt, F.le, cond_true, cond_false, Bool.and_true, Bool.true_and, cast_lt hlt, decide_eq_true hlt, decide_eq_true hlb, getD_at hy, getD_at hw, hs, Bool.not_false]
    · right
      refine ⟨(bif F.lt (a.getD m default).fr y.fr then k else m, k + 1), ?_, rfl, ⟨hlt, ?_⟩, by simp only; omega, ?_⟩
      · have hg : a.getD m default = q := getD_at hm
        rw [hg]
        rw [evRDr1L]
        simp only [unRhC, unEqS, unRSt, unRStw, preRhC1, preEqS1, preRSt1, unstRDr1, unstRDr2, unstRDr10, unstRDr20, prlRDr1, prlRDr2, outRDr1, outRDr2, etaCap, etaMch, etaWrd, etaFnd, etaRatio, etaWay, Option.bind_some, List.length_map, unStrs, unInts, unBools, unCaps, uneL_eCaps, unMchs, unWrds, unFnds, unRatios, unWays, F.lt, F.le, cond_true, cond_false, Bool.and_true, Bool.true_and, cast_lt hlt, decide_eq_true hlt, decide_eq_true hlb, getD_at hy, getD_at hw, hs, Bool.not_true, idx_nat, decide_eq_true h4, getD_at hm, hN]
        cases decide (q.fr < y.fr) <;> rfl
      · cases F.lt (a.getD m default).fr y.fr
        · exact h4
        · exact hlt
      · have e : F.eqcs true ((a.zip b).drop k) = F.eqcs true ((a.zip b).drop (k + 1)) := by rw [hd]; simp only [F.eqcs, List.all_cons, F.eqcP, F.lnP, hs, cond_true, Bool.true_and]
        simp only [outRDr1, e, drop_at hy, F.mxI]
  · have : k = a.length := by omega
    subst this
    refine Or.inl ⟨(.exit 0, ⟨[(11, vI (m : Nat)), (8, .ptr 8 0 0), (5, .ptr 5 0 0), (4, .ptr 4 0 0), (1, .sl (b.map eCap)), (0, .sl (a.map eCap))], [(8, ⟨true, 0, 0, [[vI 0, vI 0]]⟩), (5, ⟨true, 0, 0, [[vI 0, vI 0]]⟩), (4, ⟨true, 0, 0, [[vI 0, vI 0]]⟩)]⟩), ?g1, ?g2, ?g3⟩
    case g2 =>
      have e : F.eqcs true ((a.zip b).drop a.length) = true := by rw [← hz, List.drop_length]; rfl
      simp only [outRDr1, e, List.drop_length, F.mxI]
      rfl
    case g3 => exact ⟨by simp, rfl⟩
    case g1 =>
      rw [evRDr1L]
      simp only [Int.lt_irrefl, decide_false, cond_false]

theorem evRDr2L (l : List Cap) (b : List Cap) (u : Mch) (v : Mch) (k : Nat) : ((exec enRDr (loopN Tryd.f39 1) (stRDr2 l b u v k)).bind (lessX ([114, 113, 15, 14, 13, 8, 5, 4, 1], [14, 13, 8, 5, 4]) ([14, 13, 5, 4], [14, 13, 5, 4]) ([7, 6, 5, 4], [5, 4]))).val =
  bif decide ((↑k : Int) < (↑(List.length l) : Int)) then Option.bind (unenc (List.map eCap) (List.map eCap l)) fun (z : List Cap) => bif decide (k < List.length z) then
  Option.bind (unenc (List.map eCap) (List.map eCap b)) fun (z_1 : List Cap) => bif decide (k < List.length z_1) then bif !(List.getD z k (Cap.mk (0 : Int) (0 : Int) [] (0 :
  Int) false false)).fr != (List.getD z_1 k (Cap.mk (0 : Int) (0 : Int) [] (0 : Int) false false)).fr then Option.bind (unenc (List.map eCap) (List.map eCap l)) fun (z :
  List Cap) => bif decide (k < List.length z) then Option.bind (unenc (List.map eCap) (List.map eCap b)) fun (z_2 : List Cap) => bif decide (k < List.length z_2) then bif
  (List.getD z k (Cap.mk (0 : Int) (0 : Int) [] (0 : Int) false false)).to != (List.getD z_2 k (Cap.mk (0 : Int) (0 : Int) [] (0 : Int) false false)).to then some (Ex.ret,
  St.mk [(7, (vI (0 : Int))), (6, (vB false)), (5, .ptr 5 0 0), (4, .ptr 4 0 0)] [(5, Blk.mk true 0 0 [[(vI (0 : Int)), (vI (0 : Int))]]), (4, Blk.mk true 0 0 [[(vI (0 :
  Int)), (vI (0 : Int))]])]) else some (Ex.normal, St.mk [(114, (vI (IntKind.wrap IntKind.i64 ((↑k : Int) + (1 : Int))))), (113, (vI (↑(List.length l) : Int))), (15, AV.sl
  (List.map eCap l)), (14, .ptr 14 0 0), (13, .ptr 13 0 0), (8, .ptr 8 0 0), (5, .ptr 5 0 0), (4, .ptr 4 0 0), (1, AV.sl (List.map eCap b))] [(14, Blk.mk true 0 0 [[(vI
  v.was), (vI v.now)]]), (13, Blk.mk true 0 0 [[(vI u.was), (vI u.now)]]), (8, Blk.mk true 0 0 [[(vI (0 : Int)), (vI (0 : Int))]]), (5, Blk.mk true 0 0 [[(vI (0 : Int)), (vI
  (0 : Int))]]), (4, Blk.mk true 0 0 [[(vI (0 : Int)), (vI (0 : Int))]])]) else none else none else some (Ex.ret, St.mk [(7, (vI (0 : Int))), (6, (vB false)), (5, .ptr 5 0
  0), (4, .ptr 4 0 0)] [(5, Blk.mk true 0 0 [[(vI (0 : Int)), (vI (0 : Int))]]), (4, Blk.mk true 0 0 [[(vI (0 : Int)), (vI (0 : Int))]])]) else none else none else some
  (Ex.exit (2 : Nat), St.mk [(14, .ptr 14 0 0), (13, .ptr 13 0 0), (5, .ptr 5 0 0), (4, .ptr 4 0 0)] [(14, Blk.mk true 0 0 [[(vI v.was), (vI v.now)]]), (13, Blk.mk true 0 0
  [[(vI u.was), (vI u.now)]]), (5, Blk.mk true 0 0 [[(vI (0 : Int)), (vI (0 : Int))]]), (4, Blk.mk true 0 0 [[(vI (0 : Int)), (vI (0 : Int))]])]) := (execR_bind _ _ _).symm.trans (by kernel_rfl)

theorem lpRDr2_ok (l : List Cap) (b : List Cap) (u : Mch) (v : Mch) (k : Nat) (hp : prlRDr2 l b u v k = true) : ∀ ex s', (outRDr2 l b u v k).val = some (ex, s') → LoopOK enRDr (loopN Tryd.f39 1) (stRDr2 l b u v k) ex s' := by
  simp only [prlRDr2, Bool.and_eq_true, decide_eq_true_eq] at hp
  obtain ⟨⟨h1, h2⟩, h3⟩ := hp
  have hz : (l.zip b).length = l.length := by rw [List.length_zip]; omega
  refine loop_all (xs := l.zip b) (st := stRDr2 l b u v) (p := F.eqcP false) (n := ([114, 113, 15, 14, 13, 8, 5, 4, 1], [14, 13, 8, 5, 4])) (e := ([14, 13, 5, 4], [14, 13, 5, 4])) (r := ([7, 6, 5, 4], [5, 4])) ?_ ⟨by simp, rfl⟩ ⟨by simp, rfl⟩ (fun _ => rfl) ?_ k (by omega)
  · rw [hz]; rw [evRDr2L]; simp only [Int.lt_irrefl, decide_false, cond_false]; rfl
  · intro k y hy
    obtain ⟨ha, hb⟩ := F.zip_at hy
    have hlt := lt_at ha
    have hlt' := lt_at hb
    rw [evRDr2L]
    simp only [unRhC, unEqS, unRSt, unRStw, preRhC1, preEqS1, preRSt1, unstRDr1, unstRDr2, unstRDr10, unstRDr20, prlRDr1, prlRDr2, outRDr1, outRDr2, etaCap, etaMch, etaWrd, etaFnd, etaRatio, etaWay, Option.bind_some, List.length_map, unStrs, unInts, unBools, unCaps, uneL_eCaps, unMchs, unWrds, unFnds, unRatios, unWays, F.lt, F.le, cond_true, cond_false, Bool.and_true, Bool.true_and, cast_lt hlt, decide_eq_true hlt, decide_eq_true hlt', next_at hlt (by omega : l.length ≤ 9223372036854775807), getD_at ha, getD_at hb, stRDr2, F.eqcP, F.tmP, bne]
    cases (y.1.fr == y.2.fr) <;> cases (y.1.to == y.2.to) <;> rfl

theorem evRDr (a : List Cap) (b : List Cap) : (runF enRDr false Tryd.f39 [.sl (a.map eCap), .sl (b.map eCap)]).val =
  Option.bind (unenc encRhC [AV.sl (List.map eCap a)]) fun (z : List Cap) => bif F.smC z then bif F.chkC z != (0 : Int) then some (AV.tup [AV.agg [(vI (0 : Int)), (vI (0 :
  Int))], AV.agg [(vI (0 : Int)), (vI (0 : Int))], (vB false), (vI (F.chkC z))], []) else Option.bind (unenc encRhC [AV.sl (List.map eCap b)]) fun (z : List Cap) => bif
  F.smC z then bif F.chkC z != (0 : Int) then some (AV.tup [AV.agg [(vI (0 : Int)), (vI (0 : Int))], AV.agg [(vI (0 : Int)), (vI (0 : Int))], (vB false), (vI (F.chkC z))],
  []) else bif bif (↑(List.length (List.map eCap a)) : Int) == (0 : Int) then true else (↑(List.length (List.map eCap b)) : Int) == (0 : Int) then some (AV.tup [AV.agg [(vI
  (0 : Int)), (vI (0 : Int))], AV.agg [(vI (0 : Int)), (vI (0 : Int))], (vB false), (vI (9 : Int))], []) else bif (↑(List.length (List.map eCap a)) : Int) != (↑(List.length
  (List.map eCap b)) : Int) then some (AV.tup [AV.agg [(vI (0 : Int)), (vI (0 : Int))], AV.agg [(vI (0 : Int)), (vI (0 : Int))], (vB false), (vI (3 : Int))], []) else
  Option.bind (unenc stRDr11 (St.mk [(51, (vI (0 : Int))), (50, (vI (↑(List.length (List.map eCap a)) : Int))), (11, (vI (0 : Int))), (8, .ptr 8 0 0), (5, .ptr 5 0 0), (4,
  .ptr 4 0 0), (1, AV.sl (List.map eCap b)), (0, AV.sl (List.map eCap a))] [(8, Blk.mk true 0 0 [[(vI (0 : Int)), (vI (0 : Int))]]), (5, Blk.mk true 0 0 [[(vI (0 : Int)),
  (vI (0 : Int))]]), (4, Blk.mk true 0 0 [[(vI (0 : Int)), (vI (0 : Int))]])])) fun (z : List Cap × List Cap × Nat × Nat) => bif decide (List.length z.fst ≤ (500 : Nat)) &&
  decide (z.snd.snd.snd ≤ List.length z.fst) && decide (List.length z.fst = List.length z.snd.fst) && decide (z.snd.snd.fst < List.length z.fst) && true then bif F.eqcs true
  (List.drop z.snd.snd.snd (List.zip z.fst z.snd.fst)) then Option.bind (unenc (List.map eCap) (List.map eCap z.fst)) fun (z_1 : List Cap) => bif decide ((0 : Nat) <
  List.length z_1) then Option.bind (unenc (List.map eCap) (List.map eCap z.snd.fst)) fun (z_2 : List Cap) => bif decide ((0 : Nat) < List.length z_2) then Option.bind
  (unenc (List.map eCap) (List.map eCap z.fst)) fun (z_3 : List Cap) => bif decide (F.mxI z.fst (List.drop z.snd.snd.snd z.fst) z.snd.snd.snd z.snd.snd.fst < List.length
  z_3) then Option.bind (unenc (List.map eCap) (List.map eCap z.snd.fst)) fun (z_4 : List Cap) => bif decide (F.mxI z.fst (List.drop z.snd.snd.snd z.fst) z.snd.snd.snd
  z.snd.snd.fst < List.length z_4) then Option.bind (unenc encRSt [AV.sl (List.map eCap z.fst), AV.agg [(vI (List.getD z_1 (0 : Nat) (Cap.mk (0 : Int) (0 : Int) [] (0 : Int)
  false false)).fr), (vI (List.getD z_2 (0 : Nat) (Cap.mk (0 : Int) (0 : Int) [] (0 : Int) false false)).fr)], AV.agg [(vI (List.getD z_3 (F.mxI z.fst (List.drop
  z.snd.snd.snd z.fst) z.snd.snd.snd z.snd.snd.fst) (Cap.mk (0 : Int) (0 : Int) [] (0 : Int) false false)).fr), (vI (List.getD z_4 (F.mxI z.fst (List.drop z.snd.snd.snd
  z.fst) z.snd.snd.snd z.snd.snd.fst) (Cap.mk (0 : Int) (0 : Int) [] (0 : Int) false false)).fr)]]) fun (z_5 : List Cap × Mch × Mch) => bif F.smC z_5.fst then bif (F.stretch
  z_5.fst z_5.snd.fst z_5.snd.snd).snd != (0 : Int) then some (AV.tup [AV.agg [(vI (0 : Int)), (vI (0 : Int))], AV.agg [(vI (0 : Int)), (vI (0 : Int))], (vB false), (vI (0 :
  Int))], []) else Option.bind (unenc stRDr21 (St.mk [(114, (vI (0 : Int))), (113, (vI (↑(List.length (List.map eCap (F.stretch z_5.fst z_5.snd.fst z_5.snd.snd).fst)) :
  Int))), (15, AV.sl (List.map eCap (F.stretch z_5.fst z_5.snd.fst z_5.snd.snd).fst)), (14, .ptr 14 0 0), (13, .ptr 13 0 0), (8, .ptr 8 0 0), (5, .ptr 5 0 0), (4, .ptr 4 0
  0), (1, AV.sl (List.map eCap z.snd.fst))] [(14, Blk.mk true 0 0 [[(vI (List.getD z_3 (F.mxI z.fst (List.drop z.snd.snd.snd z.fst) z.snd.snd.snd z.snd.snd.fst) (Cap.mk (0 :
  Int) (0 : Int) [] (0 : Int) false false)).fr), (vI (List.getD z_4 (F.mxI z.fst (List.drop z.snd.snd.snd z.fst) z.snd.snd.snd z.snd.snd.fst) (Cap.mk (0 : Int) (0 : Int) []
  (0 : Int) false false)).fr)]]), (13, Blk.mk true 0 0 [[(vI (List.getD z_1 (0 : Nat) (Cap.mk (0 : Int) (0 : Int) [] (0 : Int) false false)).fr), (vI (List.getD z_2 (0 :
  Nat) (Cap.mk (0 : Int) (0 : Int) [] (0 : Int) false false)).fr)]]), (8, Blk.mk true 0 0 [[(vI (0 : Int)), (vI (0 : Int))]]), (5, Blk.mk true 0 0 [[(vI (0 : Int)), (vI (0 :
  Int))]]), (4, Blk.mk true 0 0 [[(vI (0 : Int)), (vI (0 : Int))]])])) fun (z : List Cap × List Cap × Mch × Mch × Nat) => bif decide (List.length z.fst ≤ (500 : Nat)) &&
  decide (z.snd.snd.snd.snd ≤ List.length z.fst) && decide (List.length z.fst = List.length z.snd.fst) && true then bif F.eqcs false (List.drop z.snd.snd.snd.snd (List.zip
  z.fst z.snd.fst)) then some (AV.tup [AV.agg [(vI z.snd.snd.fst.was), (vI z.snd.snd.fst.now)], AV.agg [(vI z.snd.snd.snd.fst.was), (vI z.snd.snd.snd.fst.now)], (vB true),
  (vI (0 : Int))], []) else some (AV.tup [AV.agg [(vI (0 : Int)), (vI (0 : Int))], AV.agg [(vI (0 : Int)), (vI (0 : Int))], (vB false), (vI (0 : Int))], []) else none else
  none else none else none else none else none else some (AV.tup [AV.agg [(vI (0 : Int)), (vI (0 : Int))], AV.agg [(vI (0 : Int)), (vI (0 : Int))], (vB false), (vI (3 :
  Int))], []) else none else none else none := (runFR_val).symm.trans (by kernel_rfl)

def encRDr1 (a : List Cap) (b : List Cap) : List AV := [.sl (a.map eCap), .sl (b.map eCap)]

def encRDr (a : (List Cap) × (List Cap)) : List AV := encRDr1 a.1 a.2

theorem encRDr_inj (a a' : (List Cap) × (List Cap)) (h : encRDr a = encRDr a') : a = a' := by
  simp only [encRDr, encRDr1] at h
  try simp [strs_inj, ints_inj, bools_inj, eCaps_inj, eCap_iff, eL_eCaps_inj, eMchs_inj, eMch_iff, eWrds_inj, eWrd_iff, eFnds_inj, eFnd_iff, eRatios_inj, eRatio_iff, eWays_inj, eWay_iff] at h
  grind

theorem unRDr (a : List Cap) (b : List Cap) : unenc encRDr ([AV.sl (List.map eCap a), AV.sl (List.map eCap b)]) = some (a, b) := unenc_of encRDr_inj (a, b) rfl

def resRDr1 (a : List Cap) (b : List Cap) : AV × Heap := (.tup [.agg (eMch (F.drift a b).1), .agg (eMch (F.drift a b).2.1), vB (F.drift a b).2.2.1, vI (F.drift a b).2.2.2], [])

def preRDr1 (a : List Cap) (b : List Cap) : Bool := F.smC a && F.smC b

noncomputable def oRDr : Orc := orc 39 false encRDr (fun a => preRDr1 a.1 a.2) fun a => resRDr1 a.1 a.2

theorem okRDr : OrcOK Tryd.prog noG oRDr := by
  refine mk_ok Tryd.f39 (keep := false) (by kernel_rfl) (by kernel_rfl) enRDr_ok mixed (two_loops (x0 := loopN Tryd.f39 0) (x1 := loopN Tryd.f39 1) (by kernel_rfl) (lpo_ok ?_) (lpo_ok ?_)) (by first | exact fun _ _ => ⟨rfl, rfl⟩ | (intro h; cases h)) ?_
  · rintro ⟨a, b, m, k⟩ hp
    exact lpRDr1_ok a b m k hp
  · rintro ⟨l, b, u, v, k⟩ hp
    exact lpRDr2_ok l b u v k hp
  rintro ⟨a, b⟩ hpre hok
  show (runF enRDr false _ (encRDr1 _ _)).val = some (resRDr1 _ _)
  unfold encRDr1 resRDr1
  rw [evRDr]
  simp only [preRDr1, Bool.and_eq_true] at hpre
  obtain ⟨p1, p2⟩ := hpre
  simp only [unRhC, preRhC1, p1, p2, Option.bind_some, cond_true, F.drift, List.length_map, isE_len]
  by_cases h0 : F.chkC a = 0
  case neg =>
    rw [bne1 h0]
    rfl
  simp only [bne0 h0, cond_false]
  by_cases h1 : F.chkC b = 0
  case neg =>
    rw [bne1 h1]; rfl
  simp only [bne0 h1, cond_false]
  cases e1 : a.isEmpty
  case true => rfl
  cases e2 : b.isEmpty
  case true => rfl
  simp only [Bool.or_self, cond_false, bne, F.len_eq]
  have hn : a ≠ [] := by intro e; rw [e] at e1; cases e1
  have hl : 0 < a.length := List.length_pos_iff.2 hn
  have hla : a.length ≤ 500 := F.chk_len h0
  cases e4 : decide (a.length = b.length)
  case false =>
    have : F.eqcL true a b = false := by unfold F.eqcL; rw [e4]; rfl
    rw [this]; rfl
  have hab := of_decide_eq_true e4
  have e3 : F.eqcL true a b = F.eqcs true (a.zip b) := by unfold F.eqcL; rw [e4]; rfl
  have u0 := unstRDr10 a b
  simp only [Bool.not_true, cond_false, u0, Option.bind_some, prlRDr1, outRDr1, decide_eq_true hla, Nat.zero_le, decide_true, e4, decide_eq_true hl, Bool.and_self, cond_true, List.drop_zero, e3]
  cases e5 : F.eqcs true (a.zip b)
  case false => rfl
  obtain ⟨k1, k2⟩ := F.dr_idx e1
  have hmx := F.mx_drK h0 e1
  simp only [cond_true, hmx, idx_nat, unCaps, Option.bind_some, decide_eq_true hl, decide_eq_true (show 0 < b.length by omega), decide_eq_true k2, decide_eq_true (show F.drK a < b.length by omega)]
  have hv : (a.getD (F.drK a) ⟨0, 0, [], 0, false, false⟩).fr = F.drL a := by
    have hf : ∃ r, F.findI (fun c => F.frIs (F.drL a) c) 0 a = some r := by
      cases hf : F.findI (fun c => F.frIs (F.drL a) c) 0 a with
      | some r => exact ⟨r, rfl⟩
      | none => rw [hf] at k1; cases k1
    obtain ⟨m1, m2, m3⟩ := F.mxI_ok a a.length 0 0 (by omega) (Nat.zero_le _) hl (fun i hi => by omega) (fun i hi => by omega)
    rw [List.drop_zero, hmx] at m1 m2 m3
    have hs := F.chk_sorted h0
    have q1 := m2 (a.length - 1) (by omega)
    have q2 : (a.getD (F.drK a) default).fr ≤ (a.getD (a.length - 1) default).fr := by
      have hr : a[F.drK a]? = some a[F.drK a] := List.getElem?_eq_getElem k2
      have hz : a[a.length - 1]? = some a[a.length - 1] := List.getElem?_eq_getElem (by omega)
      rw [getD_at hr, getD_at hz]
      by_cases hrl : F.drK a < a.length - 1
      · exact List.pairwise_iff_getElem.1 hs _ _ k2 (by omega) hrl
      · have : F.drK a = a.length - 1 := by omega
        simp only [this]; exact Int.le_refl _
    show (a.getD (F.drK a) default).fr = (a.getD (a.length - 1) default).fr
    omega
  rw [hv]
  have u : unenc encRSt [.sl (a.map eCap), .agg [vI (a.getD 0 ⟨0, 0, [], 0, false, false⟩).fr, vI (b.getD 0 ⟨0, 0, [], 0, false, false⟩).fr], .agg [vI (F.drL a), vI (b.getD (F.drK a) ⟨0, 0, [], 0, false, false⟩).fr]] = some (a, F.drU a b, F.drV a b) := unenc_of encRSt_inj (a, F.drU a b, F.drV a b) rfl
  simp only [u, Option.bind_some, preRSt1, p1, cond_true, F.drOut]
  by_cases h2 : (F.stretch a (F.drU a b) (F.drV a b)).2 = 0
  case neg =>
    have hb : ((F.stretch a (F.drU a b) (F.drV a b)).2 == 0) = false := by simpa using h2
    simp only [bne, hb, Bool.not_false, cond_true, Bool.true_or]
    rfl
  have hb : ((F.stretch a (F.drU a b) (F.drV a b)).2 == 0) = true := by simpa using h2
  obtain ⟨l1, l2⟩ := F.stretch_len h2
  have u2 := unstRDr20 (F.stretch a (F.drU a b) (F.drV a b)).1 b (F.drU a b) (F.drV a b)
  have d3 : decide ((F.stretch a (F.drU a b) (F.drV a b)).1.length = b.length) = true := decide_eq_true (by omega)
  have d4 : decide ((F.stretch a (F.drU a b) (F.drV a b)).1.length ≤ 500) = true := decide_eq_true (by omega)
  have e6 : F.eqcL false (F.stretch a (F.drU a b) (F.drV a b)).1 b = F.eqcs false ((F.stretch a (F.drU a b) (F.drV a b)).1.zip b) := by unfold F.eqcL; rw [d3]; rfl
  have b1 : vI (a.getD 0 ⟨0, 0, [], 0, false, false⟩).fr = vI (F.drU a b).was := rfl
  have b2 : vI (b.getD 0 ⟨0, 0, [], 0, false, false⟩).fr = vI (F.drU a b).now := rfl
  have b3 : vI (F.drL a) = vI (F.drV a b).was := rfl
  have b4 : vI (b.getD (F.drK a) ⟨0, 0, [], 0, false, false⟩).fr = vI (F.drV a b).now := rfl
  simp only [bne, hb, Bool.not_true, cond_false, b1, b2, b3, b4, u2, Option.bind_some, prlRDr2, outRDr2, d3, d4, Nat.zero_le, decide_true, Bool.and_self, cond_true, List.drop_zero, e6, Bool.false_or]
  cases F.eqcs false ((F.stretch a (F.drU a b) (F.drV a b)).1.zip b) <;> rfl

end M
end Go.Proofs.YtniealifncgilaaDoor
