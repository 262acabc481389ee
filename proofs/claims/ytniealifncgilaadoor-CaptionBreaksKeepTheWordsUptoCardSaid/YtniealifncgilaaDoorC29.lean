/- What is proved here: the laws of Drift. -/
import Derived.Test.YtniealifncgilaaDoorC28
namespace Go.Proofs.YtniealifncgilaaDoor
open Go Go.RowKit
set_option linter.unusedVariables false
set_option linter.unusedSimpArgs false

/-- All begin at once. -/
def F.bao (a : List Cap) : Bool := (a.getD 0 default).fr == F.drL a

theorem F.drOut_ok {a b : List Cap} (h : (F.drOut a b).2.2.1 = true) : (F.stretch a (F.drOut a b).1 (F.drOut a b).2.1).2 = 0 ∧ F.eqcL false (F.stretch a (F.drOut a b).1 (F.drOut a b).2.1).1 b = true := by
  unfold F.drOut at h ⊢
  cases h1 : (F.stretch a (F.drU a b) (F.drV a b)).2 != 0
  · cases h2 : F.eqcL false (F.stretch a (F.drU a b) (F.drV a b)).1 b
    · rw [h1, h2] at h; cases h
    · exact ⟨by simpa using h1, h2⟩
  · rw [h1] at h; cases h

theorem F.drift_ok {a b : List Cap} (h : (F.drift a b).2.2.1 = true) : (F.stretch a (F.drift a b).1 (F.drift a b).2.1).2 = 0 ∧ F.eqcL false (F.stretch a (F.drift a b).1 (F.drift a b).2.1).1 b = true := by
  unfold F.drift at h ⊢
  cases h1 : F.chkC a != 0
  · cases h2 : F.chkC b != 0
    · cases h3 : a.isEmpty || b.isEmpty
      · cases h4 : F.eqcL true a b
        · rw [h1, h2, h3, h4] at h; cases h
        · rw [h1, h2, h3, h4] at h
          exact F.drOut_ok h
      · rw [h1, h2, h3] at h; cases h
    · rw [h1, h2] at h; cases h
  · rw [h1] at h; cases h

theorem F.zip_map_all {α : Type} (p : α × α → Bool) (f : α → α) (h : ∀ x, p (x, f x) = true) : ∀ l : List α, (l.zip (l.map f)).all p = true
  | [] => rfl
  | x :: l => by simp only [List.map_cons, List.zip_cons_cons, List.all_cons, h, Bool.true_and]; exact F.zip_map_all p f h l

theorem F.eqcL_self (l : List Cap) : F.eqcL false l l = true := by
  unfold F.eqcL F.eqcs
  have := F.zip_map_all (F.eqcP false) (fun x => x) (fun x => by simp [F.eqcP, F.tmP]) l
  rw [List.map_id'] at this
  rw [this]
  simp

theorem F.findI_at {α : Type} {p : α → Bool} {d : α} : ∀ {l : List α} {k r : Nat}, F.findI p k l = some r → p (l.getD (r - k) d) = true
  | [], _, _, h => by cases h
  | y :: l, k, r, h => by
    have hb := F.findI_some h
    rw [F.findI] at h
    cases hp : p y
    · rw [hp, cond_false] at h
      have h2 := F.findI_some h
      have := F.findI_at (d := d) h
      have e : r - k = (r - (k + 1)) + 1 := by omega
      rw [e, List.getD_cons_succ]
      exact this
    · rw [hp] at h
      simp only [cond_true, Option.some.injEq] at h
      subst h
      rw [Nat.sub_self]
      exact hp

theorem F.drK_fr {a : List Cap} (h : a.isEmpty = false) : (a.getD (F.drK a) default).fr = F.drL a := by
  obtain ⟨h1, h2⟩ := F.dr_idx h
  cases hf : F.findI (fun c => F.frIs (F.drL a) c) 0 a with
  | none => rw [hf] at h1; cases h1
  | some r =>
    have := F.findI_at (d := default) hf
    have e : F.drK a = r := by unfold F.drK; rw [hf]; rfl
    rw [e]
    unfold F.frIs at this
    simpa using this

/-- A time that is moved as both ends are. -/
theorem F.strT_by {s e b t : Int} (h : s < e) : F.strT ⟨s, s + b⟩ ⟨e, e + b⟩ t = t + b := by
  unfold F.strT F.num F.den
  simp only
  have e1 : 2 * (t - s) * (e + b - (s + b)) + (e - s) = (e - s) + (2 * (e - s)) * (t - s) := by
    have : e + b - (s + b) = e - s := by omega
    rw [this, Int.mul_assoc, Int.mul_comm (t - s), ← Int.mul_assoc]
    omega
  rw [e1, Int.add_mul_ediv_left _ _ (by omega), Int.ediv_eq_zero_of_lt (by omega) (by omega)]
  omega

theorem F.shift_ok {l : List Cap} {b : Int} (h : (F.shift l b).2 = 0) : F.chkC l = 0 ∧ (-359999999 ≤ b ∧ b ≤ 359999999) ∧ F.chkC (l.map (F.shC b)) = 0 ∧ (F.shift l b).1 = l.map (F.shC b) := by
  unfold F.shift at h ⊢
  cases h0 : F.chkC l != 0
  · have h0' : F.chkC l = 0 := by simpa using h0
    simp only [h0, cond_false] at h ⊢
    cases h1 : F.out b (-359999999) 359999999
    · simp only [h1, cond_false] at h ⊢
      have hb : -359999999 ≤ b ∧ b ≤ 359999999 := by
        unfold F.out at h1
        simp at h1
        omega
      refine ⟨h0', hb, ?_, F.fin_len (x := []) h⟩
      unfold F.fin at h
      cases h2 : F.chkC (l.map (F.shC b)) != 0
      · simpa using h2
      · rw [h2] at h; exact h
    · simp only [h1, cond_true] at h
      cases h
  · simp only [h0, cond_true] at h
    rw [h] at h0; cases h0

theorem F.shC_eq {b : Int} {c : Cap} (hb : -359999999 ≤ b ∧ b ≤ 359999999) (hc : F.capOK c = true) : F.shC b c = ⟨c.fr + b, c.to + b, c.lines, c.row, c.bef, c.aft⟩ := by
  obtain ⟨f1, f2, _⟩ := F.capOK_iff hc
  unfold F.shC
  rw [M.wrap_id (by omega) (by omega), M.wrap_id (by omega) (by omega)]

theorem F.map_at {α β : Type} {f : α → β} {l : List α} {k : Nat} {d : α} {e : β} (h : k < l.length) : (l.map f).getD k e = f (l.getD k d) := by
  simp [List.getD, List.getElem?_eq_getElem h]

/-- What was only moved has a drift, if not all begin at once. -/
theorem F.drift_moved {a : List Cap} {b : Int} (hs : (F.shift a b).2 = 0) (hne : a.isEmpty = false) :
    (F.drift a (F.shift a b).1).2.2.2 = 0 ∧ (F.drift a (F.shift a b).1).2.2.1 = (!F.bao a) ∧ ((F.drift a (F.shift a b).1).2.2.1 = true →
      IntKind.i64.wrap ((F.drift a (F.shift a b).1).1.now - (F.drift a (F.shift a b).1).1.was) = b ∧ IntKind.i64.wrap ((F.drift a (F.shift a b).1).2.1.now - (F.drift a (F.shift a b).1).2.1.was) = b) := by
  obtain ⟨h1, hb, h2, h3⟩ := F.shift_ok hs
  rw [h3]
  have hn : a ≠ [] := by intro e; rw [e] at hne; cases hne
  have hl : 0 < a.length := List.length_pos_iff.2 hn
  have hme : (a.map (F.shC b)).isEmpty = false := by
    cases a with
    | nil => exact absurd rfl hn
    | cons x l => rfl
  have heq : F.eqcL true a (a.map (F.shC b)) = true := by
    unfold F.eqcL F.eqcs
    rw [F.zip_map_all (F.eqcP true) (F.shC b) (fun x => by simp only [F.eqcP, F.lnP, F.shC, cond_true, F.sameSL_refl])]
    simp
  obtain ⟨k1, k2⟩ := F.dr_idx hne
  have hfr := F.drK_fr hne
  have hy0 : a[0]? = some a[0] := List.getElem?_eq_getElem hl
  have hyK : a[F.drK a]? = some a[F.drK a] := List.getElem?_eq_getElem k2
  have g0 : a.getD 0 default = a[0] := M.getD_at hy0
  have gK : a.getD (F.drK a) default = a[F.drK a] := M.getD_at hyK
  have c0 := F.chk_cap h1 (List.mem_of_getElem? hy0)
  have cK := F.chk_cap h1 (List.mem_of_getElem? hyK)
  have eU : F.drU a (a.map (F.shC b)) = ⟨a[0].fr, a[0].fr + b⟩ := by
    unfold F.drU
    rw [F.map_at (d := default) hl, g0, F.shC_eq hb c0]
  have eV : F.drV a (a.map (F.shC b)) = ⟨F.drL a, F.drL a + b⟩ := by
    unfold F.drV
    rw [F.map_at (d := default) k2, gK, F.shC_eq hb cK, ← hfr, gK]
  have eD : F.drift a (a.map (F.shC b)) = F.drOut a (a.map (F.shC b)) := by
    unfold F.drift
    rw [M.bne0 h1, M.bne0 h2, hne, hme, heq]
    rfl
  -- the times are times
  have m0 : F.capOK (F.shC b a[0]) = true := F.chk_cap h2 (List.mem_map.2 ⟨_, List.mem_of_getElem? hy0, rfl⟩)
  have mK : F.capOK (F.shC b a[F.drK a]) = true := F.chk_cap h2 (List.mem_map.2 ⟨_, List.mem_of_getElem? hyK, rfl⟩)
  rw [F.shC_eq hb c0] at m0
  rw [F.shC_eq hb cK] at mK
  obtain ⟨p1, _⟩ := F.capOK_iff c0
  obtain ⟨p2, _⟩ := F.capOK_iff cK
  obtain ⟨p3, _⟩ := F.capOK_iff m0
  obtain ⟨p4, _⟩ := F.capOK_iff mK
  simp only at p3 p4
  have eL : F.drL a = a[F.drK a].fr := by rw [← hfr, gK]
  have nt : ∀ t : Int, 0 ≤ t ∧ t ≤ 359999999 → F.noTime t = false := fun t ht => by
    have := F.tm_iff.2 ht
    unfold F.tm at this
    simpa using this
  have hmT : F.mTm ⟨a[0].fr, a[0].fr + b⟩ ⟨F.drL a, F.drL a + b⟩ = false := by
    unfold F.mTm
    simp only
    rw [nt _ p1, nt _ p3, eL, nt _ p2, nt _ p4]
    rfl
  have hsort := F.chk_sorted h1
  have hle : a[0].fr ≤ F.drL a := by
    rw [eL]
    by_cases hk : 0 < F.drK a
    · exact List.pairwise_iff_getElem.1 hsort 0 (F.drK a) hl k2 hk
    · have : F.drK a = 0 := by omega
      simp only [this]; exact Int.le_refl _
  have hbao : F.bao a = (a[0].fr == F.drL a) := by unfold F.bao; rw [g0]
  rw [eD, hbao]
  by_cases hq : a[0].fr = F.drL a
  · have e1 : F.le (F.drL a) a[0].fr = true := decide_eq_true (by omega)
    have eS : F.stretch a ⟨a[0].fr, a[0].fr + b⟩ ⟨F.drL a, F.drL a + b⟩ = ([], 8) := by
      unfold F.stretch
      rw [M.bne0 h1, hmT]
      simp only [cond_false, e1, Bool.true_or, cond_true]
    have e2 : (a[0].fr == F.drL a) = true := by simpa using hq
    have eO : F.drOut a (a.map (F.shC b)) = (F.m0, F.m0, false, 0) := by
      unfold F.drOut
      rw [eU, eV, eS]
      rfl
    rw [eO, e2]
    exact ⟨rfl, rfl, fun h => by cases h⟩
  · have hlt : a[0].fr < F.drL a := by omega
    have e1 : F.le (F.drL a) a[0].fr = false := decide_eq_false (by omega)
    have e2 : F.le (F.drL a + b) (a[0].fr + b) = false := decide_eq_false (by omega)
    have e3 : (a[0].fr == F.drL a) = false := by simpa using hq
    have eM : a.map (F.stC ⟨a[0].fr, a[0].fr + b⟩ ⟨F.drL a, F.drL a + b⟩) = a.map (F.shC b) := by
      refine List.map_congr_left fun c hc => ?_
      rw [F.shC_eq hb (F.chk_cap h1 hc)]
      unfold F.stC
      rw [F.strT_by hlt, F.strT_by hlt]
    have eS : F.stretch a ⟨a[0].fr, a[0].fr + b⟩ ⟨F.drL a, F.drL a + b⟩ = (a.map (F.shC b), 0) := by
      unfold F.stretch
      rw [M.bne0 h1, hmT]
      simp only [cond_false, e1, e2, Bool.or_self, eM]
      unfold F.fin
      rw [M.bne0 h2]
      rfl
    have eO : F.drOut a (a.map (F.shC b)) = (⟨a[0].fr, a[0].fr + b⟩, ⟨F.drL a, F.drL a + b⟩, true, 0) := by
      unfold F.drOut
      rw [eU, eV, eS]
      simp only [F.eqcL_self]
      rfl
    rw [eO, e3]
    refine ⟨rfl, rfl, fun _ => ?_⟩
    simp only
    rw [show a[0].fr + b - a[0].fr = b by omega, show F.drL a + b - F.drL a = b by omega, M.wrap_id (by omega) (by omega)]
    exact ⟨rfl, rfl⟩

theorem F.smC_shift {l : List Cap} {b : Int} (h : F.smC l = true) : F.smC (F.shift l b).1 = true := by
  unfold F.shift
  cases F.chkC l != 0
  · cases F.out b (-359999999) 359999999
    · simp only [cond_false]
      unfold F.fin
      cases F.chkC (l.map (F.shC b)) != 0
      · simp only [cond_false, F.smC, List.all_map]; exact h
      · rfl
    · rfl
  · rfl

namespace M

noncomputable def enLDr : Env := envH ty noG lks [oDrf, oRDr, oAwk] [] [] []

theorem enLDr_ok : EnvOK Tryd.prog enLDr := by
  refine envH_ok lks_ok ty_ok ?_ ?_
  · simp only [List.forall_mem_cons]
    exact ⟨okDrf, okRDr, okAwk, by simp⟩
  · simp

theorem evLDr (a : List Cap) (b : List Cap) : (runF enLDr false Tryd.f11 [.sl (a.map eCap), .sl (b.map eCap)]).val =
  Option.bind (unenc encDrf [AV.sl (List.map eCap a), AV.sl (List.map eCap b)]) fun (z : List Cap × List Cap) => bif F.smC z.fst && F.smC z.snd then Option.bind (unenc
  encRDr [AV.sl (List.map eCap a), AV.sl (List.map eCap b)]) fun (z_1 : List Cap × List Cap) => bif F.smC z_1.fst && F.smC z_1.snd then bif bif bif bif (F.drift z.fst
  z.snd).snd.snd.snd == (F.drift z_1.fst z_1.snd).snd.snd.snd then (F.drift z.fst z.snd).fst.was == (F.drift z_1.fst z_1.snd).fst.was && ((F.drift z.fst z.snd).fst.now ==
  (F.drift z_1.fst z_1.snd).fst.now && true) else false then (F.drift z.fst z.snd).snd.fst.was == (F.drift z_1.fst z_1.snd).snd.fst.was && ((F.drift z.fst z.snd).snd.fst.now
  == (F.drift z_1.fst z_1.snd).snd.fst.now && true) else false then (F.drift z.fst z.snd).snd.snd.fst == (F.drift z_1.fst z_1.snd).snd.snd.fst else false then Option.bind
  (unenc encAwk []) fun (z : Unit) => some ((vB true), []) else some ((vB false), []) else none else none := (runFR_val).symm.trans (by kernel_rfl)

def encLDr1 (a : List Cap) (b : List Cap) : List AV := [.sl (a.map eCap), .sl (b.map eCap)]

def encLDr (a : (List Cap) × (List Cap)) : List AV := encLDr1 a.1 a.2

theorem encLDr_inj (a a' : (List Cap) × (List Cap)) (h : encLDr a = encLDr a') : a = a' := by
  simp only [encLDr, encLDr1] at h
  try simp [strs_inj, ints_inj, bools_inj, eCaps_inj, eCap_iff, eL_eCaps_inj, eMchs_inj, eMch_iff, eWrds_inj, eWrd_iff, eFnds_inj, eFnd_iff, eRatios_inj, eRatio_iff, eWays_inj, eWay_iff] at h
  grind

theorem unLDr (a : List Cap) (b : List Cap) : unenc encLDr ([AV.sl (List.map eCap a), AV.sl (List.map eCap b)]) = some (a, b) := unenc_of encLDr_inj (a, b) rfl

def resLDr1 (a : List Cap) (b : List Cap) : AV × Heap := (vB true, [])

def preLDr1 (a : List Cap) (b : List Cap) : Bool := F.smC a && F.smC b

noncomputable def oLDr : Orc := orc 11 false encLDr (fun a => preLDr1 a.1 a.2) fun a => resLDr1 a.1 a.2

theorem okLDr : OrcOK Tryd.prog noG oLDr := by
  refine mk_ok Tryd.f11 (keep := false) (by kernel_rfl) (by kernel_rfl) enLDr_ok mixed (no_loops (by kernel_rfl)) (by first | exact fun _ _ => ⟨rfl, rfl⟩ | (intro h; cases h)) ?_
  rintro ⟨a, b⟩ hpre hok
  show (runF enLDr false _ (encLDr1 _ _)).val = some (resLDr1 _ _)
  unfold encLDr1 resLDr1
  rw [evLDr]
  simp only [preLDr1] at hpre
  simp only [unDrf, unRDr, unAwk, preDrf1, preRDr1, preAwk1, etaCap, etaMch, etaWrd, etaFnd, etaRatio, etaWay, Option.bind_some, List.length_map, unStrs, unInts, unBools, unCaps, uneL_eCaps, unMchs, unWrds, unFnds, unRatios, unWays, F.lt, F.le, cond_true, cond_false, Bool.and_true, Bool.true_and, hpre, beq_self_eq_true, Bool.and_self, eqMch_refl]
  try rfl

def stSmT (a : List Cap) (b : List Cap) (k : Nat) : St := ⟨[(13, vI k), (12, vI a.length), (1, .sl (b.map eCap)), (0, .sl (a.map eCap))], []⟩

def stSmT1 (a : (List Cap) × (List Cap) × Nat) : St := stSmT a.1 a.2.1 a.2.2

theorem stSmT_inj (a a' : (List Cap) × (List Cap) × Nat) (h : stSmT1 a = stSmT1 a') : a = a' := by
  simp only [stSmT1, stSmT] at h
  try simp [strs_inj, ints_inj, bools_inj, eCaps_inj, eCap_iff, eL_eCaps_inj, eMchs_inj, eMch_iff, eWrds_inj, eWrd_iff, eFnds_inj, eFnd_iff, eRatios_inj, eRatio_iff, eWays_inj, eWay_iff] at h
  grind

theorem unstSmT (a : List Cap) (b : List Cap) (k : Nat) : unenc stSmT1 (St.mk [(13, (vI (↑k : Int))), (12, (vI (↑(List.length a) : Int))), (1, AV.sl (List.map eCap b)), (0, AV.sl (List.map eCap a))] []) = some (a, b, k) := unenc_of stSmT_inj (a, b, k) rfl

theorem unstSmT0 (a : List Cap) (b : List Cap)  : unenc stSmT1 (St.mk [(13, (vI (0 : Int))), (12, (vI (↑(List.length a) : Int))), (1, AV.sl (List.map eCap b)), (0, AV.sl (List.map eCap a))] []) = some (a, b, 0) := unenc_of stSmT_inj (a, b, 0) rfl

def outSmT (a : List Cap) (b : List Cap) (k : Nat) : T (Ex × St) := .ifB (F.eqcs false ((a.zip b).drop k)) (.ret (.exit 0, ⟨[], []⟩)) (.ret (.ret, ⟨[(4, vB false)], []⟩))

noncomputable def prlSmT (a : List Cap) (b : List Cap) (k : Nat) : Bool := decide (a.length ≤ 9223372036854775807) && decide (k ≤ a.length) && decide (a.length = b.length)

noncomputable def lpSmT : Nat × (St → T (Ex × St)) := (4, lpo [13, 12, 1, 0] [] stSmT1 (fun a => prlSmT a.1 a.2.1 a.2.2) fun a => outSmT a.1 a.2.1 a.2.2)

noncomputable def enSmT : Env := envH ty noG lks [] [] [] [lpSmT]

theorem enSmT_ok : EnvOK Tryd.prog enSmT := by
  refine envH_ok lks_ok ty_ok ?_ ?_
  · simp
  · simp

theorem evSmTL (a : List Cap) (b : List Cap) (k : Nat) : ((exec enSmT (loopN Tryd.f40 0) (stSmT a b k)).bind (lessX ([13, 12, 1, 0], []) ([], []) ([4], []))).val =
  bif decide ((↑k : Int) < (↑(List.length a) : Int)) then Option.bind (unenc (List.map eCap) (List.map eCap a)) fun (z : List Cap) => bif decide (k < List.length z) then
  Option.bind (unenc (List.map eCap) (List.map eCap b)) fun (z_1 : List Cap) => bif decide (k < List.length z_1) then bif !(List.getD z k (Cap.mk (0 : Int) (0 : Int) [] (0 :
  Int) false false)).fr != (List.getD z_1 k (Cap.mk (0 : Int) (0 : Int) [] (0 : Int) false false)).fr then Option.bind (unenc (List.map eCap) (List.map eCap a)) fun (z :
  List Cap) => bif decide (k < List.length z) then Option.bind (unenc (List.map eCap) (List.map eCap b)) fun (z_2 : List Cap) => bif decide (k < List.length z_2) then bif
  (List.getD z k (Cap.mk (0 : Int) (0 : Int) [] (0 : Int) false false)).to != (List.getD z_2 k (Cap.mk (0 : Int) (0 : Int) [] (0 : Int) false false)).to then some (Ex.ret,
  St.mk [(4, (vB false))] []) else some (Ex.normal, St.mk [(13, (vI (IntKind.wrap IntKind.i64 ((↑k : Int) + (1 : Int))))), (12, (vI (↑(List.length a) : Int))), (1, AV.sl
  (List.map eCap b)), (0, AV.sl (List.map eCap a))] []) else none else none else some (Ex.ret, St.mk [(4, (vB false))] []) else none else none else some (Ex.exit (0 : Nat),
  St.mk [] []) := (execR_bind _ _ _).symm.trans (by kernel_rfl)

theorem lpSmT_ok (a : List Cap) (b : List Cap) (k : Nat) (hp : prlSmT a b k = true) : ∀ ex s', (outSmT a b k).val = some (ex, s') → LoopOK enSmT (loopN Tryd.f40 0) (stSmT a b k) ex s' := by
  simp only [prlSmT, Bool.and_eq_true, decide_eq_true_eq] at hp
  obtain ⟨⟨h1, h2⟩, h3⟩ := hp
  have hz : (a.zip b).length = a.length := by rw [List.length_zip]; omega
  refine loop_all (xs := a.zip b) (st := stSmT a b) (p := F.eqcP false) (n := ([13, 12, 1, 0], [])) (e := ([], [])) (r := ([4], [])) ?_ ⟨by simp, rfl⟩ ⟨by simp, rfl⟩ (fun _ => rfl) ?_ k (by omega)
  · rw [hz]; rw [evSmTL]; simp
  · intro k y hy
    obtain ⟨ha, hb⟩ := F.zip_at hy
    have hlt := lt_at ha
    have hlt' := lt_at hb
    rw [evSmTL]
    simp only [unstSmT, unstSmT0, prlSmT, outSmT, etaCap, etaMch, etaWrd, etaFnd, etaRatio, etaWay, Option.bind_some, List.length_map, unStrs, unInts, unBools, unCaps, uneL_eCaps, unMchs, unWrds, unFnds, unRatios, unWays, F.lt, F.le, cond_true, cond_false, Bool.and_true, Bool.true_and, cast_lt hlt, decide_eq_true hlt, decide_eq_true hlt', next_at hlt h1, getD_at ha, getD_at hb, stSmT, F.eqcP, F.tmP, bne]
    cases (y.1.fr == y.2.fr) <;> cases (y.1.to == y.2.to) <;> rfl

theorem evSmT (a : List Cap) (b : List Cap) : (runF enSmT false Tryd.f40 [.sl (a.map eCap), .sl (b.map eCap)]).val =
  bif (↑(List.length (List.map eCap a)) : Int) != (↑(List.length (List.map eCap b)) : Int) then some ((vB false), []) else Option.bind (unenc stSmT1 (St.mk [(13, (vI (0 :
  Int))), (12, (vI (↑(List.length (List.map eCap a)) : Int))), (1, AV.sl (List.map eCap b)), (0, AV.sl (List.map eCap a))] [])) fun (z : List Cap × List Cap × Nat) => bif
  decide (List.length z.fst ≤ (9223372036854775807 : Nat)) && decide (z.snd.snd ≤ List.length z.fst) && decide (List.length z.fst = List.length z.snd.fst) && true then bif
  F.eqcs false (List.drop z.snd.snd (List.zip z.fst z.snd.fst)) then some ((vB true), []) else some ((vB false), []) else none := (runFR_val).symm.trans (by kernel_rfl)

def encSmT1 (a : List Cap) (b : List Cap) : List AV := [.sl (a.map eCap), .sl (b.map eCap)]

def encSmT (a : (List Cap) × (List Cap)) : List AV := encSmT1 a.1 a.2

theorem encSmT_inj (a a' : (List Cap) × (List Cap)) (h : encSmT a = encSmT a') : a = a' := by
  simp only [encSmT, encSmT1] at h
  try simp [strs_inj, ints_inj, bools_inj, eCaps_inj, eCap_iff, eL_eCaps_inj, eMchs_inj, eMch_iff, eWrds_inj, eWrd_iff, eFnds_inj, eFnd_iff, eRatios_inj, eRatio_iff, eWays_inj, eWay_iff] at h
  grind

theorem unSmT (a : List Cap) (b : List Cap) : unenc encSmT ([AV.sl (List.map eCap a), AV.sl (List.map eCap b)]) = some (a, b) := unenc_of encSmT_inj (a, b) rfl

def resSmT1 (a : List Cap) (b : List Cap) : AV × Heap := (vB (F.eqcL false a b), [])

def preSmT1 (a : List Cap) (b : List Cap) : Bool := true

noncomputable def oSmT : Orc := orc 40 true encSmT (fun a => preSmT1 a.1 a.2) fun a => resSmT1 a.1 a.2

theorem okSmT : OrcOK Tryd.prog noG oSmT := by
  refine mk_ok Tryd.f40 (keep := false) (by kernel_rfl) (by kernel_rfl) enSmT_ok mixed (one_loop (x0 := loopN Tryd.f40 0) (by kernel_rfl) (lpo_ok ?_)) (by first | exact fun _ _ => ⟨rfl, rfl⟩ | (intro h; cases h)) ?_
  · rintro ⟨a, b, k⟩ hp
    exact lpSmT_ok a b k hp
  rintro ⟨a, b⟩ hpre hok
  show (runF enSmT false _ (encSmT1 _ _)).val = some (resSmT1 _ _)
  unfold encSmT1 resSmT1
  rw [evSmT]
  have hx := caps_len (hok _ (List.mem_cons_self ..))
  simp only [unstSmT, unstSmT0, prlSmT, outSmT, etaCap, etaMch, etaWrd, etaFnd, etaRatio, etaWay, Option.bind_some, List.length_map, unStrs, unInts, unBools, unCaps, uneL_eCaps, unMchs, unWrds, unFnds, unRatios, unWays, F.lt, F.le, cond_true, cond_false, Bool.and_true, Bool.true_and, hx, List.drop_zero, Nat.zero_le, decide_true, F.len_eq, bne, F.eqcL]
  cases decide (a.length = b.length) <;> cases F.eqcs false (a.zip b) <;> rfl

theorem evBao (a : List Cap) : (runF en0 false Tryd.f41 [.sl (a.map eCap)]).val =
  Option.bind (unenc (List.map eCap) (List.map eCap a)) fun (z : List Cap) => bif decide ((0 : Nat) < List.length z) then Option.bind (idx (IntKind.wrap IntKind.i64
  ((↑(List.length (List.map eCap a)) : Int) - (1 : Int)))) fun (z_1 : Nat) => Option.bind (unenc (List.map eCap) (List.map eCap a)) fun (z_2 : List Cap) => bif decide (z_1 <
  List.length z_2) then some ((vB ((List.getD z (0 : Nat) (Cap.mk (0 : Int) (0 : Int) [] (0 : Int) false false)).fr == (List.getD z_2 z_1 (Cap.mk (0 : Int) (0 : Int) [] (0 :
  Int) false false)).fr)), []) else none else none := (runFR_val).symm.trans (by kernel_rfl)

def encBao1 (a : List Cap) : List AV := [.sl (a.map eCap)]

def encBao (a : (List Cap)) : List AV := encBao1 a

theorem encBao_inj (a a' : (List Cap)) (h : encBao a = encBao a') : a = a' := by
  simp only [encBao, encBao1] at h
  try simp [strs_inj, ints_inj, bools_inj, eCaps_inj, eCap_iff, eL_eCaps_inj, eMchs_inj, eMch_iff, eWrds_inj, eWrd_iff, eFnds_inj, eFnd_iff, eRatios_inj, eRatio_iff, eWays_inj, eWay_iff] at h
  grind

theorem unBao (a : List Cap) : unenc encBao ([AV.sl (List.map eCap a)]) = some (a) := unenc_of encBao_inj (a) rfl

def resBao1 (a : List Cap) : AV × Heap := (vB (F.bao a), [])

def preBao1 (a : List Cap) : Bool := decide (0 < a.length) && decide (a.length ≤ 500)

noncomputable def oBao : Orc := orc 41 true encBao (fun a => preBao1 a) fun a => resBao1 a

theorem okBao : OrcOK Tryd.prog noG oBao := by
  refine mk_ok Tryd.f41 (keep := false) (by kernel_rfl) (by kernel_rfl) en0_ok mixed (no_loops (by kernel_rfl)) (by first | exact fun _ _ => ⟨rfl, rfl⟩ | (intro h; cases h)) ?_
  rintro a hpre hok
  show (runF en0 false _ (encBao1 _)).val = some (resBao1 _)
  unfold encBao1 resBao1
  rw [evBao]
  simp only [preBao1, Bool.and_eq_true, decide_eq_true_eq] at hpre
  obtain ⟨h1, h2⟩ := hpre
  have w1 : IntKind.i64.wrap ((a.length : Int) - 1) = ((a.length - 1 : Nat) : Int) := by rw [wrap_id (by omega) (by omega)]; omega
  simp only [etaCap, etaMch, etaWrd, etaFnd, etaRatio, etaWay, Option.bind_some, List.length_map, unStrs, unInts, unBools, unCaps, uneL_eCaps, unMchs, unWrds, unFnds, unRatios, unWays, F.lt, F.le, cond_true, cond_false, Bool.and_true, Bool.true_and, w1, idx_nat, decide_eq_true h1, decide_eq_true (show a.length - 1 < a.length by omega)]
  rfl

noncomputable def enLDf : Env := envH ty noG lks [oDrf, oSt, oSmT, oSh, oBao, oAwk] [] [] []

theorem enLDf_ok : EnvOK Tryd.prog enLDf := by
  refine envH_ok lks_ok ty_ok ?_ ?_
  · simp only [List.forall_mem_cons]
    exact ⟨okDrf, okSt, okSmT, okSh, okBao, okAwk, by simp⟩
  · simp

theorem evLDf (a : List Cap) (b : List Cap) (y : Int) : (runF enLDf false Tryd.f12 [.sl (a.map eCap), .sl (b.map eCap), vI y]).val =
  Option.bind (unenc encDrf [AV.sl (List.map eCap a), AV.sl (List.map eCap b)]) fun (z : List Cap × List Cap) => bif F.smC z.fst && F.smC z.snd then bif bif (F.drift z.fst
  z.snd).snd.snd.snd == (0 : Int) then (F.drift z.fst z.snd).snd.snd.fst else false then Option.bind (unenc encSt [AV.sl (List.map eCap a), AV.agg [(vI (F.drift z.fst
  z.snd).fst.was), (vI (F.drift z.fst z.snd).fst.now)], AV.agg [(vI (F.drift z.fst z.snd).snd.fst.was), (vI (F.drift z.fst z.snd).snd.fst.now)]]) fun (z : List Cap × Mch ×
  Mch) => bif F.smC z.fst then bif !(F.stretch z.fst z.snd.fst z.snd.snd).snd != (0 : Int) then Option.bind (unenc encSmT [AV.sl (List.map eCap (F.stretch z.fst z.snd.fst
  z.snd.snd).fst), AV.sl (List.map eCap b)]) fun (z : List Cap × List Cap) => bif !F.eqcL false z.fst z.snd then some ((vB false), []) else Option.bind (unenc encSh [AV.sl
  (List.map eCap a), (vI y)]) fun (z : List Cap × Int) => bif F.smC z.fst then bif bif (F.shift z.fst z.snd).snd != (0 : Int) then true else (↑(List.length (List.map eCap
  a)) : Int) == (0 : Int) then Option.bind (unenc encAwk []) fun (z : Unit) => some ((vB true), []) else Option.bind (unenc encDrf [AV.sl (List.map eCap a), AV.sl (List.map
  eCap (F.shift z.fst z.snd).fst)]) fun (z : List Cap × List Cap) => bif F.smC z.fst && F.smC z.snd then bif !(F.drift z.fst z.snd).snd.snd.snd != (0 : Int) then Option.bind
  (unenc encBao [AV.sl (List.map eCap a)]) fun (z_1 : List Cap) => bif decide ((0 : Nat) < List.length z_1) && decide (List.length z_1 ≤ (500 : Nat)) then bif (F.drift z.fst
  z.snd).snd.snd.fst == F.bao z_1 then some ((vB false), []) else bif bif !(F.drift z.fst z.snd).snd.snd.fst then true else bif IntKind.wrap IntKind.i64 ((F.drift z.fst
  z.snd).fst.now - (F.drift z.fst z.snd).fst.was) == y then IntKind.wrap IntKind.i64 ((F.drift z.fst z.snd).snd.fst.now - (F.drift z.fst z.snd).snd.fst.was) == y else false
  then Option.bind (unenc encAwk []) fun (z : Unit) => some ((vB true), []) else some ((vB false), []) else none else some ((vB false), []) else none else none else some
  ((vB false), []) else none else Option.bind (unenc encSh [AV.sl (List.map eCap a), (vI y)]) fun (z : List Cap × Int) => bif F.smC z.fst then bif bif (F.shift z.fst
  z.snd).snd != (0 : Int) then true else (↑(List.length (List.map eCap a)) : Int) == (0 : Int) then Option.bind (unenc encAwk []) fun (z : Unit) => some ((vB true), []) else
  Option.bind (unenc encDrf [AV.sl (List.map eCap a), AV.sl (List.map eCap (F.shift z.fst z.snd).fst)]) fun (z : List Cap × List Cap) => bif F.smC z.fst && F.smC z.snd then
  bif !(F.drift z.fst z.snd).snd.snd.snd != (0 : Int) then Option.bind (unenc encBao [AV.sl (List.map eCap a)]) fun (z_1 : List Cap) => bif decide ((0 : Nat) < List.length
  z_1) && decide (List.length z_1 ≤ (500 : Nat)) then bif (F.drift z.fst z.snd).snd.snd.fst == F.bao z_1 then some ((vB false), []) else bif bif !(F.drift z.fst
  z.snd).snd.snd.fst then true else bif IntKind.wrap IntKind.i64 ((F.drift z.fst z.snd).fst.now - (F.drift z.fst z.snd).fst.was) == y then IntKind.wrap IntKind.i64 ((F.drift
  z.fst z.snd).snd.fst.now - (F.drift z.fst z.snd).snd.fst.was) == y else false then Option.bind (unenc encAwk []) fun (z : Unit) => some ((vB true), []) else some ((vB
  false), []) else none else some ((vB false), []) else none else none else none := (runFR_val).symm.trans (by kernel_rfl)

def encLDf1 (a : List Cap) (b : List Cap) (y : Int) : List AV := [.sl (a.map eCap), .sl (b.map eCap), vI y]

def encLDf (a : (List Cap) × (List Cap) × Int) : List AV := encLDf1 a.1 a.2.1 a.2.2

theorem encLDf_inj (a a' : (List Cap) × (List Cap) × Int) (h : encLDf a = encLDf a') : a = a' := by
  simp only [encLDf, encLDf1] at h
  try simp [strs_inj, ints_inj, bools_inj, eCaps_inj, eCap_iff, eL_eCaps_inj, eMchs_inj, eMch_iff, eWrds_inj, eWrd_iff, eFnds_inj, eFnd_iff, eRatios_inj, eRatio_iff, eWays_inj, eWay_iff] at h
  grind

theorem unLDf (a : List Cap) (b : List Cap) (y : Int) : unenc encLDf ([AV.sl (List.map eCap a), AV.sl (List.map eCap b), (vI y)]) = some (a, b, y) := unenc_of encLDf_inj (a, b, y) rfl

def resLDf1 (a : List Cap) (b : List Cap) (y : Int) : AV × Heap := (vB true, [])

def preLDf1 (a : List Cap) (b : List Cap) (y : Int) : Bool := F.smC a && F.smC b

noncomputable def oLDf : Orc := orc 12 false encLDf (fun a => preLDf1 a.1 a.2.1 a.2.2) fun a => resLDf1 a.1 a.2.1 a.2.2

theorem okLDf : OrcOK Tryd.prog noG oLDf := by
  refine mk_ok Tryd.f12 (keep := false) (by kernel_rfl) (by kernel_rfl) enLDf_ok mixed (no_loops (by kernel_rfl)) (by first | exact fun _ _ => ⟨rfl, rfl⟩ | (intro h; cases h)) ?_
  rintro ⟨a, b, y⟩ hpre hok
  show (runF enLDf false _ (encLDf1 _ _ _)).val = some (resLDf1 _ _ _)
  unfold encLDf1 resLDf1
  rw [evLDf]
  simp only [preLDf1, Bool.and_eq_true] at hpre
  obtain ⟨p1, p2⟩ := hpre
  have p3 : F.smC (F.shift a y).1 = true := F.smC_shift p1
  have u : ∀ d : Mch × Mch, unenc encSt [.sl (a.map eCap), .agg [vI d.1.was, vI d.1.now], .agg [vI d.2.was, vI d.2.now]] = some (a, d.1, d.2) := fun d => unenc_of encSt_inj (a, d.1, d.2) rfl
  simp only [unDrf, unSt, unSmT, unSh, unBao, unAwk, unStw, preDrf1, preSt1, preSmT1, preSh1, preBao1, preAwk1, etaCap, etaMch, etaWrd, etaFnd, etaRatio, etaWay, Option.bind_some, List.length_map, unStrs, unInts, unBools, unCaps, uneL_eCaps, unMchs, unWrds, unFnds, unRatios, unWays, F.lt, F.le, cond_true, cond_false, Bool.and_true, Bool.true_and, p1, p2, p3, Bool.and_self]
  have out : ∀ T : Option (AV × Heap), T = some (vB true, []) →
      (bif (bif (F.drift a b).2.2.2 == 0 then (F.drift a b).2.2.1 else false) then bif !((F.stretch a (F.drift a b).1 (F.drift a b).2.1).2 != 0) then bif !(F.eqcL false (F.stretch a (F.drift a b).1 (F.drift a b).2.1).1 b) then some (vB false, []) else T else some (vB false, []) else T) = some (vB true, []) := by
    intro T hT
    cases h1 : (F.drift a b).2.2.2 == 0
    · exact hT
    · cases h2 : (F.drift a b).2.2.1
      · exact hT
      · obtain ⟨q1, q2⟩ := F.drift_ok h2
        simp only [cond_true, bne0 q1, q2, Bool.not_true, Bool.not_false, cond_false]
        exact hT
  refine out _ ?_
  by_cases hs : (F.shift a y).2 = 0
  case neg => rw [bne1 hs]; rfl
  have c1 := F.chk_len (F.shift_ok hs).1
  simp only [bne0 hs, cond_false, isE_len]
  cases he : a.isEmpty
  case true => rfl
  have hn : a ≠ [] := by intro e; rw [e] at he; cases he
  have hl : 0 < a.length := List.length_pos_iff.2 hn
  obtain ⟨m1, m2, m3⟩ := F.drift_moved hs he
  simp only [cond_false, bne0 m1, Bool.not_false, cond_true, decide_eq_true hl, decide_eq_true c1, Bool.and_self]
  rw [m2] at m3 ⊢
  cases hb : F.bao a
  · obtain ⟨m4, m5⟩ := m3 (by rw [hb]; rfl)
    rw [m4, m5]
    simp
  · rfl

end M
end Go.Proofs.YtniealifncgilaaDoor
