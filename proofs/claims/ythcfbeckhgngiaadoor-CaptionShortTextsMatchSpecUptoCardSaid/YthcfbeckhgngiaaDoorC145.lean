/- What is proved here: captions written in the short form, plain; what bounds a text (no statement of the seat). -/
import Derived.Test.YthcfbeckhgngiaaDoorC143
import Derived.Test.YthcfbeckhgngiaaDoorC144
import Derived.Test.YthcfbeckhgngiaaDoorC120
namespace Go.Proofs.YthcfbeckhgngiaaDoor
open Go Go.RowKit
set_option linter.unusedVariables false
set_option linter.unusedSimpArgs false

namespace F

/-- A text, if it is not too long. -/
def bndS (s : ByteArray) : ByteArray := bif decide (200000 < s.size) then ⟨⟨[]⟩⟩ else s

def bndF (s : ByteArray) : Int := bif decide (200000 < s.size) then 2 else 0

/-- What a caption must have to be written. -/
def capW (c : Cap) : Bool := decide (0 ≤ c.fr) && decide (c.fr ≤ 359999999) && decide (0 ≤ c.to) && decide (c.to ≤ 359999999) && decide (0 ≤ c.row) && decide (c.row ≤ 15) && decide (c.lines.length ≤ 15) && decide (c.lines ≠ []) && allL c.lines

theorem chkP_mem {α : Type} {f : Option α → α → Int} : ∀ {l : List α} {p : Option α}, chkP f p l = 0 → ∀ c ∈ l, ∃ q, f q c = 0
  | x :: l, p, h, c, hc => by
    rw [chkP] at h
    cases hx : f p x != 0
    · rw [hx, cond_false] at h
      rcases List.mem_cons.1 hc with rfl | hc
      · exact ⟨p, by simpa using hx⟩
      · exact chkP_mem h c hc
    · rw [hx, cond_true] at h
      rw [h] at hx; simp at hx

theorem capF_w {q : Option Cap} {c : Cap} (h : capF q c = 0) : capW c = true := by
  unfold capF at h
  cases h1 : noTime c.fr
  · cases h2 : noTime c.to
    · rw [h1, h2] at h
      simp only [Bool.or_self, cond_false] at h
      cases h3 : (le c.to c.fr || befP q c)
      · rw [h3, cond_false] at h
        cases h4 : out c.row 0 15
        · rw [h4, cond_false] at h
          unfold linesF at h
          cases h5 : c.lines.isEmpty
          · rw [h5, cond_false] at h
            cases h6 : decide (15 < c.lines.length)
            · rw [h6, cond_false] at h
              cases h7 : allL c.lines
              · rw [h7, cond_false] at h; cases h
              · simp only [noTime, out, Bool.or_eq_false_iff, decide_eq_false_iff_not] at h1 h2 h4 h6
                have h8 : c.lines ≠ [] := by rintro e; rw [e] at h5; cases h5
                unfold capW
                rw [h7, decide_eq_true h8, decide_eq_true (show 0 ≤ c.fr by omega), decide_eq_true (show c.fr ≤ 359999999 by omega), decide_eq_true (show 0 ≤ c.to by omega), decide_eq_true (show c.to ≤ 359999999 by omega), decide_eq_true (show 0 ≤ c.row by omega), decide_eq_true (show c.row ≤ 15 by omega), decide_eq_true (show c.lines.length ≤ 15 by omega)]
                rfl
            · rw [h6, cond_true] at h; cases h
          · rw [h5, cond_true] at h; cases h
        · rw [h4, cond_true] at h; cases h
      · rw [h3, cond_true] at h; cases h
    · rw [h1, h2] at h; cases h
  · rw [h1] at h; cases h

theorem chkC_w {l : List Cap} (h : chkC l = 0) : l.length ≤ 500 ∧ l.all capW = true := by
  unfold chkC at h
  cases h1 : decide (500 < l.length)
  · rw [h1, cond_false] at h
    refine ⟨by simpa using h1, List.all_eq_true.2 fun c hc => ?_⟩
    obtain ⟨q, hq⟩ := chkP_mem h c hc
    exact capF_w hq
  · rw [h1, cond_true] at h; cases h

theorem capW_spec {c : Cap} (h : capW c = true) : 0 ≤ c.fr ∧ c.fr ≤ 359999999 ∧ 0 ≤ c.to ∧ c.to ≤ 359999999 ∧ 0 ≤ c.row ∧ c.row ≤ 15 ∧ c.lines.length ≤ 15 ∧ c.lines ≠ [] ∧ ∀ s ∈ c.lines, line s = true := by
  unfold capW at h
  simp only [Bool.and_eq_true, decide_eq_true_eq] at h
  obtain ⟨⟨⟨⟨⟨⟨⟨⟨h1, h2⟩, h3⟩, h4⟩, h5⟩, h6⟩, h7⟩, h8⟩, h9⟩ := h
  exact ⟨h1, h2, h3, h4, h5, h6, h7, h8, List.all_eq_true.1 h9⟩

theorem line_size {s : ByteArray} (h : line s = true) : s.size ≤ 200 := by
  unfold line at h
  rw [Bool.and_eq_true, decide_eq_true_eq] at h
  exact h.1

theorem bs_join (xs : List ByteArray) (p : ByteArray) : bs (join xs p) = Lib.join (xs.map bs) (bs p) := rfl

/-- Lines, each with its end. -/
def lnB (xs : List ByteArray) : List UInt8 := xs.flatMap fun x => bs x ++ [10]

theorem bs_join_nl : ∀ {xs : List ByteArray}, xs ≠ [] → bs (join xs nl) ++ [10] = lnB xs
  | x :: r, _ => by
    rw [bs_join, List.map_cons, Lib.join_cons]
    have key : ∀ r : List ByteArray, Lib.joinTail (bs nl) (r.map bs) ++ [10] = [10] ++ lnB r := fun r => by
      induction r with
      | nil => rfl
      | cons y r ih =>
        have e : Lib.joinTail (bs nl) ((y :: r).map bs) = [10] ++ bs y ++ Lib.joinTail (bs nl) (r.map bs) := rfl
        rw [e, List.append_assoc, ih]
        unfold lnB
        simp
    rw [List.append_assoc, key r]
    unfold lnB
    simp

theorem lnB_len : ∀ {xs : List ByteArray}, (∀ x ∈ xs, x.size ≤ 200) → (lnB xs).length ≤ 201 * xs.length
  | [], _ => Nat.le_refl 0
  | x :: r, h => by
    have ih := lnB_len (xs := r) fun y hy => h y (List.mem_cons_of_mem _ hy)
    have hx := h x (List.mem_cons_self ..)
    have e : lnB (x :: r) = bs x ++ [10] ++ lnB r := rfl
    rw [e, List.length_append, List.length_append, ← size_bs, List.length_cons]
    simp only [List.length_cons, List.length_nil] at *
    omega

theorem join_nl_size {xs : List ByteArray} (h0 : xs ≠ []) (h1 : xs.length ≤ 15) (h : ∀ x ∈ xs, x.size ≤ 200) : (join xs nl).size ≤ 3015 := by
  have h2 := congrArg List.length (bs_join_nl h0)
  have h3 := lnB_len h
  rw [List.length_append, ← size_bs, List.length_singleton] at h2
  omega

theorem tms_size {c : Cap} {p : ByteArray} (h : capW c = true) (hp : p.size = 1) : (tms c p).size = 29 := by
  obtain ⟨h1, h2, h3, h4, _⟩ := capW_spec h
  have s1 : (clk c.fr p).size = 12 := by
    obtain ⟨k, hk⟩ := Int.eq_ofNat_of_zero_le h1
    rw [hk, clk_size (by omega), hp]
  have s2 : (clk c.to p).size = 12 := by
    obtain ⟨k, hk⟩ := Int.eq_ofNat_of_zero_le h3
    rw [hk, clk_size (by omega), hp]
  unfold tms
  rw [ByteArray.size_append, ByteArray.size_append, s1, s2]
  rfl

def nlnl : ByteArray := ⟨⟨[10, 10]⟩⟩

/-- A caption that the short form cannot have. -/
def shB (c : Cap) : Bool := (c.row != 0) || c.bef || c.aft

/-- A caption in the short form, with its number. -/
def shT (i : Nat) (c : Cap) : ByteArray := itoa ((i + 1 : Nat) : Int) ++ nl ++ tms c comma ++ nl ++ join c.lines nl ++ nlnl

theorem shT_size {i : Nat} {c : Cap} (h : capW c = true) (hi : i ≤ 500) : (shT i c).size ≤ 4000 ∧ 0 < (shT i c).size := by
  obtain ⟨h1, h2, h3, h4, h5, h6, h7, h8, h9⟩ := capW_spec h
  have a1 := itoa_size (n := ((i + 1 : Nat) : Int)) (by omega) (by omega)
  have a2 := tms_size h (show comma.size = 1 from rfl)
  have a3 := join_nl_size h8 h7 fun x hx => line_size (h9 x hx)
  unfold shT
  simp only [ByteArray.size_append, a2, show nl.size = 1 from rfl, show nlnl.size = 2 from rfl]
  omega

/-- Captions in the short form, behind a text; the first one that it cannot have. -/
def shS : List Cap → Nat → Bool
  | [], _ => true
  | c :: r, i => !shB c && shS r (i + 1)

def shW : List Cap → Nat → ByteArray → ByteArray
  | [], _, acc => acc
  | c :: r, i, acc => shW r (i + 1) (acc ++ shT i c)

def shortS (l : List Cap) : ByteArray := bif chkC l != 0 then ⟨⟨[]⟩⟩ else bif shS l 0 then bndS (shW l 0 ⟨⟨[]⟩⟩) else ⟨⟨[]⟩⟩

def shortF (l : List Cap) : Int := bif chkC l != 0 then chkC l else bif shS l 0 then bndF (shW l 0 ⟨⟨[]⟩⟩) else 3

end F

namespace M

theorem evBnd (s : ByteArray) : (runF en0 false Tryd.f28 [vS s]).val =
  bif decide ((200000 : Int) < (↑(ByteArray.size s) : Int)) then some (AV.tup [(vS (ByteArray.mk (Array.mk []))), (vI (2 : Int))], []) else some (AV.tup [(vS s), (vI (0 :
  Int))], []) := (runFR_val).symm.trans (by kernel_rfl)

def encBnd1 (s : ByteArray) : List AV := [vS s]

def encBnd (a : ByteArray) : List AV := encBnd1 a

theorem encBnd_inj (a a' : ByteArray) (h : encBnd a = encBnd a') : a = a' := by
  simp only [encBnd, encBnd1] at h
  try simp [strs_inj, ints_inj, bools_inj, eL_eIs_inj, eCaps_inj, eCap_iff, eL_eCaps_inj, eMchs_inj, eMch_iff, eWrds_inj, eWrd_iff, eFnds_inj, eFnd_iff, eRatios_inj, eRatio_iff, eWays_inj, eWay_iff] at h
  grind

theorem unBnd (s : ByteArray) : unenc encBnd ([(vS s)]) = some (s) := unenc_of encBnd_inj (s) rfl

def resBnd1 (s : ByteArray) : AV × Heap := (.tup [vS (F.bndS s), vI (F.bndF s)], [])

def preBnd1 (s : ByteArray) : Bool := true

noncomputable def oBnd : Orc := orc 28 true encBnd (fun a => preBnd1 a) fun a => resBnd1 a

theorem okBnd : OrcOK Tryd.prog noG oBnd := by
  refine mk_ok Tryd.f28 (keep := false) (by kernel_rfl) (by kernel_rfl) en0_ok mixed (no_loops (by kernel_rfl)) (by first | exact fun _ _ => ⟨rfl, rfl⟩ | (intro h; cases h)) ?_
  rintro s hpre hok
  show (runF en0 false _ (encBnd1 _)).val = some (resBnd1 _)
  unfold encBnd1 resBnd1
  rw [evBnd]
  simp only [etaCap, etaMch, etaWrd, etaFnd, etaRatio, etaWay, Option.bind_some, List.length_map, unStrs, unInts, unBools, uneL_eIs, unCaps, uneL_eCaps, unMchs, unWrds, unFnds, unRatios, unWays, F.lt, F.le, cond_true, cond_false, Bool.and_true, Bool.true_and, F.bndS, F.bndF]
  by_cases h : 200000 < s.size
  · rw [decide_eq_true h, decide_eq_true (show (200000 : Int) < s.size by omega)]; rfl
  · rw [decide_eq_false h, decide_eq_false (show ¬ (200000 : Int) < s.size by omega)]; rfl

end M
end Go.Proofs.YthcfbeckhgngiaaDoor
