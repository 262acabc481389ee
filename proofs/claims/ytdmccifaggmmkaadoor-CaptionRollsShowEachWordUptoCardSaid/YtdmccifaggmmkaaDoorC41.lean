/- What is proved here: how words become captions, on plain data; copies of lines that share no memory (no statement of the seat). -/
import Derived.Test.YtdmccifaggmmkaaDoorC40
import Derived.Test.YtdmccifaggmmkaaDoorC11
namespace Go.Proofs.YtdmccifaggmmkaaDoor
open Go Go.RowKit
set_option linter.unusedVariables false
set_option linter.unusedSimpArgs false

/-- A word begins anew. -/
def F.gap (hold : Int) (p : Option Wrd) (w : Wrd) : Bool := match p with
  | none => false
  | some o => F.lt hold (w.time - o.time)

def F.lastL (ls : List ByteArray) : ByteArray := ls.getD (ls.length - 1) ⟨#[]⟩

def F.fits (width : Int) (ls : List ByteArray) (t : ByteArray) : Bool := !ls.isEmpty && F.le (F.runes (F.lastL ls) + 1 + F.runes t) width

def F.addW (width : Int) (ls : List ByteArray) (t : ByteArray) : List ByteArray :=
  bif F.fits width ls t then ls.set (ls.length - 1) (F.lastL ls ++ (F.sp ++ t)) else ls ++ [t]

/-- The lines after a word. -/
def F.rollS (hold width : Int) (p : Option Wrd) (ls : List ByteArray) (w : Wrd) : List ByteArray := F.addW width (bif F.gap hold p w then [] else ls) w.text

def F.lastR (rows : Int) (ls : List ByteArray) : List ByteArray := ls.drop (ls.length - rows.toNat)

def F.toN (t : Int) (nx : Option Wrd) : Int := match nx with
  | none => t
  | some v => min t v.time

def F.sameT (w : Wrd) (nx : Option Wrd) : Bool := match nx with
  | none => false
  | some v => v.time == w.time

def F.rollC (hold rows : Int) (ls : List ByteArray) (w : Wrd) (nx : Option Wrd) : Cap := ⟨w.time, F.toN (w.time + hold) nx, F.lastR rows ls, 0, false, false⟩

/-- The captions of words, as the program makes them. -/
def F.rollP (width rows hold : Int) : Option Wrd → List ByteArray → List Wrd → List Cap
  | _, _, [] => []
  | p, ls, w :: l => bif F.sameT w l.head? then F.rollP width rows hold (some w) (F.rollS hold width p ls w) l
    else F.rollC hold rows (F.rollS hold width p ls w) w l.head? :: F.rollP width rows hold (some w) (F.rollS hold width p ls w) l

def F.rollB (width rows hold : Int) : Bool := F.out width 1 200 || F.out rows 1 15 || F.out hold 1 359999999

def F.roll (l : List Wrd) (width rows hold : Int) : List Cap × Int :=
  bif F.rollB width rows hold then ([], 1) else bif F.wordsF l width != 0 then ([], F.wordsF l width) else F.fin (F.rollP width rows hold none [] l)

/-- Words as they have to be. -/
def F.wrdOK (c : Wrd) : Bool := F.tm c.time && decide (c.text.size ≤ 200)

def F.wrdsOK (l : List Wrd) : Bool := l.all F.wrdOK

theorem F.wrdOK_iff {c : Wrd} : F.wrdOK c = true ↔ (0 ≤ c.time ∧ c.time ≤ 359999999) ∧ c.text.size ≤ 200 := by simp [F.wrdOK, F.tm_iff]

theorem F.wrds_at {l : List Wrd} {k : Nat} {y : Wrd} (h : F.wrdsOK l = true) (hy : l[k]? = some y) : F.wrdOK y = true := List.all_eq_true.1 h y (List.mem_of_getElem? hy)

theorem F.words_ok {l : List Wrd} {w : Int} (h : F.wordsF l w = 0) : l.length ≤ 500 ∧ F.wrdsOK l = true := by
  unfold F.wordsF at h
  by_cases h5 : 500 < l.length
  · rw [decide_eq_true h5] at h; cases h
  rw [decide_eq_false h5, cond_false] at h
  refine ⟨by omega, List.all_eq_true.2 fun c hc => ?_⟩
  obtain ⟨q, hq⟩ := F.chkP_ok h c hc
  unfold F.wrdF at hq
  cases h1 : F.noTime c.time
  case true => rw [h1] at hq; cases hq
  cases h2 : F.line c.text
  case false => rw [h1, h2] at hq; cases hq
  have h3 : c.text.size ≤ 200 := by
    simp only [F.line, Bool.and_eq_true, decide_eq_true_eq] at h2
    exact h2.1
  exact F.wrdOK_iff.2 ⟨F.tm_iff.1 (by unfold F.tm; rw [h1]; rfl), h3⟩

/-- Lines that stay short. -/
def F.lnsB (k : Nat) (ls : List ByteArray) : Prop := ls.length ≤ k ∧ ∀ s ∈ ls, s.size ≤ 201 * k

open Classical in
noncomputable def F.lnsBb (k : Nat) (ls : List ByteArray) : Bool := decide (F.lnsB k ls)

theorem F.lnsBb_iff {k : Nat} {ls : List ByteArray} : F.lnsBb k ls = true ↔ F.lnsB k ls := by simp [F.lnsBb]

theorem F.lnsB_next {k : Nat} {ls : List ByteArray} {hold width : Int} {p : Option Wrd} {w : Wrd} (h : F.lnsB k ls) (hw : w.text.size ≤ 200) : F.lnsB (k + 1) (F.rollS hold width p ls w) := by
  have h0 : F.lnsB k (bif F.gap hold p w then [] else ls) := by
    cases F.gap hold p w
    · exact h
    · exact ⟨Nat.zero_le _, fun s hs => by cases hs⟩
  unfold F.rollS
  generalize (bif F.gap hold p w then [] else ls) = ls at h0
  unfold F.addW
  cases hf : F.fits width ls w.text
  · simp only [cond_false]
    refine ⟨by simp; exact h0.1, fun s hs => ?_⟩
    rcases List.mem_append.1 hs with hs | hs
    · have := h0.2 s hs; omega
    · rcases List.mem_singleton.1 hs with rfl; omega
  · simp only [cond_true]
    refine ⟨by have := h0.1; simp; omega, fun s hs => ?_⟩
    rcases List.mem_or_eq_of_mem_set hs with hs | rfl
    · have := h0.2 s hs; omega
    · unfold F.fits at hf
      rw [Bool.and_eq_true] at hf
      have hne : ls ≠ [] := by intro e; rw [e] at hf; simp at hf
      have hl : 0 < ls.length := List.length_pos_iff.2 hne
      have hy : ls[ls.length - 1]? = some ls[ls.length - 1] := List.getElem?_eq_getElem (by omega)
      have e : F.lastL ls = ls[ls.length - 1] := M.getD_at hy
      have := h0.2 _ (List.mem_of_getElem? hy)
      have hsz : ∀ a b : ByteArray, (a ++ b).size = a.size + b.size := fun a b => by simp
      rw [e, hsz, hsz]
      have : F.sp.size = 1 := rfl
      omega

namespace M

theorem evClF1 (xs : List ByteArray) : (runF en0 true Tryd.f22 [.nz false (xs.map eStr)]).val =
  bif Nat.ble (((0 : Nat) + List.length (List.map eStr xs)) * (16 : Nat)) (140737488355328 : Nat) && List.all (List.map eStr xs) fun (r : Row) => Nat.beq (List.length r)
  (TI.mk false (1 : Nat) [] [AV.e0] (9 : Nat) (1 : Nat) (16 : Nat) [(vS (ByteArray.mk (Array.mk [])))] none (4 : Nat) []).esize then some (.own 0, [(0, Blk.mk false 9 1
  (List.map eStr xs))]) else none := (runFR_val).symm.trans (by kernel_rfl)

theorem evClF0 : (rawF en0 Tryd.f22 [.nz true []]).val = some .e0 := by kernel_rfl

def encClF1 (xs : List ByteArray) : List AV := [.sl (xs.map eStr)]

def encClF (a : (List ByteArray)) : List AV := encClF1 a

theorem encClF_inj (a a' : (List ByteArray)) (h : encClF a = encClF a') : a = a' := by
  simp only [encClF, encClF1] at h
  try simp [strs_inj, ints_inj, bools_inj, eCaps_inj, eCap_iff, eL_eCaps_inj, eMchs_inj, eMch_iff, eWrds_inj, eWrd_iff, eFnds_inj, eFnd_iff, eRatios_inj, eRatio_iff, eWays_inj, eWay_iff] at h
  grind

theorem unClF (xs : List ByteArray) : unenc encClF ([AV.sl (List.map eStr xs)]) = some (xs) := unenc_of encClF_inj (xs) rfl

def resClF1 (xs : List ByteArray) : AV × Heap := (.own 0, [(0, ⟨false, 9, 1, xs.map eStr⟩)])

def preClF1 (xs : List ByteArray) : Bool := decide (xs.length ≤ 1000)

noncomputable def oClF : Orc := orc 22 true encClF (fun a => preClF1 a) fun a => resClF1 a

theorem okClF : OrcOK Tryd.prog noG oClF := by
  refine orc_ok ⟨Tryd.f22, by kernel_rfl, by kernel_rfl, by kernel_rfl⟩ (fun xs hp _ => ?_) (fun _ xs => ⟨?_, rfl⟩)
  · simp only [preClF1, decide_eq_true_eq] at hp
    have hb : Nat.ble (xs.length * 16) 140737488355328 = true := ble_t (by omega)
    show SpecP _ _ _ [.sl (xs.map eStr)] (.own 0) [(0, ⟨false, 9, 1, xs.map eStr⟩)]
    refine SpecP.nil (fun e => ?_) ?_
    · have : xs = [] := by simpa using e
      subst this
      exact rawF_e0 (E := en0) en0_ok mixed (fn := Tryd.f22) (by kernel_rfl) (no_loops (by kernel_rfl)) evClF0
    · refine runF_sound (E := en0) en0_ok mixed (fn := Tryd.f22) (by kernel_rfl) (no_loops (by kernel_rfl)) (keep := true) ?_
      rw [evClF1]
      simp only [List.length_map, Nat.zero_add, hb, all_strs, Bool.and_true, cond_true, List.nil_append]
  · show frsH [(0, ⟨false, 9, 1, xs.map eStr⟩)] = true
    simp [frsH, eStr, flat0]

end M
end Go.Proofs.YtdmccifaggmmkaaDoor
