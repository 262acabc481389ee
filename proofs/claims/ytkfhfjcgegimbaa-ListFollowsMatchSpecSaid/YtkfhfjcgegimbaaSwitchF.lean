/- What is proved here: the plain meaning of Switch (chapter 6), with no program in sight. -/
import Derived.Test.YtkfhfjcgegimbaaSwitch3
import Derived.Test.YtkfhfjcgegimbaaDatesF
namespace Go.Proofs.Ytkfhfjcgegimbaa
set_option linter.unusedVariables false

/-- The loop of Switch: whether a date is known, and the last entry whose date is not greater. -/
def swG (x : Int) (k : Int) (dt : Bool) (best : Int) : List Int → Bool × Int
  | [] => (dt, best)
  | y :: r => swG x (k + 1) (dt || decide (0 ≤ y)) (if 0 ≤ y ∧ y ≤ x then k else best) r
theorem swG_bd : ∀ (ys : List Int) (x k : Int) (dt : Bool) (best : Int), -1 ≤ best → best < k → 0 ≤ k → -1 ≤ (swG x k dt best ys).2 ∧ (swG x k dt best ys).2 < k + ys.length
  | [], x, k, dt, best, h1, h2, h3 => by simp [swG]; omega
  | y :: r, x, k, dt, best, h1, h2, h3 => by
    unfold swG
    split
    · have := swG_bd r x (k + 1) (dt || decide (0 ≤ y)) k (by omega) (by omega) (by omega); simp only [List.length_cons]; omega
    · have := swG_bd r x (k + 1) (dt || decide (0 ≤ y)) best h1 (by omega) (by omega); simp only [List.length_cons]; omega
/-- The entries of a stretch. -/
def cutL (ys : List Int) (st : Int × Int) : List Int := (ys.drop st.1.toNat).take st.2.toNat
def ownN (a : Lst) (i : Nat) : Int := a.breaks + cntF (a.entries.take (i + 1))
def begI (l : Lst) (k : Int) : Bool := match l.entries[k.toNat]? with
  | some e => begB l e k
  | none => false
def loopF (a b : Lst) (i : Nat) : Bool × Int := swG ((datesF a.entries).1[i]?.getD 0) (stF b (ownN a i)).1 false (-1) (cutL (datesF b.entries).1 (stF b (ownN a i)))
def placeF (a b : Lst) (i : Nat) : Int × Int :=
  if (stF b (ownN a i)).1 + i - (stF a (ownN a i)).1 < (stF b (ownN a i)).1 + (stF b (ownN a i)).2 ∧ begI a (stF a (ownN a i)).1 = true ∧ begI b (stF b (ownN a i)).1 = true
  then (b.first + ((stF b (ownN a i)).1 + i - (stF a (ownN a i)).1), 0) else (0, 11)
def dateF (a b : Lst) (i : Nat) : Int × Int := if (loopF a b i).2 < 0 then (0, 11) else (b.first + (loopF a b i).2, 0)
def switchIn (a b : Lst) (i : Nat) : Int × Int :=
  if (stF b (ownN a i)).2 = 0 then (0, 9) else
  if first2 (datesF a.entries).2 (datesF b.entries).2 = 0 then
    if 0 ≤ (datesF a.entries).1[i]?.getD 0 ∧ (loopF a b i).1 = true then dateF a b i else placeF a b i
  else (0, first2 (datesF a.entries).2 (datesF b.entries).2)
def switchF (a b : Lst) (m : Int) : Int × Int :=
  if first2 (checkF a) (checkF b) = 0 then
    if m < a.first ∨ a.first + a.entries.length ≤ m then (0, 9) else switchIn a b (m - a.first).toNat
  else (0, first2 (checkF a) (checkF b))
theorem first2_zero {a b : Int} (h : first2 a b = 0) : a = 0 ∧ b = 0 := by
  unfold first2 at h
  split at h
  · exact ⟨‹_›, h⟩
  · exact absurd h ‹_›
/-- An entry lies in its own stretch. -/
theorem stG_has : ∀ (ns : List Int) (of i f m : Int) (k : Nat), 0 ≤ m → 0 ≤ i → (0 < m → f ≤ i) → ns[k]? = some of → (stG of i f m ns).1 ≤ i + k ∧ 0 < (stG of i f m ns).2
  | [], of, i, f, m, k, _, _, _, h => by simp at h
  | n :: r, of, i, f, m, 0, hm, hi, hf, h => by
    simp at h
    subst h
    unfold stG
    rw [if_pos rfl]
    by_cases h0 : m = 0
    · rw [if_pos h0]
      have h1 := stG_mono r n (i + 1) i (m + 1) (by omega)
      omega
    · rw [if_neg h0]
      have h1 := stG_mono r n (i + 1) f (m + 1) (by omega)
      have := hf (by omega)
      omega
  | n :: r, of, i, f, m, k + 1, hm, hi, hf, h => by
    simp at h
    unfold stG
    split
    · by_cases h0 : m = 0
      · rw [if_pos h0]
        have := stG_has r of (i + 1) i (m + 1) k (by omega) (by omega) (by omega) h
        have h1 := stG_mono r of (i + 1) i (m + 1) (by omega)
        omega
      · rw [if_neg h0]
        have := stG_has r of (i + 1) f (m + 1) k (by omega) (by omega) (by have := hf (by omega); omega) h
        omega
    · have := stG_has r of (i + 1) f m k hm (by omega) (by intro h2; have := hf h2; omega) h
      omega
where stG_mono : ∀ (ns : List Int) (of i f m : Int), 0 < m → (stG of i f m ns).1 = f ∧ m ≤ (stG of i f m ns).2
  | [], of, i, f, m, _ => by simp [stG]
  | n :: r, of, i, f, m, h => by
    unfold stG
    split
    · rw [if_neg (by omega)]
      have := stG_mono r of (i + 1) f (m + 1) (by omega)
      omega
    · exact stG_mono r of (i + 1) f m h
theorem own_in (a : Lst) (i : Nat) (h : i < a.entries.length) : (stF a (ownN a i)).1 ≤ i ∧ 0 < (stF a (ownN a i)).2 := by
  have := stG_has (bnF a.breaks a.entries) (ownN a i) 0 0 0 i (by omega) (by omega) (by omega) (bnF_at a.entries a.breaks i h)
  unfold stF; omega
theorem datesF_len {es : List Ent} (h : (datesF es).2 = 0) : (datesF es).1.length = es.length := by
  unfold datesF at h ⊢
  split
  · simp [datO_len]
  · rename_i h1; rw [if_neg h1] at h; simp at h
theorem cut_at {ys : List Int} {f0 mn k : Nat} (hk : f0 ≤ k) (hk2 : k < f0 + mn) (hl : k < ys.length) : (cutL ys ((f0 : Int), (mn : Int))).drop (k - f0) = ys[k] :: (cutL ys ((f0 : Int), (mn : Int))).drop (k + 1 - f0) := by
  have h1 : k - f0 < (cutL ys ((f0 : Int), (mn : Int))).length := by simp [cutL]; omega
  rw [List.drop_eq_getElem_cons h1]
  congr 1
  · simp [cutL]; congr 1; omega
  · congr 1; omega
theorem cut_end {ys : List Int} {f0 mn k : Nat} (hk : f0 + mn ≤ k) : (cutL ys ((f0 : Int), (mn : Int))).drop (k - f0) = [] := by
  apply List.drop_eq_nil_of_le; simp [cutL]; omega
theorem begI_of {l : Lst} {k : Nat} (h : k < l.entries.length) : begI l k = begB l l.entries[k] k := by simp [begI, List.getElem?_eq_getElem h]
end Go.Proofs.Ytkfhfjcgegimbaa
