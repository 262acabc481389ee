/- What is proved here: lines of a text, and what strings.Cut and strings.Split return on plain data (no statement of the seat). -/
import Derived.Test.YtgkjfochkhiojaaDoorE8
import Derived.Test.YtgkjfochkhiojaaDoorE30
import Derived.Test.YtgkjfochkhiojaaDoorShelf
import Derived.Test.YtgkjfochkhiojaaDoorM8
import Derived.Test.YtgkjfochkhiojaaDoorM9
import Derived.Test.YtgkjfochkhiojaaDoorM10
import Derived.Lib.SplitLaws
namespace Go.Proofs.YtgkjfochkhiojaaDoor
open Go Go.RowKit
set_option linter.unusedVariables false
set_option linter.unusedSimpArgs false

def F.cutH (s p : ByteArray) : ByteArray := ⟨(Lib.cut (F.bs s) (F.bs p)).1.toArray⟩

def F.cutT (s p : ByteArray) : ByteArray := ⟨(Lib.cut (F.bs s) (F.bs p)).2.1.toArray⟩

def F.cutF (s p : ByteArray) : Bool := (Lib.cut (F.bs s) (F.bs p)).2.2

theorem F.cutH_size (s p : ByteArray) : (F.cutH s p).size ≤ s.size := by
  have hl := F.bs_len s
  show (Lib.cut (F.bs s) (F.bs p)).1.toArray.size ≤ _
  unfold Lib.cut
  split
  · simp only [List.size_toArray, List.length_take]; omega
  · simp only [List.size_toArray]; omega

theorem F.cutT_size (s p : ByteArray) : (F.cutT s p).size ≤ s.size := by
  have hl := F.bs_len s
  show (Lib.cut (F.bs s) (F.bs p)).2.1.toArray.size ≤ _
  unfold Lib.cut
  split
  · simp only [List.size_toArray, List.length_drop]; omega
  · simp

theorem F.cutT_lt {s p : ByteArray} (hp : 1 ≤ p.size) (hs : s.size ≠ 0) : (F.cutT s p).size < s.size := by
  have hl := F.bs_len s
  have hl2 := F.bs_len p
  show (Lib.cut (F.bs s) (F.bs p)).2.1.toArray.size < _
  unfold Lib.cut
  split
  · simp only [List.size_toArray, List.length_drop]; omega
  · simp; omega

def F.nl : ByteArray := ⟨⟨[10]⟩⟩

/-- The lines of a text, and whether they end. -/
def F.lns (s : ByteArray) : List (ByteArray × Bool) := if h : s.size = 0 then [] else (F.cutH s F.nl, F.cutF s F.nl) :: F.lns (F.cutT s F.nl)
termination_by s.size
decreasing_by exact F.cutT_lt (by decide) h

theorem F.lns_nil {s : ByteArray} (h : s.size = 0) : F.lns s = [] := by rw [F.lns, dif_pos h]

theorem F.lns_cons {s : ByteArray} (h : s.size ≠ 0) : F.lns s = (F.cutH s F.nl, F.cutF s F.nl) :: F.lns (F.cutT s F.nl) := by rw [F.lns, dif_neg h]

theorem F.cutT_end {s : ByteArray} (h : F.cutF s F.nl = false) : (F.cutT s F.nl).size = 0 := by
  unfold F.cutF at h
  show (Lib.cut (F.bs s) (F.bs F.nl)).2.1.toArray.size = 0
  unfold Lib.cut at h ⊢
  split at h
  · cases h
  · rename_i hc
    rw [if_neg hc]; rfl

def F.split (s sep : ByteArray) : List ByteArray := Lib.splitB sep 0 (Lib.countB s sep) s

theorem F.ext_size (s : ByteArray) (a b : Nat) : (s.extract a b).size ≤ s.size := by
  rw [ByteArray.size_extract]; omega

theorem F.splitB_size (sep : ByteArray) : ∀ (k : Nat) (s : ByteArray), ∀ x ∈ Lib.splitB sep 0 k s, x.size ≤ s.size
  | 0, s, x, h => by
    rw [Lib.splitB_zero, List.mem_singleton] at h
    rw [h]; exact Nat.le_refl _
  | k + 1, s, x, h => by
    unfold Lib.splitB at h
    split at h
    · rw [List.mem_singleton] at h
      rw [h]; exact Nat.le_refl _
    · rcases List.mem_cons.1 h with rfl | h
      · exact F.ext_size _ _ _
      · exact Nat.le_trans (F.splitB_size sep k _ x h) (F.ext_size _ _ _)

theorem F.split_size {s sep x : ByteArray} (h : x ∈ F.split s sep) : x.size ≤ s.size := F.splitB_size sep _ s x h

theorem F.split_len {s sep : ByteArray} (h1 : 1 ≤ sep.size) : (F.split s sep).length = Lib.countB s sep + 1 := Lib.splitB_all sep h1 0 _ s rfl

namespace M

theorem maxLen_of {w : World} {S : Nat → Prop} (hG : ∀ g r, noG g = some r → GlobAt w S g r) : ∃ m, w.cell? ⟨3, 0, none⟩ = some (.int .i64 m) := by
  obtain ⟨cs, ⟨m, h1⟩, h2⟩ := (hG 3 _ rfl).cell
  exact ⟨m, by rw [h2]; exact h1⟩

def encCut1 (s : ByteArray) (p : ByteArray) : List AV := [vS s, vS p]

def encCut (a : ByteArray × ByteArray) : List AV := encCut1 a.1 a.2

theorem encCut_inj (a a' : ByteArray × ByteArray) (h : encCut a = encCut a') : a = a' := by
  simp only [encCut, encCut1] at h
  try simp  at h
  grind

theorem unCut (s : ByteArray) (p : ByteArray) : unenc encCut ([(vS s), (vS p)]) = some (s, p) := unenc_of encCut_inj (s, p) rfl

def resCut1 (s : ByteArray) (p : ByteArray) : AV × Heap := (.tup [vS (F.cutH s p), vS (F.cutT s p), vB (F.cutF s p)], [])

def preCut1 (s : ByteArray) (p : ByteArray) : Bool := decide (s.size ≤ 4294967280)

noncomputable def oCut : Orc := orc 43 true encCut (fun a => preCut1 a.1 a.2) fun a => resCut1 a.1 a.2

theorem okCut : OrcOK Tryd.prog noG oCut := by
  refine orc_ok ⟨Tryd.f43, by kernel_rfl, by kernel_rfl, by kernel_rfl⟩ (fun x hp _ => ?_) (fun _ _ => ⟨rfl, rfl⟩)
  obtain ⟨s, p⟩ := x
  simp only [preCut1, decide_eq_true_eq] at hp
  have h1 := F.cutH_size s p
  have h2 := F.cutT_size s p
  refine SpecP.below2 (rv := .tuple #[.string (F.cutH s p), .string (F.cutT s p), .bool (F.cutF s p)]) (fun w S => ⟨[_, _, _], rfl, R0.v (by show (F.cutH s p).size ≤ 9223372036854775807; omega), R0.v (by show (F.cutT s p).size ≤ 9223372036854775807; omega), R0.v trivial, trivial⟩) fun hk _ w S hG => ?_
  obtain ⟨m, hm⟩ := maxLen_of hG
  refine (Tryd.strings_Cut s p m w (by omega) hm).mono ?_
  rintro e w' ⟨he, n, rfl⟩
  exact ⟨he, ⟨rfl, rfl, rfl, Nat.le_refl _, fun _ _ => rfl⟩⟩

theorem below_alloc (w : World) (o : Obj) : Below w.heap.size w (w.alloc o) :=
  ⟨rfl, rfl, rfl, by simp, fun k hk => by
    show (w.heap.push _)[k]? = _
    rw [Array.getElem?_push, if_neg (by omega)]⟩

/-- A new slice of strings reads as plain data. -/
theorem rv_strs (w : World) (S : Nat → Prop) (xs : List ByteArray) (t : TypeId) (hs : ∀ x ∈ xs, x.size ≤ 9223372036854775807) (hl : xs.length ≤ 9223372036854775807) :
    RV (w.alloc (.cells (xs.map Value.string).toArray t)) (fun b => S b ∨ b = w.heap.size) noKeys (.sl (xs.map eStr)) (.slice (some ⟨w.heap.size, 0, none⟩) xs.length xs.length) := by
  have hlen : (xs.map eStr).length = xs.length := by simp
  have hcell : ∀ (i : Nat) (x : ByteArray), xs[i]? = some x → (w.alloc (.cells (xs.map Value.string).toArray t)).cell? ⟨w.heap.size, i, none⟩ = some (.string x) := by
    intro i x hx
    have : (w.alloc (.cells (xs.map Value.string).toArray t)).heap[w.heap.size]? = some (.cells (xs.map Value.string).toArray t) := by
      show (w.heap.push _)[w.heap.size]? = _
      simp
    simp only [World.cell?, this]
    simp [hx]
  have := R0.sl (w := w.alloc (.cells (xs.map Value.string).toArray t)) (S := fun b => S b ∨ b = w.heap.size) (rows := xs.map eStr) (A := some ⟨w.heap.size, 0, none⟩) (cap := xs.length) (size := 1) (b := w.heap.size) (off := 0) (vals := fun i _ => .string (xs.getD i ⟨#[]⟩))
    (by rw [hlen]; exact Nat.le_refl _) hl (fun _ => ⟨rfl, .inr rfl⟩)
    (fun i row hi => by
      simp only [List.getElem?_map, Option.map_eq_some_iff] at hi
      obtain ⟨x, _, rfl⟩ := hi
      rfl)
    (fun i j row a hi hj => by
      simp only [List.getElem?_map, Option.map_eq_some_iff] at hi
      obtain ⟨x, hx, rfl⟩ := hi
      have hj0 : j = 0 := by
        have := (List.getElem?_eq_some_iff.1 hj).1
        simp [eStr] at this; omega
      subst hj0
      rw [getD_at hx, show 0 + i * 1 + 0 = i by omega]
      exact hcell i x hx)
    (fun i j row a hi hj => by
      simp only [List.getElem?_map, Option.map_eq_some_iff] at hi
      obtain ⟨x, hx, rfl⟩ := hi
      have hj0 : j = 0 := by
        have := (List.getElem?_eq_some_iff.1 hj).1
        simp [eStr] at this; omega
      subst hj0
      simp only [eStr, List.getElem?_cons_zero, Option.some.injEq] at hj
      subst hj
      rw [getD_at hx]
      exact .v (hs x (List.mem_of_getElem? hx)))
  rw [hlen] at this
  exact this

def encSpl1 (s : ByteArray) (sep : ByteArray) : List AV := [vS s, vS sep]

def encSpl (a : ByteArray × ByteArray) : List AV := encSpl1 a.1 a.2

theorem encSpl_inj (a a' : ByteArray × ByteArray) (h : encSpl a = encSpl a') : a = a' := by
  simp only [encSpl, encSpl1] at h
  try simp  at h
  grind

theorem unSpl (s : ByteArray) (sep : ByteArray) : unenc encSpl ([(vS s), (vS sep)]) = some (s, sep) := unenc_of encSpl_inj (s, sep) rfl

def resSpl1 (s : ByteArray) (sep : ByteArray) : AV × Heap := (.sl ((F.split s sep).map eStr), [])

def preSpl1 (s : ByteArray) (sep : ByteArray) : Bool := decide (s.size ≤ 4294967280) && decide (1 ≤ sep.size)

end M
end Go.Proofs.YtgkjfochkhiojaaDoor
