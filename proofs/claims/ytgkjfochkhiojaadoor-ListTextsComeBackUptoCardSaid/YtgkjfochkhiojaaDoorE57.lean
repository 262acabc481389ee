/- What is proved here: bytes of texts, and where a byte is found first, on plain data (no statement of the seat). -/
import Derived.Test.YtgkjfochkhiojaaDoorE51
namespace Go.Proofs.YtgkjfochkhiojaaDoor
open Go Go.RowKit
set_option linter.unusedVariables false
set_option linter.unusedSimpArgs false

theorem F.bsx {a b : ByteArray} (h : F.bs a = F.bs b) : a = b := ByteArray.ext (Array.ext' h)

theorem F.bs_mk (l : List UInt8) : F.bs ⟨l.toArray⟩ = l := by simp [F.bs]

theorem F.bs_app (a b : ByteArray) : F.bs (a ++ b) = F.bs a ++ F.bs b := by simp [F.bs]

theorem F.seq_iff {a b : ByteArray} : F.seq a b = true ↔ a = b := by
  unfold F.seq
  rw [beq_iff_eq, ByteArray.toList_eq, ByteArray.toList_eq]
  exact ⟨fun h => F.bsx h, fun h => by rw [h]⟩

theorem F.index_first {c : UInt8} : ∀ {x : List UInt8} {r : List UInt8}, c ∉ x → Lib.indexByte (x ++ c :: r) c = (x.length : Int)
  | [], r, _ => by simp [Lib.indexByte]
  | b :: x, r, h => by
    have hb : (b == c) = false := by
      simp only [beq_eq_false_iff_ne]
      intro e; exact h (by rw [e]; exact List.mem_cons_self ..)
    have ih := F.index_first (x := x) (r := r) (fun hm => h (List.mem_cons_of_mem _ hm))
    rw [List.cons_append, Lib.indexByte, hb, ih]
    have h2 : ((x.length : Int) == -1) = false := by
      rw [beq_eq_false_iff_ne]; omega
    rw [if_neg (by simp), if_neg (by simp [h2])]
    simp

theorem F.index_no {c : UInt8} : ∀ {x : List UInt8}, c ∉ x → Lib.indexByte x c = -1
  | [], _ => rfl
  | b :: x, h => by
    have hb : (b == c) = false := by
      simp only [beq_eq_false_iff_ne]
      intro e; exact h (by rw [e]; exact List.mem_cons_self ..)
    rw [Lib.indexByte, hb, F.index_no (x := x) fun hm => h (List.mem_cons_of_mem _ hm)]
    rfl

theorem F.indexByte_at : ∀ {l : List UInt8} {c : UInt8} {i : Nat}, Lib.indexByte l c = i → l = l.take i ++ c :: l.drop (i + 1)
  | [], c, i, h => by
    have h : (-1 : Int) = i := h
    omega
  | b :: l, c, i, h => by
    unfold Lib.indexByte at h
    split at h
    · rename_i hb
      have : i = 0 := by omega
      subst this
      have hb : b = c := by simpa using hb
      simp [hb]
    · split at h
      · omega
      · rename_i hn
        have hn : Lib.indexByte l c ≠ -1 := by simpa using hn
        cases i with
        | zero =>
          have := Lib.indexByte_ge l c
          omega
        | succ i =>
          have ih := F.indexByte_at (l := l) (c := c) (i := i) (by omega)
          simp only [List.take_succ_cons, List.drop_succ_cons, List.cons_append]
          congr 1

end Go.Proofs.YtgkjfochkhiojaaDoor
