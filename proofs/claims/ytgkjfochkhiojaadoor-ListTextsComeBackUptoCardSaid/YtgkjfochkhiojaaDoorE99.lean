/- What is proved here: what strconv.Itoa returns (no statement of the seat). -/
import Derived.Test.YtgkjfochkhiojaaDoorE30
import Derived.Test.YtgkjfochkhiojaaDoorM8
import Derived.Test.YtgkjfochkhiojaaDoorShelf
import Derived.Lib.ItoaLen
namespace Go.Proofs.YtgkjfochkhiojaaDoor
open Go Go.RowKit Go.Sort
set_option linter.unusedVariables false
set_option linter.unusedSimpArgs false

def F.itoa (n : Int) : ByteArray := ⟨(Lib.itoa n).toArray⟩

theorem F.itoa_size {n : Int} (h0 : -9223372036854775808 ≤ n) (h1 : n ≤ 9223372036854775807) : (F.itoa n).size ≤ 21 := by
  have := Lib.itoa_length_le n h0 h1
  show (Lib.itoa n).toArray.size ≤ 21
  simpa using this

namespace M


theorem below_grow (w : World) (k : Nat) (os : Array Obj) : Below w.heap.size w (grow (w.drewN k) os) :=
  ⟨rfl, rfl, rfl, by first | (simp [grow]; done) | (simp [grow]; omega), fun i hi => by
    show ((w.drewN k).heap ++ os)[i]? = _
    rw [Array.getElem?_append_left (by show i < w.heap.size; omega)]
    rfl⟩

def encIta1 (n : Int) : List AV := [vI n]

def encIta (a : Int) : List AV := encIta1 a

theorem encIta_inj (a a' : Int) (h : encIta a = encIta a') : a = a' := by
  simp only [encIta, encIta1] at h
  try simp [strs_inj, ents_inj, eEnt_iff, eLst_iff] at h
  grind

theorem unIta (n : Int) : unenc encIta ([(vI n)]) = some (n) := unenc_of encIta_inj (n) rfl

def resIta1 (n : Int) : AV × Heap := (vS (F.itoa n), [])

def preIta1 (n : Int) : Bool := decide (-9223372036854775808 ≤ n) && decide (n ≤ 9223372036854775807)

noncomputable def oIta : Orc := orc 20 true encIta (fun a => preIta1 a) fun a => resIta1 a

theorem okIta : OrcOK Tryd.prog noG oIta := by
  refine orc_ok ⟨Tryd.f20, by kernel_rfl, by kernel_rfl, by kernel_rfl⟩ (fun n hp _ => ?_) (fun _ _ => ⟨rfl, rfl⟩)
  simp only [preIta1, Bool.and_eq_true, decide_eq_true_eq] at hp
  have hz := F.itoa_size hp.1 hp.2
  refine SpecP.below1 (fun w S => rv_mk (by show (F.itoa n).size ≤ 9223372036854775807; omega)) fun _ w S hG => ?_
  have hg := hG 2 ⟨[], fun cs => cs = (Lib.pow10Tab.map fun z => Value.int .u64 z).toArray⟩ rfl
  obtain ⟨cs, ty, o, h1, h2⟩ := hg.cells
  have htab : Lib.TabIs Tryd.prog w "internal/strconv.uint64pow10" .u64 Lib.pow10Tab := by
    have hn : Tryd.prog.globalNamed "internal/strconv.uint64pow10" = some 2 := by kernel_rfl
    simp only [Lib.TabIs, World.var?, hn, Option.bind_some, h1]
    rw [h2]
  refine (Tryd.strconv_Itoa n hp.1 hp.2 w htab).mono ?_
  rintro e w' ⟨he, k, os, rfl⟩
  exact ⟨he, below_grow w k os⟩

end M
end Go.Proofs.YtgkjfochkhiojaaDoor
