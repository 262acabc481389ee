/- What is proved here: the loops of Long of the program (no statement of the seat). -/
import Derived.Test.YthcfbeckhgngiaaGreatDoorC150
import Derived.Test.YthcfbeckhgngiaaGreatDoorC143
import Derived.Test.YthcfbeckhgngiaaGreatDoorC144
import Derived.Lib.ReplaceLaws
namespace Go.Proofs.YthcfbeckhgngiaaGreatDoor
open Go Go.RowKit
set_option linter.unusedVariables false
set_option linter.unusedSimpArgs false

namespace F

/-- The lines of a caption behind a text. -/
def lgW : List ByteArray → ByteArray → ByteArray
  | [], acc => acc
  | x :: r, acc => lgW r (acc ++ (esc x ++ nl))

/-- The head of a caption behind a text. -/
def lgH (c : Cap) (acc : ByteArray) : ByteArray :=
  (bif c.aft then (bif c.bef then (bif c.row != 0 then acc ++ tms c dot ++ (lineB ++ itoa c.row) else acc ++ tms c dot) ++ befB else (bif c.row != 0 then acc ++ tms c dot ++ (lineB ++ itoa c.row) else acc ++ tms c dot)) ++ aftB
    else (bif c.bef then (bif c.row != 0 then acc ++ tms c dot ++ (lineB ++ itoa c.row) else acc ++ tms c dot) ++ befB else (bif c.row != 0 then acc ++ tms c dot ++ (lineB ++ itoa c.row) else acc ++ tms c dot))) ++ nl

def lgC (c : Cap) (acc : ByteArray) : ByteArray := lgW c.lines (lgH c acc) ++ nl

def lgA1 : List Cap → ByteArray → ByteArray
  | [], acc => acc
  | c :: r, acc => lgA1 r (lgC c acc)

def web2 : ByteArray := ⟨⟨[87, 69, 66, 86, 84, 84, 10, 10]⟩⟩

def longT (l : List Cap) : ByteArray := lgA1 l web2

def longS (l : List Cap) : ByteArray := bif chkC l != 0 then ⟨⟨[]⟩⟩ else bndS (longT l)

def longF (l : List Cap) : Int := bif chkC l != 0 then chkC l else bndF (longT l)

theorem rpl1_size {y : ByteArray} (h : y.size ≤ 200) : (rpl y ampB amp5).size ≤ 1000 := by
  have key : ∀ l : List UInt8, (l.flatMap fun b => bif b == 38 then [38, 97, 109, 112, 59] else [b]).length ≤ 5 * l.length := fun l => by
    induction l with
    | nil => exact Nat.le_refl _
    | cons b l ih =>
      rw [List.flatMap_cons, List.length_append, List.length_cons]
      cases b == 38
      · simp only [cond_false, List.length_singleton]; omega
      · simp only [cond_true, List.length_cons, List.length_nil]; omega
  have := key (bs y)
  rw [size_bs, show bs (rpl y ampB amp5) = _ from bs_rpl y 38 [38, 97, 109, 112, 59] (by decide)]
  rw [← size_bs] at this
  omega

theorem lgW_size : ∀ (m : List ByteArray) (s : ByteArray), (∀ x ∈ m, x.size ≤ 200) → (lgW m s).size ≤ s.size + 1001 * m.length ∧ s.size ≤ (lgW m s).size
  | [], s, _ => ⟨Nat.le_refl _, Nat.le_refl _⟩
  | x :: r, s, h => by
    have h1 := lgW_size r (s ++ (esc x ++ nl)) fun y hy => h y (List.mem_cons_of_mem _ hy)
    have h2 := (esc_size x).2
    have h3 := h x (List.mem_cons_self ..)
    have h4 : nl.size = 1 := rfl
    rw [ByteArray.size_append, ByteArray.size_append, h4] at h1
    rw [lgW, List.length_cons]
    omega

theorem lgH_size {c : Cap} (acc : ByteArray) (h : capW c = true) : (lgH c acc).size ≤ acc.size + 80 ∧ acc.size ≤ (lgH c acc).size := by
  obtain ⟨h1, h2, h3, h4, h5, h6, h7, h8, h9⟩ := capW_spec h
  have a1 := itoa_size (n := c.row) (by omega) (by omega)
  have a2 := tms_size h (show dot.size = 1 from rfl)
  unfold lgH
  cases c.aft <;> cases c.bef <;> cases (c.row != 0) <;> simp only [cond_true, cond_false, ByteArray.size_append, a2, show nl.size = 1 from rfl, show lineB.size = 6 from rfl, show befB.size = 7 from rfl, show aftB.size = 6 from rfl] <;> omega

theorem lgC_size {c : Cap} (acc : ByteArray) (h : capW c = true) : (lgC c acc).size ≤ acc.size + 16000 ∧ acc.size ≤ (lgC c acc).size := by
  obtain ⟨h1, h2, h3, h4, h5, h6, h7, h8, h9⟩ := capW_spec h
  have a1 := lgH_size acc h
  have a2 := lgW_size c.lines (lgH c acc) fun x hx => line_size (h9 x hx)
  unfold lgC
  rw [ByteArray.size_append, show nl.size = 1 from rfl]
  omega

end F

namespace M

theorem SpecP.below3 {P : Program} {G : Nat → Option GR} {f : FuncId} {x y z : Value} {r : AV} {rv : Value} (hr : ∀ w S, RV w S noKeys r rv)
    (h : okAtom x → okAtom y → okAtom z → ∀ w (S : Nat → Prop), (∀ g r, G g = some r → GlobAt w S g r) → Calls P f #[x, y, z] w fun e w' => e = .returned rv ∧ Below w.heap.size w w') : SpecP P G f [.v x, .v y, .v z] r [] := by
  intro w S cargs hlt hg hargs
  match cargs, hargs with
  | [u, v, t], ⟨h1, h2, h3, _⟩ =>
    obtain ⟨rfl, k1⟩ := rv_v h1
    obtain ⟨rfl, k2⟩ := rv_v h2
    obtain ⟨rfl, k3⟩ := rv_v h3
    refine (h k1 k2 k3 w S hg).mono ?_
    rintro e w' ⟨rfl, hb⟩
    exact ⟨rv, S, noKeys, rfl, hb, fun _ h => h, fun _ h => .inl h, fun b h => Nat.lt_of_lt_of_le (hlt b h) hb.size, (fun _ _ _ _ h => by cases h), (fun _ _ h => by cases h), (fun _ _ h => by cases h), (fun _ _ h => by cases h), hr _ _⟩

theorem evBndL (s : ByteArray) : (runF en0 false Tryz.f27 [vS s]).val =
  bif decide ((200000 : Int) < (↑(ByteArray.size s) : Int)) then some (AV.tup [(vS (ByteArray.mk (Array.mk []))), (vI (2 : Int))], []) else some (AV.tup [(vS s), (vI (0 :
  Int))], []) := (runFR_val).symm.trans (by kernel_rfl)

def encBndL1 (s : ByteArray) : List AV := [vS s]

def encBndL (a : ByteArray) : List AV := encBndL1 a

theorem encBndL_inj (a a' : ByteArray) (h : encBndL a = encBndL a') : a = a' := by
  simp only [encBndL, encBndL1] at h
  try simp [strs_inj, ints_inj, bools_inj, eL_eIs_inj, eCaps_inj, eCap_iff, eL_eCaps_inj, eMchs_inj, eMch_iff, eWrds_inj, eWrd_iff, eFnds_inj, eFnd_iff, eRatios_inj, eRatio_iff, eWays_inj, eWay_iff, eUs_inj] at h
  grind

theorem unBndL (s : ByteArray) : unenc encBndL ([(vS s)]) = some (s) := unenc_of encBndL_inj (s) rfl

def resBndL1 (s : ByteArray) : AV × Heap := (.tup [vS (F.bndS s), vI (F.bndF s)], [])

def preBndL1 (s : ByteArray) : Bool := true

noncomputable def oBndL : Orc := orc 27 true encBndL (fun a => preBndL1 a) fun a => resBndL1 a

theorem okBndL : OrcOK Tryz.prog noG oBndL := by
  refine mk_ok Tryz.f27 (keep := false) (by kernel_rfl) (by kernel_rfl) en0_ok mixed (no_loops (by kernel_rfl)) (by first | exact fun _ _ => ⟨rfl, rfl⟩ | (intro h; cases h)) ?_
  rintro s hpre hok
  show (runF en0 false _ (encBndL1 _)).val = some (resBndL1 _)
  unfold encBndL1 resBndL1
  rw [evBndL]
  simp only [etaCap, etaMch, etaWrd, etaFnd, etaRatio, etaWay, Option.bind_some, List.length_map, unStrs, unInts, unBools, uneL_eIs, unCaps, uneL_eCaps, unMchs, unWrds, unFnds, unRatios, unWays, F.lt, F.le, cond_true, cond_false, Bool.and_true, Bool.true_and, unWstU, unBstU, F.bldS_some, F.bldLen_some, F.bndS, F.bndF]
  by_cases h : 200000 < s.size
  · rw [decide_eq_true h, decide_eq_true (show (200000 : Int) < s.size by omega)]; rfl
  · rw [decide_eq_false h, decide_eq_false (show ¬ (200000 : Int) < s.size by omega)]; rfl

def encRAll1 (s : ByteArray) (old : ByteArray) (new : ByteArray) : List AV := [vS s, vS old, vS new]

def encRAll (a : ByteArray × ByteArray × ByteArray) : List AV := encRAll1 a.1 a.2.1 a.2.2

theorem encRAll_inj (a a' : ByteArray × ByteArray × ByteArray) (h : encRAll a = encRAll a') : a = a' := by
  simp only [encRAll, encRAll1] at h
  try simp [strs_inj, ints_inj, bools_inj, eL_eIs_inj, eCaps_inj, eCap_iff, eL_eCaps_inj, eMchs_inj, eMch_iff, eWrds_inj, eWrd_iff, eFnds_inj, eFnd_iff, eRatios_inj, eRatio_iff, eWays_inj, eWay_iff, eUs_inj] at h
  grind

theorem unRAll (s : ByteArray) (old : ByteArray) (new : ByteArray) : unenc encRAll ([(vS s), (vS old), (vS new)]) = some (s, old, new) := unenc_of encRAll_inj (s, old, new) rfl

def resRAll1 (s : ByteArray) (old : ByteArray) (new : ByteArray) : AV × Heap := (vS (F.rpl s old new), [])

def preRAll1 (s : ByteArray) (old : ByteArray) (new : ByteArray) : Bool := decide (s.size ≤ 100000) && decide (old.size = 1) && decide (new.size ≤ 5) && decide ((F.rpl s old new).size ≤ 1000000)

noncomputable def oRAll : Orc := orc 26 true encRAll (fun a => preRAll1 a.1 a.2.1 a.2.2) fun a => resRAll1 a.1 a.2.1 a.2.2

theorem okRAll : OrcOK Tryz.prog noG oRAll := by
  refine orc_ok ⟨Tryz.f26, by kernel_rfl, by kernel_rfl, by kernel_rfl⟩ (fun x hp _ => ?_) (fun _ _ => ⟨rfl, rfl⟩)
  obtain ⟨s, old, new⟩ := x
  simp only [preRAll1, Bool.and_eq_true, decide_eq_true_eq] at hp
  obtain ⟨⟨⟨h1, h2⟩, h3⟩, h4⟩ := hp
  have hc := Lib.countB_mul_le old (by omega) s.size s (Nat.le_refl _)
  rw [h2, Nat.mul_one] at hc
  have hm : Lib.countB s old * new.size ≤ 100000 * 5 := Nat.mul_le_mul (by omega) h3
  refine SpecP.below3 (fun w S => rv_mk (by show (F.rpl s old new).size ≤ 9223372036854775807; omega)) fun _ _ _ w S hG => ?_
  obtain ⟨m, hm2⟩ := maxLen_of hG
  refine (Tryz.strings_ReplaceAll s old new m w (by omega) hm2 (by omega) (by omega)).mono ?_
  rintro e w' ⟨he, hb⟩
  exact ⟨he, hb⟩

def stLgi (l : List Cap) (ls : List ByteArray) (k : Nat) (s : ByteArray) (j : Nat) : St := ⟨[(43, vI j), (42, vI ls.length), (41, .sl (ls.map eStr)), (18, vI k), (17, vI l.length), (16, .sl (l.map eCap)), (5, .ptr 5 0 0)], [(16000, ⟨false, 5, 1, F.eUs s⟩), (5, ⟨true, 55, 0, [[.ptr 5 0 0, .own 16000]]⟩)]⟩

def stLgi1 (a : (List Cap) × (List ByteArray) × Nat × ByteArray × Nat) : St := stLgi a.1 a.2.1 a.2.2.1 a.2.2.2.1 a.2.2.2.2

theorem stLgi_inj (a a' : (List Cap) × (List ByteArray) × Nat × ByteArray × Nat) (h : stLgi1 a = stLgi1 a') : a = a' := by
  simp only [stLgi1, stLgi] at h
  try simp [strs_inj, ints_inj, bools_inj, eL_eIs_inj, eCaps_inj, eCap_iff, eL_eCaps_inj, eMchs_inj, eMch_iff, eWrds_inj, eWrd_iff, eFnds_inj, eFnd_iff, eRatios_inj, eRatio_iff, eWays_inj, eWay_iff, eUs_inj] at h
  grind

theorem unstLgi (l : List Cap) (ls : List ByteArray) (k : Nat) (s : ByteArray) (j : Nat) : unenc stLgi1 (St.mk [(43, (vI (↑j : Int))), (42, (vI (↑(List.length ls) : Int))), (41, AV.sl (List.map eStr ls)), (18, (vI (↑k : Int))), (17, (vI (↑(List.length l) : Int))), (16, AV.sl
  (List.map eCap l)), (5, .ptr 5 0 0)] [(16000, Blk.mk false 5 1 (F.eUs s)), (5, Blk.mk true 55 0 [[.ptr 5 0 0, .own 16000]])]) = some (l, ls, k, s, j) := unenc_of stLgi_inj (l, ls, k, s, j) rfl

theorem unstLgi0 (l : List Cap) (ls : List ByteArray) (k : Nat) (s : ByteArray)  : unenc stLgi1 (St.mk [(43, (vI (0 : Int))), (42, (vI (↑(List.length ls) : Int))), (41, AV.sl (List.map eStr ls)), (18, (vI (↑k : Int))), (17, (vI (↑(List.length l) : Int))), (16, AV.sl
  (List.map eCap l)), (5, .ptr 5 0 0)] [(16000, Blk.mk false 5 1 (F.eUs s)), (5, Blk.mk true 55 0 [[.ptr 5 0 0, .own 16000]])]) = some (l, ls, k, s, 0) := unenc_of stLgi_inj (l, ls, k, s, 0) rfl

def outLgi (l : List Cap) (ls : List ByteArray) (k : Nat) (s : ByteArray) (j : Nat) : T (Ex × St) := .ret (.exit 2, ⟨[(18, vI k), (17, vI l.length), (16, .sl (l.map eCap)), (5, .ptr 5 0 0)], [(16000, ⟨false, 5, 1, F.eUs (F.lgW (ls.drop j) s)⟩), (5, ⟨true, 55, 0, [[.ptr 5 0 0, .own 16000]]⟩)]⟩)

noncomputable def prlLgi (l : List Cap) (ls : List ByteArray) (k : Nat) (s : ByteArray) (j : Nat) : Bool := F.allL ls && decide (ls.length ≤ 15) && decide (j ≤ ls.length) && decide (s.size ≤ 100000000)

noncomputable def lpLgi : Nat × (St → T (Ex × St)) := (18, lpo [43, 42, 41, 18, 17, 16, 5] [16000, 5] stLgi1 (fun a => prlLgi a.1 a.2.1 a.2.2.1 a.2.2.2.1 a.2.2.2.2) fun a => outLgi a.1 a.2.1 a.2.2.1 a.2.2.2.1 a.2.2.2.2)

def stLgp (l : List Cap) (s : ByteArray) (k : Nat) : St := ⟨[(18, vI k), (17, vI l.length), (16, .sl (l.map eCap)), (5, .ptr 5 0 0)], [(16000, ⟨false, 5, 1, F.eUs s⟩), (5, ⟨true, 55, 0, [[.ptr 5 0 0, .own 16000]]⟩)]⟩

def stLgp1 (a : (List Cap) × ByteArray × Nat) : St := stLgp a.1 a.2.1 a.2.2

theorem stLgp_inj (a a' : (List Cap) × ByteArray × Nat) (h : stLgp1 a = stLgp1 a') : a = a' := by
  simp only [stLgp1, stLgp] at h
  try simp [strs_inj, ints_inj, bools_inj, eL_eIs_inj, eCaps_inj, eCap_iff, eL_eCaps_inj, eMchs_inj, eMch_iff, eWrds_inj, eWrd_iff, eFnds_inj, eFnd_iff, eRatios_inj, eRatio_iff, eWays_inj, eWay_iff, eUs_inj] at h
  grind

theorem unstLgp (l : List Cap) (s : ByteArray) (k : Nat) : unenc stLgp1 (St.mk [(18, (vI (↑k : Int))), (17, (vI (↑(List.length l) : Int))), (16, AV.sl (List.map eCap l)), (5, .ptr 5 0 0)] [(16000, Blk.mk false 5 1 (F.eUs s)), (5, Blk.mk true 55
  0 [[.ptr 5 0 0, .own 16000]])]) = some (l, s, k) := unenc_of stLgp_inj (l, s, k) rfl

theorem unstLgp0 (l : List Cap)  : unenc stLgp1 (St.mk [(18, (vI (0 : Int))), (17, (vI (↑(List.length l) : Int))), (16, AV.sl (List.map eCap l)), (5, .ptr 5 0 0)] [(16000, Blk.mk false 5 1 (F.eUs (ByteArray.mk (Array.mk
  [(87 : UInt8), (69 : UInt8), (66 : UInt8), (86 : UInt8), (84 : UInt8), (84 : UInt8), (10 : UInt8), (10 : UInt8)])))), (5, Blk.mk true 55 0 [[.ptr 5 0 0, .own 16000]])]) = some (l, ⟨⟨[87, 69, 66, 86, 84, 84, 10, 10]⟩⟩, 0) := unenc_of stLgp_inj (l, ⟨⟨[87, 69, 66, 86, 84, 84, 10, 10]⟩⟩, 0) rfl

def outLgp (l : List Cap) (s : ByteArray) (k : Nat) : T (Ex × St) := .ret (.exit 0, ⟨[(5, .ptr 5 0 0)], [(16000, ⟨false, 5, 1, F.eUs (F.lgA1 (l.drop k) s)⟩), (5, ⟨true, 55, 0, [[.ptr 5 0 0, .own 16000]]⟩)]⟩)

noncomputable def prlLgp (l : List Cap) (s : ByteArray) (k : Nat) : Bool := l.all F.capW && decide (l.length ≤ 500) && decide (k ≤ l.length) && decide (s.size ≤ 100 + 16000 * k)

noncomputable def lpLgp : Nat × (St → T (Ex × St)) := (7, lpo [18, 17, 16, 5] [16000, 5] stLgp1 (fun a => prlLgp a.1 a.2.1 a.2.2) fun a => outLgp a.1 a.2.1 a.2.2)

noncomputable def enLgp : Env := envH ty noG lks [oChC, oIta, oTms, oRAll, oBndL] [oWst, oBst] [] [lpLgp, lpLgi]

theorem enLgp_ok : EnvOK Tryz.prog enLgp := by
  refine envH_ok lks_ok ty_ok ?_ ?_
  · simp only [List.forall_mem_cons]
    exact ⟨okChC, okIta, okTms, okRAll, okBndL, by simp⟩
  · simp only [List.forall_mem_cons]
    exact ⟨okWst, okBst, by simp⟩

theorem evLgiL (l : List Cap) (ls : List ByteArray) (k : Nat) (s : ByteArray) (j : Nat) : ((exec enLgp (loopN Tryz.f9 1) (stLgi l ls k s j)).bind (lessX ([43, 42, 41, 18, 17, 16, 5], [16000, 5]) ([18, 17, 16, 5], [16000, 5]) ([], []))).val =
  bif decide ((↑j : Int) < (↑(List.length ls) : Int)) then Option.bind (unenc (List.map eStr) (List.map eStr ls)) fun (z : List ByteArray) => bif decide (j < List.length z) then Option.bind (unenc encRAll [(vS (List.getD z j (ByteArray.mk (Array.mk [])))), (vS (ByteArray.mk (Array.mk [(38 : UInt8)]))), (vS (ByteArray.mk (Array.mk [(38 : UInt8), (97 : UInt8), (109 : UInt8), (112 : UInt8), (59 : UInt8)])))]) fun (z : ByteArray × ByteArray × ByteArray) => bif decide (ByteArray.size z.fst ≤ (100000 : Nat)) && decide (ByteArray.size z.snd.fst = (1 : Nat)) && decide (ByteArray.size z.snd.snd ≤ (5 : Nat)) && decide (ByteArray.size (F.rpl z.fst z.snd.fst z.snd.snd) ≤ (1000000 : Nat)) then Option.bind (unenc encRAll [(vS (F.rpl z.fst z.snd.fst z.snd.snd)), (vS (ByteArray.mk (Array.mk [(60 : UInt8)]))), (vS (ByteArray.mk (Array.mk [(38 : UInt8), (108 : UInt8), (116 : UInt8), (59 : UInt8)])))]) fun (z : ByteArray × ByteArray × ByteArray) => bif decide (ByteArray.size z.fst ≤ (100000 : Nat)) && decide (ByteArray.size z.snd.fst = (1 : Nat)) && decide (ByteArray.size z.snd.snd ≤ (5 : Nat)) && decide (ByteArray.size (F.rpl z.fst z.snd.fst z.snd.snd) ≤ (1000000 : Nat)) then bif Nat.ble (ByteArray.size (F.rpl z.fst z.snd.fst z.snd.snd) + ByteArray.size (ByteArray.mk (Array.mk [(10 : UInt8)]))) (9223372036854775807 : Nat) then Option.bind (unenc encWst ([.ptr 900 0 0, (vS (F.rpl z.fst z.snd.fst z.snd.snd ++ ByteArray.mk (Array.mk [(10 : UInt8)])))], [(901, Blk.mk false 5 1 (F.eUs s)), (900, Blk.mk true 55 0 [[.ptr 900 0 0, .own 901]])])) fun (z : Option ByteArray × ByteArray) => bif decide (F.bldLen z.fst + ByteArray.size z.snd ≤ (140737488355328 : Nat)) then bif match z.fst with | some val => false | none => true then none else some (Ex.normal, St.mk [(43, (vI (IntKind.wrap IntKind.i64 ((↑j : Int) + (1 : Int))))), (42, (vI (↑(List.length ls) : Int))), (41, AV.sl (List.map eStr ls)), (18, (vI (↑k : Int))), (17, (vI (↑(List.length l) : Int))), (16, AV.sl (List.map eCap l)), (5, .ptr 5 0 0)] [(16000, Blk.mk false 5 1 (F.eUs (F.bldS z.fst ++ z.snd))), (5, Blk.mk true 55 0 [[.ptr 5 0 0, .own 16000]])]) else none else none else none else none else none else some (Ex.exit (2 : Nat), St.mk [(18, (vI (↑k : Int))), (17, (vI (↑(List.length l) : Int))), (16, AV.sl (List.map eCap l)), (5, .ptr 5 0 0)] [(16000, Blk.mk false 5 1 (F.eUs s)), (5, Blk.mk true 55 0 [[.ptr 5 0 0, .own 16000]])]) := (execR_bind _ _ _).symm.trans (by kernel_rfl)

theorem lpLgi_ok (l : List Cap) (ls : List ByteArray) (k : Nat) (s : ByteArray) (j : Nat) (hp : prlLgi l ls k s j = true) : ∀ ex s', (outLgi l ls k s j).val = some (ex, s') → LoopOK enLgp (loopN Tryz.f9 1) (stLgi l ls k s j) ex s' := by
  simp only [prlLgi, Bool.and_eq_true, decide_eq_true_eq] at hp
  obtain ⟨⟨⟨h1, h2⟩, h3⟩, h4⟩ := hp
  have hw := List.all_eq_true.1 (h1 : ls.all F.line = true)
  have hx : ls.length ≤ 9223372036854775807 := by omega
  refine loop_gen (st := fun b : ByteArray × Nat => stLgi l ls k b.1 b.2) (out := fun b => outLgi l ls k b.1 b.2) (I := fun b => b.2 ≤ ls.length ∧ b.1.size ≤ 100000000 + 1001 * b.2) (n := ([43, 42, 41, 18, 17, 16, 5], [16000, 5])) (e := ([18, 17, 16, 5], [16000, 5])) (r := ([], [])) (fun b => ls.length - b.2) ?_ (s, j) ⟨h3, by simp only; omega⟩
  rintro ⟨s, j⟩ ⟨i1, i2⟩
  simp only at i1 i2
  by_cases hlt : j < ls.length
  · have hy : ls[j]? = some ls[j] := List.getElem?_eq_getElem hlt
    generalize ls[j] = y at hy
    have hd := drop_q hy
    have hl := hw y (List.mem_of_getElem? hy)
    have hs := F.line_size hl
    have e1 := (F.esc_size y).2
    have ee : F.rpl (F.rpl y (ByteArray.mk (Array.mk [38])) (ByteArray.mk (Array.mk [38, 97, 109, 112, 59]))) (ByteArray.mk (Array.mk [60])) (ByteArray.mk (Array.mk [38, 108, 116, 59])) = F.esc y := rfl
    have er : (F.rpl y (ByteArray.mk (Array.mk [38])) (ByteArray.mk (Array.mk [38, 97, 109, 112, 59]))).size ≤ 1000 := F.rpl1_size hs
    right
    refine ⟨(s ++ (F.esc y ++ F.nl), j + 1), ?_, rfl, ⟨by simp only; omega, by simp only [ByteArray.size_append, show F.nl.size = 1 from rfl]; omega⟩, by simp only; omega, ?_⟩
    · rw [evLgiL]
      simp only [unChC, unIta, unTms, unRAll, unBndL, unWst, unBst, unTmsw, preChC1, preIta1, preTms1, preRAll1, preBndL1, preWst1, preBst1, unstLgp, unstLgi, unstLgp0, unstLgi0, prlLgp, prlLgi, outLgp, outLgi, etaCap, etaMch, etaWrd, etaFnd, etaRatio, etaWay, Option.bind_some, List.length_map, unStrs, unInts, unBools, uneL_eIs, unCaps, uneL_eCaps, unMchs, unWrds, unFnds, unRatios, unWays, F.lt, F.le, cond_true, cond_false, Bool.and_true, Bool.true_and, unWstU, unBstU, F.bldS_some, F.bldLen_some, cast_lt hlt, decide_eq_true hlt, getD_at hy, next_at hlt hx, ee]
      simp only [ByteArray.size_append, show (ByteArray.mk (Array.mk [10])).size = 1 from rfl, show (ByteArray.mk (Array.mk [38])).size = 1 from rfl, show (ByteArray.mk (Array.mk [60])).size = 1 from rfl, show (ByteArray.mk (Array.mk [38, 97, 109, 112, 59])).size = 5 from rfl, show (ByteArray.mk (Array.mk [38, 108, 116, 59])).size = 4 from rfl]
      simp (disch := omega) only [decide_eq_true, ble_t, cond_true, Bool.and_self]
      try rfl
    · simp only [outLgi, hd, F.lgW]
  · have hd : ls.drop j = [] := List.drop_eq_nil_of_le (by omega)
    left
    refine ⟨(.exit 2, ⟨[(18, vI k), (17, vI l.length), (16, .sl (l.map eCap)), (5, .ptr 5 0 0)], [(16000, ⟨false, 5, 1, F.eUs s⟩), (5, ⟨true, 55, 0, [[.ptr 5 0 0, .own 16000]]⟩)]⟩), ?_, ?_, by simp, rfl⟩
    · rw [evLgiL]
      simp only [unChC, unIta, unTms, unRAll, unBndL, unWst, unBst, unTmsw, preChC1, preIta1, preTms1, preRAll1, preBndL1, preWst1, preBst1, unstLgp, unstLgi, unstLgp0, unstLgi0, prlLgp, prlLgi, outLgp, outLgi, etaCap, etaMch, etaWrd, etaFnd, etaRatio, etaWay, Option.bind_some, List.length_map, unStrs, unInts, unBools, uneL_eIs, unCaps, uneL_eCaps, unMchs, unWrds, unFnds, unRatios, unWays, F.lt, F.le, cond_true, cond_false, Bool.and_true, Bool.true_and, unWstU, unBstU, F.bldS_some, F.bldLen_some, decide_eq_false (show ¬ (j : Int) < (ls.length : Int) by omega)]
      try rfl
    · simp only [outLgi, hd, F.lgW]
      rfl

theorem evLgpL (l : List Cap) (s : ByteArray) (k : Nat) : ((exec enLgp (loopN Tryz.f9 0) (stLgp l s k)).bind (lessX ([18, 17, 16, 5], [16000, 5]) ([5], [16000, 5]) ([], []))).val =
  bif decide ((↑k : Int) < (↑(List.length l) : Int)) then Option.bind (unenc (List.map eCap) (List.map eCap l)) fun (z : List Cap) => bif decide (k < List.length z) then Option.bind (unenc encTms [AV.agg [(vI (List.getD z k (Cap.mk (0 : Int) (0 : Int) [] (0 : Int) false false)).fr), (vI (List.getD z k (Cap.mk (0 : Int) (0 : Int) [] (0 : Int) false false)).to), AV.sl (List.map eStr (List.getD z k (Cap.mk (0 : Int) (0 : Int) [] (0 : Int) false false)).lines), (vI (List.getD z k (Cap.mk (0 : Int) (0 : Int) [] (0 : Int) false false)).row), (vB (List.getD z k (Cap.mk (0 : Int) (0 : Int) [] (0 : Int) false false)).bef), (vB (List.getD z k (Cap.mk (0 : Int) (0 : Int) [] (0 : Int) false false)).aft)], (vS (ByteArray.mk (Array.mk [(46 : UInt8)])))]) fun (z_1 : Cap × ByteArray) => bif decide ((0 : Int) ≤ z_1.fst.fr) && decide (z_1.fst.fr ≤ (359999999 : Int)) && decide ((0 : Int) ≤ z_1.fst.to) && decide (z_1.fst.to ≤ (359999999 : Int)) && decide (ByteArray.size z_1.snd = (1 : Nat)) then Option.bind (unenc encWst ([.ptr 900 0 0, (vS (F.tms z_1.fst z_1.snd))], [(901, Blk.mk false 5 1 (F.eUs s)), (900, Blk.mk true 55 0 [[.ptr 900 0 0, .own 901]])])) fun (z_2 : Option ByteArray × ByteArray) => bif decide (F.bldLen z_2.fst + ByteArray.size z_2.snd ≤ (140737488355328 : Nat)) then bif match z_2.fst with | some val => false | none => true then none else bif (List.getD z k (Cap.mk (0 : Int) (0 : Int) [] (0 : Int) false false)).row != (0 : Int) then Option.bind (unenc encIta [(vI (List.getD z k (Cap.mk (0 : Int) (0 : Int) [] (0 : Int) false false)).row)]) fun (z_3 : Int) => bif decide ((-9223372036854775808 : Int) ≤ z_3) && decide (z_3 ≤ (9223372036854775807 : Int)) then bif Nat.ble (ByteArray.size (ByteArray.mk (Array.mk [(32 : UInt8), (108 : UInt8), (105 : UInt8), (110 : UInt8), (101 : UInt8), (58 : UInt8)])) + ByteArray.size (F.itoa z_3)) (9223372036854775807 : Nat) then Option.bind (unenc encWst ([.ptr 900 0 0, (vS (ByteArray.mk (Array.mk [(32 : UInt8), (108 : UInt8), (105 : UInt8), (110 : UInt8), (101 : UInt8), (58 : UInt8)]) ++ F.itoa z_3))], [(901, Blk.mk false 5 1 (F.eUs (F.bldS z_2.fst ++ z_2.snd))), (900, Blk.mk true 55 0 [[.ptr 900 0 0, .own 901]])])) fun (z_4 : Option ByteArray × ByteArray) => bif decide (F.bldLen z_4.fst + ByteArray.size z_4.snd ≤ (140737488355328 : Nat)) then bif match z_4.fst with | some val => false | none => true then none else bif (List.getD z k (Cap.mk (0 : Int) (0 : Int) [] (0 : Int) false false)).bef then Option.bind (unenc encWst ([.ptr 900 0 0, (vS (ByteArray.mk (Array.mk [(32 : UInt8), (98 : UInt8), (101 : UInt8), (102 : UInt8), (111 : UInt8), (114 : UInt8), (101 : UInt8)])))], [(901, Blk.mk false 5 1 (F.eUs (F.bldS z_4.fst ++ z_4.snd))), (900, Blk.mk true 55 0 [[.ptr 900 0 0, .own 901]])])) fun (z_5 : Option ByteArray × ByteArray) => bif decide (F.bldLen z_5.fst + ByteArray.size z_5.snd ≤ (140737488355328 : Nat)) then bif match z_5.fst with | some val => false | none => true then none else bif (List.getD z k (Cap.mk (0 : Int) (0 : Int) [] (0 : Int) false false)).aft then Option.bind (unenc encWst ([.ptr 900 0 0, (vS (ByteArray.mk (Array.mk [(32 : UInt8), (97 : UInt8), (102 : UInt8), (116 : UInt8), (101 : UInt8), (114 : UInt8)])))], [(901, Blk.mk false 5 1 (F.eUs (F.bldS z_5.fst ++ z_5.snd))), (900, Blk.mk true 55 0 [[.ptr 900 0 0, .own 901]])])) fun (z_6 : Option ByteArray × ByteArray) => bif decide (F.bldLen z_6.fst + ByteArray.size z_6.snd ≤ (140737488355328 : Nat)) then bif match z_6.fst with | some val => false | none => true then none else Option.bind (unenc encWst ([.ptr 900 0 0, (vS (ByteArray.mk (Array.mk [(10 : UInt8)])))], [(901, Blk.mk false 5 1 (F.eUs (F.bldS z_6.fst ++ z_6.snd))), (900, Blk.mk true 55 0 [[.ptr 900 0 0, .own 901]])])) fun (z_7 : Option ByteArray × ByteArray) => bif decide (F.bldLen z_7.fst + ByteArray.size z_7.snd ≤ (140737488355328 : Nat)) then bif match z_7.fst with | some val => false | none => true then none else Option.bind (unenc stLgi1 (St.mk [(43, (vI (0 : Int))), (42, (vI (↑(List.length (List.map eStr (List.getD z k (Cap.mk (0 : Int) (0 : Int) [] (0 : Int) false false)).lines)) : Int))), (41, AV.sl (List.map eStr (List.getD z k (Cap.mk (0 : Int) (0 : Int) [] (0 : Int) false false)).lines)), (18, (vI (↑k : Int))), (17, (vI (↑(List.length l) : Int))), (16, AV.sl (List.map eCap l)), (5, .ptr 5 0 0)] [(16000, Blk.mk false 5 1 (F.eUs (F.bldS z_7.fst ++ z_7.snd))), (5, Blk.mk true 55 0 [[.ptr 5 0 0, .own 16000]])])) fun (z : List Cap × List ByteArray × Nat × ByteArray × Nat) => bif F.allL z.snd.fst && decide (List.length z.snd.fst ≤ (15 : Nat)) && decide (z.snd.snd.snd.snd ≤ List.length z.snd.fst) && decide (ByteArray.size z.snd.snd.snd.fst ≤ (100000000 : Nat)) && true then Option.bind (unenc encWst ([.ptr 900 0 0, (vS (ByteArray.mk (Array.mk [(10 : UInt8)])))], [(901, Blk.mk false 5 1 (F.eUs (F.lgW (List.drop z.snd.snd.snd.snd z.snd.fst) z.snd.snd.snd.fst))), (900, Blk.mk true 55 0 [[.ptr 900 0 0, .own 901]])])) fun (z_8 : Option ByteArray × ByteArray) => bif decide (F.bldLen z_8.fst + ByteArray.size z_8.snd ≤ (140737488355328 : Nat)) then bif match z_8.fst with | some val => false | none => true then none else some (Ex.normal, St.mk [(18, (vI (IntKind.wrap IntKind.i64 ((↑z.snd.snd.fst : Int) + (1 : Int))))), (17, (vI (↑(List.length z.fst) : Int))), (16, AV.sl (List.map eCap z.fst)), (5, .ptr 5 0 0)] [(16000, Blk.mk false 5 1 (F.eUs (F.bldS z_8.fst ++ z_8.snd))), (5, Blk.mk true 55 0 [[.ptr 5 0 0, .own 16000]])]) else none else none else none else none else Option.bind (unenc encWst ([.ptr 900 0 0, (vS (ByteArray.mk (Array.mk [(10 : UInt8)])))], [(901, Blk.mk false 5 1 (F.eUs (F.bldS z_5.fst ++ z_5.snd))), (900, Blk.mk true 55 0 [[.ptr 900 0 0, .own 901]])])) fun (z_6 : Option ByteArray × ByteArray) => bif decide (F.bldLen z_6.fst + ByteArray.size z_6.snd ≤ (140737488355328 : Nat)) then bif match z_6.fst with | some val => false | none => true then none else Option.bind (unenc stLgi1 (St.mk [(43, (vI (0 : Int))), (42, (vI (↑(List.length (List.map eStr (List.getD z k (Cap.mk (0 : Int) (0 : Int) [] (0 : Int) false false)).lines)) : Int))), (41, AV.sl (List.map eStr (List.getD z k (Cap.mk (0 : Int) (0 : Int) [] (0 : Int) false false)).lines)), (18, (vI (↑k : Int))), (17, (vI (↑(List.length l) : Int))), (16, AV.sl (List.map eCap l)), (5, .ptr 5 0 0)] [(16000, Blk.mk false 5 1 (F.eUs (F.bldS z_6.fst ++ z_6.snd))), (5, Blk.mk true 55 0 [[.ptr 5 0 0, .own 16000]])])) fun (z : List Cap × List ByteArray × Nat × ByteArray × Nat) => bif F.allL z.snd.fst && decide (List.length z.snd.fst ≤ (15 : Nat)) && decide (z.snd.snd.snd.snd ≤ List.length z.snd.fst) && decide (ByteArray.size z.snd.snd.snd.fst ≤ (100000000 : Nat)) && true then Option.bind (unenc encWst ([.ptr 900 0 0, (vS (ByteArray.mk (Array.mk [(10 : UInt8)])))], [(901, Blk.mk false 5 1 (F.eUs (F.lgW (List.drop z.snd.snd.snd.snd z.snd.fst) z.snd.snd.snd.fst))), (900, Blk.mk true 55 0 [[.ptr 900 0 0, .own 901]])])) fun (z_7 : Option ByteArray × ByteArray) => bif decide (F.bldLen z_7.fst + ByteArray.size z_7.snd ≤ (140737488355328 : Nat)) then bif match z_7.fst with | some val => false | none => true then none else some (Ex.normal, St.mk [(18, (vI (IntKind.wrap IntKind.i64 ((↑z.snd.snd.fst : Int) + (1 : Int))))), (17, (vI (↑(List.length z.fst) : Int))), (16, AV.sl (List.map eCap z.fst)), (5, .ptr 5 0 0)] [(16000, Blk.mk false 5 1 (F.eUs (F.bldS z_7.fst ++ z_7.snd))), (5, Blk.mk true 55 0 [[.ptr 5 0 0, .own 16000]])]) else none else none else none else none else bif (List.getD z k (Cap.mk (0 : Int) (0 : Int) [] (0 : Int) false false)).aft then Option.bind (unenc encWst ([.ptr 900 0 0, (vS (ByteArray.mk (Array.mk [(32 : UInt8), (97 : UInt8), (102 : UInt8), (116 : UInt8), (101 : UInt8), (114 : UInt8)])))], [(901, Blk.mk false 5 1 (F.eUs (F.bldS z_4.fst ++ z_4.snd))), (900, Blk.mk true 55 0 [[.ptr 900 0 0, .own 901]])])) fun (z_5 : Option ByteArray × ByteArray) => bif decide (F.bldLen z_5.fst + ByteArray.size z_5.snd ≤ (140737488355328 : Nat)) then bif match z_5.fst with | some val => false | none => true then none else Option.bind (unenc encWst ([.ptr 900 0 0, (vS (ByteArray.mk (Array.mk [(10 : UInt8)])))], [(901, Blk.mk false 5 1 (F.eUs (F.bldS z_5.fst ++ z_5.snd))), (900, Blk.mk true 55 0 [[.ptr 900 0 0, .own 901]])])) fun (z_6 : Option ByteArray × ByteArray) => bif decide (F.bldLen z_6.fst + ByteArray.size z_6.snd ≤ (140737488355328 : Nat)) then bif match z_6.fst with | some val => false | none => true then none else Option.bind (unenc stLgi1 (St.mk [(43, (vI (0 : Int))), (42, (vI (↑(List.length (List.map eStr (List.getD z k (Cap.mk (0 : Int) (0 : Int) [] (0 : Int) false false)).lines)) : Int))), (41, AV.sl (List.map eStr (List.getD z k (Cap.mk (0 : Int) (0 : Int) [] (0 : Int) false false)).lines)), (18, (vI (↑k : Int))), (17, (vI (↑(List.length l) : Int))), (16, AV.sl (List.map eCap l)), (5, .ptr 5 0 0)] [(16000, Blk.mk false 5 1 (F.eUs (F.bldS z_6.fst ++ z_6.snd))), (5, Blk.mk true 55 0 [[.ptr 5 0 0, .own 16000]])])) fun (z : List Cap × List ByteArray × Nat × ByteArray × Nat) => bif F.allL z.snd.fst && decide (List.length z.snd.fst ≤ (15 : Nat)) && decide (z.snd.snd.snd.snd ≤ List.length z.snd.fst) && decide (ByteArray.size z.snd.snd.snd.fst ≤ (100000000 : Nat)) && true then Option.bind (unenc encWst ([.ptr 900 0 0, (vS (ByteArray.mk (Array.mk [(10 : UInt8)])))], [(901, Blk.mk false 5 1 (F.eUs (F.lgW (List.drop z.snd.snd.snd.snd z.snd.fst) z.snd.snd.snd.fst))), (900, Blk.mk true 55 0 [[.ptr 900 0 0, .own 901]])])) fun (z_7 : Option ByteArray × ByteArray) => bif decide (F.bldLen z_7.fst + ByteArray.size z_7.snd ≤ (140737488355328 : Nat)) then bif match z_7.fst with | some val => false | none => true then none else some (Ex.normal, St.mk [(18, (vI (IntKind.wrap IntKind.i64 ((↑z.snd.snd.fst : Int) + (1 : Int))))), (17, (vI (↑(List.length z.fst) : Int))), (16, AV.sl (List.map eCap z.fst)), (5, .ptr 5 0 0)] [(16000, Blk.mk false 5 1 (F.eUs (F.bldS z_7.fst ++ z_7.snd))), (5, Blk.mk true 55 0 [[.ptr 5 0 0, .own 16000]])]) else none else none else none else none else Option.bind (unenc encWst ([.ptr 900 0 0, (vS (ByteArray.mk (Array.mk [(10 : UInt8)])))], [(901, Blk.mk false 5 1 (F.eUs (F.bldS z_4.fst ++ z_4.snd))), (900, Blk.mk true 55 0 [[.ptr 900 0 0, .own 901]])])) fun (z_5 : Option ByteArray × ByteArray) => bif decide (F.bldLen z_5.fst + ByteArray.size z_5.snd ≤ (140737488355328 : Nat)) then bif match z_5.fst with | some val => false | none => true then none else Option.bind (unenc stLgi1 (St.mk [(43, (vI (0 : Int))), (42, (vI (↑(List.length (List.map eStr (List.getD z k (Cap.mk (0 : Int) (0 : Int) [] (0 : Int) false false)).lines)) : Int))), (41, AV.sl (List.map eStr (List.getD z k (Cap.mk (0 : Int) (0 : Int) [] (0 : Int) false false)).lines)), (18, (vI (↑k : Int))), (17, (vI (↑(List.length l) : Int))), (16, AV.sl (List.map eCap l)), (5, .ptr 5 0 0)] [(16000, Blk.mk false 5 1 (F.eUs (F.bldS z_5.fst ++ z_5.snd))), (5, Blk.mk true 55 0 [[.ptr 5 0 0, .own 16000]])])) fun (z : List Cap × List ByteArray × Nat × ByteArray × Nat) => bif F.allL z.snd.fst && decide (List.length z.snd.fst ≤ (15 : Nat)) && decide (z.snd.snd.snd.snd ≤ List.length z.snd.fst) && decide (ByteArray.size z.snd.snd.snd.fst ≤ (100000000 : Nat)) && true then Option.bind (unenc encWst ([.ptr 900 0 0, (vS (ByteArray.mk (Array.mk [(10 : UInt8)])))], [(901, Blk.mk false 5 1 (F.eUs (F.lgW (List.drop z.snd.snd.snd.snd z.snd.fst) z.snd.snd.snd.fst))), (900, Blk.mk true 55 0 [[.ptr 900 0 0, .own 901]])])) fun (z_6 : Option ByteArray × ByteArray) => bif decide (F.bldLen z_6.fst + ByteArray.size z_6.snd ≤ (140737488355328 : Nat)) then bif match z_6.fst with | some val => false | none => true then none else some (Ex.normal, St.mk [(18, (vI (IntKind.wrap IntKind.i64 ((↑z.snd.snd.fst : Int) + (1 : Int))))), (17, (vI (↑(List.length z.fst) : Int))), (16, AV.sl (List.map eCap z.fst)), (5, .ptr 5 0 0)] [(16000, Blk.mk false 5 1 (F.eUs (F.bldS z_6.fst ++ z_6.snd))), (5, Blk.mk true 55 0 [[.ptr 5 0 0, .own 16000]])]) else none else none else none else none else none else none else bif (List.getD z k (Cap.mk (0 : Int) (0 : Int) [] (0 : Int) false false)).bef then Option.bind (unenc encWst ([.ptr 900 0 0, (vS (ByteArray.mk (Array.mk [(32 : UInt8), (98 : UInt8), (101 : UInt8), (102 : UInt8), (111 : UInt8), (114 : UInt8), (101 : UInt8)])))], [(901, Blk.mk false 5 1 (F.eUs (F.bldS z_2.fst ++ z_2.snd))), (900, Blk.mk true 55 0 [[.ptr 900 0 0, .own 901]])])) fun (z_3 : Option ByteArray × ByteArray) => bif decide (F.bldLen z_3.fst + ByteArray.size z_3.snd ≤ (140737488355328 : Nat)) then bif match z_3.fst with | some val => false | none => true then none else bif (List.getD z k (Cap.mk (0 : Int) (0 : Int) [] (0 : Int) false false)).aft then Option.bind (unenc encWst ([.ptr 900 0 0, (vS (ByteArray.mk (Array.mk [(32 : UInt8), (97 : UInt8), (102 : UInt8), (116 : UInt8), (101 : UInt8), (114 : UInt8)])))], [(901, Blk.mk false 5 1 (F.eUs (F.bldS z_3.fst ++ z_3.snd))), (900, Blk.mk true 55 0 [[.ptr 900 0 0, .own 901]])])) fun (z_4 : Option ByteArray × ByteArray) => bif decide (F.bldLen z_4.fst + ByteArray.size z_4.snd ≤ (140737488355328 : Nat)) then bif match z_4.fst with | some val => false | none => true then none else Option.bind (unenc encWst ([.ptr 900 0 0, (vS (ByteArray.mk (Array.mk [(10 : UInt8)])))], [(901, Blk.mk false 5 1 (F.eUs (F.bldS z_4.fst ++ z_4.snd))), (900, Blk.mk true 55 0 [[.ptr 900 0 0, .own 901]])])) fun (z_5 : Option ByteArray × ByteArray) => bif decide (F.bldLen z_5.fst + ByteArray.size z_5.snd ≤ (140737488355328 : Nat)) then bif match z_5.fst with | some val => false | none => true then none else Option.bind (unenc stLgi1 (St.mk [(43, (vI (0 : Int))), (42, (vI (↑(List.length (List.map eStr (List.getD z k (Cap.mk (0 : Int) (0 : Int) [] (0 : Int) false false)).lines)) : Int))), (41, AV.sl (List.map eStr (List.getD z k (Cap.mk (0 : Int) (0 : Int) [] (0 : Int) false false)).lines)), (18, (vI (↑k : Int))), (17, (vI (↑(List.length l) : Int))), (16, AV.sl (List.map eCap l)), (5, .ptr 5 0 0)] [(16000, Blk.mk false 5 1 (F.eUs (F.bldS z_5.fst ++ z_5.snd))), (5, Blk.mk true 55 0 [[.ptr 5 0 0, .own 16000]])])) fun (z : List Cap × List ByteArray × Nat × ByteArray × Nat) => bif F.allL z.snd.fst && decide (List.length z.snd.fst ≤ (15 : Nat)) && decide (z.snd.snd.snd.snd ≤ List.length z.snd.fst) && decide (ByteArray.size z.snd.snd.snd.fst ≤ (100000000 : Nat)) && true then Option.bind (unenc encWst ([.ptr 900 0 0, (vS (ByteArray.mk (Array.mk [(10 : UInt8)])))], [(901, Blk.mk false 5 1 (F.eUs (F.lgW (List.drop z.snd.snd.snd.snd z.snd.fst) z.snd.snd.snd.fst))), (900, Blk.mk true 55 0 [[.ptr 900 0 0, .own 901]])])) fun (z_6 : Option ByteArray × ByteArray) => bif decide (F.bldLen z_6.fst + ByteArray.size z_6.snd ≤ (140737488355328 : Nat)) then bif match z_6.fst with | some val => false | none => true then none else some (Ex.normal, St.mk [(18, (vI (IntKind.wrap IntKind.i64 ((↑z.snd.snd.fst : Int) + (1 : Int))))), (17, (vI (↑(List.length z.fst) : Int))), (16, AV.sl (List.map eCap z.fst)), (5, .ptr 5 0 0)] [(16000, Blk.mk false 5 1 (F.eUs (F.bldS z_6.fst ++ z_6.snd))), (5, Blk.mk true 55 0 [[.ptr 5 0 0, .own 16000]])]) else none else none else none else none else Option.bind (unenc encWst ([.ptr 900 0 0, (vS (ByteArray.mk (Array.mk [(10 : UInt8)])))], [(901, Blk.mk false 5 1 (F.eUs (F.bldS z_3.fst ++ z_3.snd))), (900, Blk.mk true 55 0 [[.ptr 900 0 0, .own 901]])])) fun (z_4 : Option ByteArray × ByteArray) => bif decide (F.bldLen z_4.fst + ByteArray.size z_4.snd ≤ (140737488355328 : Nat)) then bif match z_4.fst with | some val => false | none => true then none else Option.bind (unenc stLgi1 (St.mk [(43, (vI (0 : Int))), (42, (vI (↑(List.length (List.map eStr (List.getD z k (Cap.mk (0 : Int) (0 : Int) [] (0 : Int) false false)).lines)) : Int))), (41, AV.sl (List.map eStr (List.getD z k (Cap.mk (0 : Int) (0 : Int) [] (0 : Int) false false)).lines)), (18, (vI (↑k : Int))), (17, (vI (↑(List.length l) : Int))), (16, AV.sl (List.map eCap l)), (5, .ptr 5 0 0)] [(16000, Blk.mk false 5 1 (F.eUs (F.bldS z_4.fst ++ z_4.snd))), (5, Blk.mk true 55 0 [[.ptr 5 0 0, .own 16000]])])) fun (z : List Cap × List ByteArray × Nat × ByteArray × Nat) => bif F.allL z.snd.fst && decide (List.length z.snd.fst ≤ (15 : Nat)) && decide (z.snd.snd.snd.snd ≤ List.length z.snd.fst) && decide (ByteArray.size z.snd.snd.snd.fst ≤ (100000000 : Nat)) && true then Option.bind (unenc encWst ([.ptr 900 0 0, (vS (ByteArray.mk (Array.mk [(10 : UInt8)])))], [(901, Blk.mk false 5 1 (F.eUs (F.lgW (List.drop z.snd.snd.snd.snd z.snd.fst) z.snd.snd.snd.fst))), (900, Blk.mk true 55 0 [[.ptr 900 0 0, .own 901]])])) fun (z_5 : Option ByteArray × ByteArray) => bif decide (F.bldLen z_5.fst + ByteArray.size z_5.snd ≤ (140737488355328 : Nat)) then bif match z_5.fst with | some val => false | none => true then none else some (Ex.normal, St.mk [(18, (vI (IntKind.wrap IntKind.i64 ((↑z.snd.snd.fst : Int) + (1 : Int))))), (17, (vI (↑(List.length z.fst) : Int))), (16, AV.sl (List.map eCap z.fst)), (5, .ptr 5 0 0)] [(16000, Blk.mk false 5 1 (F.eUs (F.bldS z_5.fst ++ z_5.snd))), (5, Blk.mk true 55 0 [[.ptr 5 0 0, .own 16000]])]) else none else none else none else none else bif (List.getD z k (Cap.mk (0 : Int) (0 : Int) [] (0 : Int) false false)).aft then Option.bind (unenc encWst ([.ptr 900 0 0, (vS (ByteArray.mk (Array.mk [(32 : UInt8), (97 : UInt8), (102 : UInt8), (116 : UInt8), (101 : UInt8), (114 : UInt8)])))], [(901, Blk.mk false 5 1 (F.eUs (F.bldS z_2.fst ++ z_2.snd))), (900, Blk.mk true 55 0 [[.ptr 900 0 0, .own 901]])])) fun (z_3 : Option ByteArray × ByteArray) => bif decide (F.bldLen z_3.fst + ByteArray.size z_3.snd ≤ (140737488355328 : Nat)) then bif match z_3.fst with | some val => false | none => true then none else Option.bind (unenc encWst ([.ptr 900 0 0, (vS (ByteArray.mk (Array.mk [(10 : UInt8)])))], [(901, Blk.mk false 5 1 (F.eUs (F.bldS z_3.fst ++ z_3.snd))), (900, Blk.mk true 55 0 [[.ptr 900 0 0, .own 901]])])) fun (z_4 : Option ByteArray × ByteArray) => bif decide (F.bldLen z_4.fst + ByteArray.size z_4.snd ≤ (140737488355328 : Nat)) then bif match z_4.fst with | some val => false | none => true then none else Option.bind (unenc stLgi1 (St.mk [(43, (vI (0 : Int))), (42, (vI (↑(List.length (List.map eStr (List.getD z k (Cap.mk (0 : Int) (0 : Int) [] (0 : Int) false false)).lines)) : Int))), (41, AV.sl (List.map eStr (List.getD z k (Cap.mk (0 : Int) (0 : Int) [] (0 : Int) false false)).lines)), (18, (vI (↑k : Int))), (17, (vI (↑(List.length l) : Int))), (16, AV.sl (List.map eCap l)), (5, .ptr 5 0 0)] [(16000, Blk.mk false 5 1 (F.eUs (F.bldS z_4.fst ++ z_4.snd))), (5, Blk.mk true 55 0 [[.ptr 5 0 0, .own 16000]])])) fun (z : List Cap × List ByteArray × Nat × ByteArray × Nat) => bif F.allL z.snd.fst && decide (List.length z.snd.fst ≤ (15 : Nat)) && decide (z.snd.snd.snd.snd ≤ List.length z.snd.fst) && decide (ByteArray.size z.snd.snd.snd.fst ≤ (100000000 : Nat)) && true then Option.bind (unenc encWst ([.ptr 900 0 0, (vS (ByteArray.mk (Array.mk [(10 : UInt8)])))], [(901, Blk.mk false 5 1 (F.eUs (F.lgW (List.drop z.snd.snd.snd.snd z.snd.fst) z.snd.snd.snd.fst))), (900, Blk.mk true 55 0 [[.ptr 900 0 0, .own 901]])])) fun (z_5 : Option ByteArray × ByteArray) => bif decide (F.bldLen z_5.fst + ByteArray.size z_5.snd ≤ (140737488355328 : Nat)) then bif match z_5.fst with | some val => false | none => true then none else some (Ex.normal, St.mk [(18, (vI (IntKind.wrap IntKind.i64 ((↑z.snd.snd.fst : Int) + (1 : Int))))), (17, (vI (↑(List.length z.fst) : Int))), (16, AV.sl (List.map eCap z.fst)), (5, .ptr 5 0 0)] [(16000, Blk.mk false 5 1 (F.eUs (F.bldS z_5.fst ++ z_5.snd))), (5, Blk.mk true 55 0 [[.ptr 5 0 0, .own 16000]])]) else none else none else none else none else Option.bind (unenc encWst ([.ptr 900 0 0, (vS (ByteArray.mk (Array.mk [(10 : UInt8)])))], [(901, Blk.mk false 5 1 (F.eUs (F.bldS z_2.fst ++ z_2.snd))), (900, Blk.mk true 55 0 [[.ptr 900 0 0, .own 901]])])) fun (z_3 : Option ByteArray × ByteArray) => bif decide (F.bldLen z_3.fst + ByteArray.size z_3.snd ≤ (140737488355328 : Nat)) then bif match z_3.fst with | some val => false | none => true then none else Option.bind (unenc stLgi1 (St.mk [(43, (vI (0 : Int))), (42, (vI (↑(List.length (List.map eStr (List.getD z k (Cap.mk (0 : Int) (0 : Int) [] (0 : Int) false false)).lines)) : Int))), (41, AV.sl (List.map eStr (List.getD z k (Cap.mk (0 : Int) (0 : Int) [] (0 : Int) false false)).lines)), (18, (vI (↑k : Int))), (17, (vI (↑(List.length l) : Int))), (16, AV.sl (List.map eCap l)), (5, .ptr 5 0 0)] [(16000, Blk.mk false 5 1 (F.eUs (F.bldS z_3.fst ++ z_3.snd))), (5, Blk.mk true 55 0 [[.ptr 5 0 0, .own 16000]])])) fun (z : List Cap × List ByteArray × Nat × ByteArray × Nat) => bif F.allL z.snd.fst && decide (List.length z.snd.fst ≤ (15 : Nat)) && decide (z.snd.snd.snd.snd ≤ List.length z.snd.fst) && decide (ByteArray.size z.snd.snd.snd.fst ≤ (100000000 : Nat)) && true then Option.bind (unenc encWst ([.ptr 900 0 0, (vS (ByteArray.mk (Array.mk [(10 : UInt8)])))], [(901, Blk.mk false 5 1 (F.eUs (F.lgW (List.drop z.snd.snd.snd.snd z.snd.fst) z.snd.snd.snd.fst))), (900, Blk.mk true 55 0 [[.ptr 900 0 0, .own 901]])])) fun (z_4 : Option ByteArray × ByteArray) => bif decide (F.bldLen z_4.fst + ByteArray.size z_4.snd ≤ (140737488355328 : Nat)) then bif match z_4.fst with | some val => false | none => true then none else some (Ex.normal, St.mk [(18, (vI (IntKind.wrap IntKind.i64 ((↑z.snd.snd.fst : Int) + (1 : Int))))), (17, (vI (↑(List.length z.fst) : Int))), (16, AV.sl (List.map eCap z.fst)), (5, .ptr 5 0 0)] [(16000, Blk.mk false 5 1 (F.eUs (F.bldS z_4.fst ++ z_4.snd))), (5, Blk.mk true 55 0 [[.ptr 5 0 0, .own 16000]])]) else none else none else none else none else none else none else some (Ex.exit (0 : Nat), St.mk [(5, .ptr 5 0 0)] [(16000, Blk.mk false 5 1 (F.eUs s)), (5, Blk.mk true 55 0 [[.ptr 5 0 0, .own 16000]])]) := (execR_bind _ _ _).symm.trans (by kernel_rfl)

theorem lpLgp_ok (l : List Cap) (s : ByteArray) (k : Nat) (hp : prlLgp l s k = true) : ∀ ex s', (outLgp l s k).val = some (ex, s') → LoopOK enLgp (loopN Tryz.f9 0) (stLgp l s k) ex s' := by
  simp only [prlLgp, Bool.and_eq_true, decide_eq_true_eq] at hp
  obtain ⟨⟨⟨h1, h2⟩, h3⟩, h4⟩ := hp
  have hw := List.all_eq_true.1 (h1 : l.all F.capW = true)
  have hx : l.length ≤ 9223372036854775807 := by omega
  refine loop_gen (st := fun b : ByteArray × Nat => stLgp l b.1 b.2) (out := fun b => outLgp l b.1 b.2) (I := fun b => b.2 ≤ l.length ∧ b.1.size ≤ 100 + 16000 * b.2) (n := ([18, 17, 16, 5], [16000, 5])) (e := ([5], [16000, 5])) (r := ([], [])) (fun b => l.length - b.2) ?_ (s, k) ⟨h3, h4⟩
  rintro ⟨s, k⟩ ⟨i1, i2⟩
  simp only at i1 i2
  by_cases hlt : k < l.length
  · have hy : l[k]? = some l[k] := List.getElem?_eq_getElem hlt
    generalize l[k] = y at hy
    have hd := drop_q hy
    have hc := hw y (List.mem_of_getElem? hy)
    obtain ⟨c1, c2, c3, c4, c5, c6, c7, c8, c9⟩ := F.capW_spec hc
    have hall : F.allL y.lines = true := List.all_eq_true.2 c9
    have z1 := F.itoa_size (n := y.row) (by omega) (by omega)
    have z2 := F.tms_size hc (show (ByteArray.mk (Array.mk [46])).size = 1 from rfl)
    have z3 : (ByteArray.mk (Array.mk [46])).size = 1 := rfl
    have z4 : (ByteArray.mk (Array.mk [10])).size = 1 := rfl
    have z5 : (ByteArray.mk (Array.mk [32, 108, 105, 110, 101, 58])).size = 6 := rfl
    have z6 : (ByteArray.mk (Array.mk [32, 98, 101, 102, 111, 114, 101])).size = 7 := rfl
    have z7 : (ByteArray.mk (Array.mk [32, 97, 102, 116, 101, 114])).size = 6 := rfl
    have y1 := F.lgC_size s hc
    have y2 := F.lgH_size s hc
    have y3 := F.lgW_size y.lines (F.lgH y s) fun x hx => F.line_size (c9 x hx)
    have hC : F.lgW y.lines (F.lgH y s) ++ ByteArray.mk (Array.mk [10]) = F.lgC y s := rfl
    right
    refine ⟨(F.lgC y s, k + 1), ?_, rfl, ⟨by simp only; omega, by simp only; omega⟩, by simp only; omega, ?_⟩
    · rw [evLgpL]
      cases ha : y.aft <;> cases hb : y.bef <;> cases hr : (y.row != 0)
      all_goals
        have hH : F.lgH y s = F.lgH y s := rfl
        conv at hH => lhs; unfold F.lgH
        simp only [ha, hb, hr, cond_true, cond_false, F.dot, F.nl, F.lineB, F.befB, F.aftB] at hH
        simp only [unChC, unIta, unTms, unRAll, unBndL, unWst, unBst, unTmsw, preChC1, preIta1, preTms1, preRAll1, preBndL1, preWst1, preBst1, unstLgp, unstLgi, unstLgp0, unstLgi0, prlLgp, prlLgi, outLgp, outLgi, etaCap, etaMch, etaWrd, etaFnd, etaRatio, etaWay, Option.bind_some, List.length_map, unStrs, unInts, unBools, uneL_eIs, unCaps, uneL_eCaps, unMchs, unWrds, unFnds, unRatios, unWays, F.lt, F.le, cond_true, cond_false, Bool.and_true, Bool.true_and, unWstU, unBstU, F.bldS_some, F.bldLen_some, cast_lt hlt, decide_eq_true hlt, getD_at hy, next_at hlt hx, ha, hb, hr, decide_eq_true c1, decide_eq_true c2, decide_eq_true c3, decide_eq_true c4, z3, decide_true, hall, List.drop_zero]
        simp only [hH]
        simp only [ByteArray.size_append, z2, z4, z5, z6, z7]
        simp (disch := omega) only [decide_eq_true, ble_t, cond_true, Bool.and_self]
        rfl
    · simp only [outLgp, hd, F.lgA1]
  · have hd : l.drop k = [] := List.drop_eq_nil_of_le (by omega)
    left
    refine ⟨(.exit 0, ⟨[(5, .ptr 5 0 0)], [(16000, ⟨false, 5, 1, F.eUs s⟩), (5, ⟨true, 55, 0, [[.ptr 5 0 0, .own 16000]]⟩)]⟩), ?_, ?_, by simp, rfl⟩
    · rw [evLgpL]
      simp only [unChC, unIta, unTms, unRAll, unBndL, unWst, unBst, unTmsw, preChC1, preIta1, preTms1, preRAll1, preBndL1, preWst1, preBst1, unstLgp, unstLgi, unstLgp0, unstLgi0, prlLgp, prlLgi, outLgp, outLgi, etaCap, etaMch, etaWrd, etaFnd, etaRatio, etaWay, Option.bind_some, List.length_map, unStrs, unInts, unBools, uneL_eIs, unCaps, uneL_eCaps, unMchs, unWrds, unFnds, unRatios, unWays, F.lt, F.le, cond_true, cond_false, Bool.and_true, Bool.true_and, unWstU, unBstU, F.bldS_some, F.bldLen_some, decide_eq_false (show ¬ (k : Int) < (l.length : Int) by omega)]
      try rfl
    · simp only [outLgp, hd, F.lgA1]
      rfl

end M
end Go.Proofs.YthcfbeckhgngiaaGreatDoor
