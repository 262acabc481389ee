/- What is proved here: the one simple thing that the laws ask; what is alike; copies of captions (no statement of the seat). -/
import Derived.Test.YthcfbeckhgngiaaGreatDoorC8
namespace Go.Proofs.YthcfbeckhgngiaaGreatDoor
open Go Go.RowKit
set_option linter.unusedVariables false
set_option linter.unusedSimpArgs false

def F.aabb : ByteArray := ⟨⟨[97, 97, 32, 98, 98]⟩⟩

theorem F.awk : F.brk F.aabb 3 2 = ([⟨⟨[97, 97]⟩⟩, ⟨⟨[98, 98]⟩⟩], 0) := by kernel_rfl

def F.sameSs (l : List (ByteArray × ByteArray)) : Bool := l.all fun p => F.seq p.1 p.2

def F.sameSL (a b : List ByteArray) : Bool := decide (a.length = b.length) && F.sameSs (a.zip b)

def F.sameIs (l : List (Int × Int)) : Bool := l.all fun p => p.1 == p.2

def F.sameIL (a b : List Int) : Bool := decide (a.length = b.length) && F.sameIs (a.zip b)

/-- Captions are alike. -/
def F.sameC (x y : Cap) : Bool := (x.fr == y.fr) && (x.to == y.to) && (x.row == y.row) && (x.bef == y.bef) && (x.aft == y.aft) && F.sameSL x.lines y.lines

def F.sameCs (l : List (Cap × Cap)) : Bool := l.all fun p => F.sameC p.1 p.2

def F.sameCL (a b : List Cap) : Bool := decide (a.length = b.length) && F.sameCs (a.zip b)

theorem F.zip_all {α : Type} (p : α → α → Bool) (h : ∀ a, p a a = true) : ∀ l : List α, ((l.zip l).all fun q => p q.1 q.2) = true
  | [] => rfl
  | y :: l => by simp only [List.zip_cons_cons, List.all_cons, h, Bool.true_and]; exact F.zip_all p h l

theorem F.sameSL_refl (a : List ByteArray) : F.sameSL a a = true := by
  simp only [F.sameSL, F.sameSs, F.zip_all F.seq F.seq_refl]
  simp

theorem F.sameIL_refl (a : List Int) : F.sameIL a a = true := by
  simp only [F.sameIL, F.sameIs, F.zip_all (fun a b : Int => a == b) (fun a => by simp)]
  simp

theorem F.sameC_refl (a : Cap) : F.sameC a a = true := by
  simp only [F.sameC, F.sameSL_refl]
  simp

theorem F.sameCL_refl (a : List Cap) : F.sameCL a a = true := by
  simp only [F.sameCL, F.sameCs, F.zip_all F.sameC F.sameC_refl]
  simp

theorem F.zip_at {α β : Type} {a : List α} {b : List β} {k : Nat} {y : α × β} (h : (a.zip b)[k]? = some y) : a[k]? = some y.1 ∧ b[k]? = some y.2 := by
  rw [List.getElem?_zip_eq_some] at h
  exact h

theorem F.len_eq (n m : Nat) : ((n : Int) == (m : Int)) = decide (n = m) := by by_cases h : n = m <;> simp [h]; omega

theorem F.fold_app {α : Type} : ∀ (l acc : List α), l.foldl (fun a y => a ++ [y]) acc = acc ++ l
  | [], acc => by simp
  | y :: l, acc => by rw [List.foldl_cons, F.fold_app l]; simp

/-- Not too many, and not too many lines. -/
def F.capSm (l : List Cap) : Bool := decide (l.length ≤ 500) && l.all fun c => decide (c.lines.length ≤ 15)

theorem F.chkP_ok {α : Type} {f : Option α → α → Int} : ∀ {l : List α} {p : Option α}, F.chkP f p l = 0 → ∀ c ∈ l, ∃ q, f q c = 0
  | c :: l, p, h, d, hd => by
    rw [F.chkP] at h
    by_cases hf : f p c = 0
    · rcases List.mem_cons.1 hd with rfl | hd
      · exact ⟨p, hf⟩
      · rw [M.bne0 hf] at h
        exact F.chkP_ok h d hd
    · rw [M.bne1 hf] at h
      exact absurd h hf

theorem F.chk_len {l : List Cap} (h : F.chkC l = 0) : l.length ≤ 500 := by
  unfold F.chkC at h
  by_cases hh : 500 < l.length
  · rw [decide_eq_true hh] at h; cases h
  · omega

theorem F.chk_at {l : List Cap} (h : F.chkC l = 0) {c : Cap} (hc : c ∈ l) : ∃ q, F.capF q c = 0 := by
  have h1 := F.chk_len h
  unfold F.chkC at h
  rw [decide_eq_false (by omega)] at h
  exact F.chkP_ok h c hc

theorem F.linesF_ok {ls : List ByteArray} (h : F.linesF ls = 0) : ls ≠ [] ∧ ls.length ≤ 15 ∧ F.allL ls = true := by
  unfold F.linesF at h
  cases h1 : ls.isEmpty <;> rw [h1] at h
  · by_cases h2 : 15 < ls.length
    · rw [decide_eq_true h2] at h; cases h
    · rw [decide_eq_false h2] at h
      cases h3 : F.allL ls <;> rw [h3] at h
      · cases h
      · refine ⟨?_, by omega, rfl⟩
        intro e
        rw [e] at h1
        cases h1
  · cases h

theorem F.capF_ok {q : Option Cap} {c : Cap} (h : F.capF q c = 0) : F.noTime c.fr = false ∧ F.noTime c.to = false ∧ F.le c.to c.fr = false ∧ F.befP q c = false ∧ F.out c.row 0 15 = false ∧ F.linesF c.lines = 0 := by
  unfold F.capF at h
  cases h1 : F.noTime c.fr <;> rw [h1] at h <;> simp only [Bool.true_or, Bool.false_or, cond_true] at h
  · cases h2 : F.noTime c.to <;> rw [h2] at h <;> simp only [cond_true, cond_false] at h
    · cases h3 : F.le c.to c.fr <;> rw [h3] at h <;> simp only [Bool.true_or, Bool.false_or, cond_true] at h
      · cases h4 : F.befP q c <;> rw [h4] at h <;> simp only [cond_true, cond_false] at h
        · cases h5 : F.out c.row 0 15 <;> rw [h5] at h <;> simp only [cond_true, cond_false] at h
          · exact ⟨rfl, rfl, rfl, rfl, rfl, h⟩
          · cases h
        · cases h
      · cases h
    · cases h
  · cases h

theorem F.chk_sm {l : List Cap} (h : F.chkC l = 0) : F.capSm l = true := by
  refine Bool.and_eq_true_iff.2 ⟨decide_eq_true (F.chk_len h), List.all_eq_true.2 fun c hc => ?_⟩
  obtain ⟨q, hq⟩ := F.chk_at h hc
  exact decide_eq_true (F.linesF_ok (F.capF_ok hq).2.2.2.2.2).2.1

namespace M


def stEqS (a : List ByteArray) (b : List ByteArray) (k : Nat) : St := ⟨[(13, vI k), (12, vI a.length), (1, .sl (b.map eStr)), (0, .sl (a.map eStr))], []⟩

def stEqS1 (a : (List ByteArray) × (List ByteArray) × Nat) : St := stEqS a.1 a.2.1 a.2.2

theorem stEqS_inj (a a' : (List ByteArray) × (List ByteArray) × Nat) (h : stEqS1 a = stEqS1 a') : a = a' := by
  simp only [stEqS1, stEqS] at h
  try simp [strs_inj, ints_inj, eCaps_inj, eCap_iff] at h
  grind

theorem unstEqS (a : List ByteArray) (b : List ByteArray) (k : Nat) : unenc stEqS1 (St.mk [(13, (vI (↑k : Int))), (12, (vI (↑(List.length a) : Int))), (1, AV.sl (List.map eStr b)), (0, AV.sl (List.map eStr a))] []) = some (a, b, k) := unenc_of stEqS_inj (a, b, k) rfl

theorem unstEqS0 (a : List ByteArray) (b : List ByteArray)  : unenc stEqS1 (St.mk [(13, (vI (0 : Int))), (12, (vI (↑(List.length a) : Int))), (1, AV.sl (List.map eStr b)), (0, AV.sl (List.map eStr a))] []) = some (a, b, 0) := unenc_of stEqS_inj (a, b, 0) rfl

def outEqS (a : List ByteArray) (b : List ByteArray) (k : Nat) : T (Ex × St) := .ifB (F.sameSs ((a.zip b).drop k)) (.ret (.exit 0, ⟨[], []⟩)) (.ret (.ret, ⟨[(4, vB false)], []⟩))

noncomputable def prlEqS (a : List ByteArray) (b : List ByteArray) (k : Nat) : Bool := decide (a.length ≤ 9223372036854775807) && decide (k ≤ a.length) && decide (a.length = b.length)

noncomputable def lpEqS : Nat × (St → T (Ex × St)) := (4, lpo [13, 12, 1, 0] [] stEqS1 (fun a => prlEqS a.1 a.2.1 a.2.2) fun a => outEqS a.1 a.2.1 a.2.2)

noncomputable def enEqS : Env := envH ty noG lks [] [] [] [lpEqS]

theorem enEqS_ok : EnvOK Tryz.prog enEqS := by
  refine envH_ok lks_ok ty_ok ?_ ?_
  · simp
  · simp

theorem evEqSL (a : List ByteArray) (b : List ByteArray) (k : Nat) : ((exec enEqS (loopN Tryz.f20 0) (stEqS a b k)).bind (lessX ([13, 12, 1, 0], []) ([], []) ([4], []))).val =
  bif decide ((↑k : Int) < (↑(List.length a) : Int)) then Option.bind (unenc (List.map eStr) (List.map eStr a)) fun (z : List ByteArray) => bif decide (k < List.length z)
  then Option.bind (unenc (List.map eStr) (List.map eStr b)) fun (z_1 : List ByteArray) => bif decide (k < List.length z_1) then bif !ByteArray.toList (List.getD z k
  (ByteArray.mk (Array.mk []))) == ByteArray.toList (List.getD z_1 k (ByteArray.mk (Array.mk []))) then some (Ex.ret, St.mk [(4, (vB false))] []) else some (Ex.normal, St.mk
  [(13, (vI (IntKind.wrap IntKind.i64 ((↑k : Int) + (1 : Int))))), (12, (vI (↑(List.length a) : Int))), (1, AV.sl (List.map eStr b)), (0, AV.sl (List.map eStr a))] []) else
  none else none else some (Ex.exit (0 : Nat), St.mk [] []) := by kernel_rfl

theorem lpEqS_ok (a : List ByteArray) (b : List ByteArray) (k : Nat) (hp : prlEqS a b k = true) : ∀ ex s', (outEqS a b k).val = some (ex, s') → LoopOK enEqS (loopN Tryz.f20 0) (stEqS a b k) ex s' := by
  simp only [prlEqS, Bool.and_eq_true, decide_eq_true_eq] at hp
  obtain ⟨⟨h1, h2⟩, h3⟩ := hp
  have hz : (a.zip b).length = a.length := by rw [List.length_zip]; omega
  refine loop_all (xs := a.zip b) (st := stEqS a b) (p := fun p => F.seq p.1 p.2) (n := ([13, 12, 1, 0], [])) (e := ([], [])) (r := ([4], [])) ?_ ⟨by simp, rfl⟩ ⟨by simp, rfl⟩ (fun _ => rfl) ?_ k (by omega)
  · rw [hz]; rw [evEqSL]; simp
  · intro k y hy
    obtain ⟨ha, hb⟩ := F.zip_at hy
    have hlt := lt_at ha
    have hlt' := lt_at hb
    rw [evEqSL]
    simp only [unstEqS, unstEqS0, prlEqS, outEqS, etaCap, etaMch, etaWrd, etaFnd, etaRatio, etaWay, Option.bind_some, List.length_map, unStrs, unInts, unBools, uneL_eIs, unCaps, uneL_eCaps, unMchs, unWrds, unFnds, unRatios, unWays, F.lt, F.le, cond_true, cond_false, Bool.and_true, Bool.true_and, cast_lt hlt, decide_eq_true hlt, decide_eq_true hlt', next_at hlt h1, getD_at ha, getD_at hb, stEqS, F.seq, bne]
    cases (y.1.toList == y.2.toList) <;> rfl

theorem evEqS (a : List ByteArray) (b : List ByteArray) : (runF enEqS false Tryz.f20 [.sl (a.map eStr), .sl (b.map eStr)]).val =
  bif (↑(List.length (List.map eStr a)) : Int) != (↑(List.length (List.map eStr b)) : Int) then some ((vB false), []) else Option.bind (unenc stEqS1 (St.mk [(13, (vI (0 :
  Int))), (12, (vI (↑(List.length (List.map eStr a)) : Int))), (1, AV.sl (List.map eStr b)), (0, AV.sl (List.map eStr a))] [])) fun (z : List ByteArray × List ByteArray ×
  Nat) => bif decide (List.length z.fst ≤ (9223372036854775807 : Nat)) && decide (z.snd.snd ≤ List.length z.fst) && decide (List.length z.fst = List.length z.snd.fst) &&
  true then bif F.sameSs (List.drop z.snd.snd (List.zip z.fst z.snd.fst)) then some ((vB true), []) else some ((vB false), []) else none := by kernel_rfl

def encEqS1 (a : List ByteArray) (b : List ByteArray) : List AV := [.sl (a.map eStr), .sl (b.map eStr)]

def encEqS (a : (List ByteArray) × (List ByteArray)) : List AV := encEqS1 a.1 a.2

theorem encEqS_inj (a a' : (List ByteArray) × (List ByteArray)) (h : encEqS a = encEqS a') : a = a' := by
  simp only [encEqS, encEqS1] at h
  try simp [strs_inj, ints_inj, eCaps_inj, eCap_iff] at h
  grind

theorem unEqS (a : List ByteArray) (b : List ByteArray) : unenc encEqS ([AV.sl (List.map eStr a), AV.sl (List.map eStr b)]) = some (a, b) := unenc_of encEqS_inj (a, b) rfl

def resEqS1 (a : List ByteArray) (b : List ByteArray) : AV × Heap := (vB (F.sameSL a b), [])

def preEqS1 (a : List ByteArray) (b : List ByteArray) : Bool := true

noncomputable def oEqS : Orc := orc 20 true encEqS (fun a => preEqS1 a.1 a.2) fun a => resEqS1 a.1 a.2

theorem okEqS : OrcOK Tryz.prog noG oEqS := by
  refine mk_ok Tryz.f20 (keep := false) (by kernel_rfl) (by kernel_rfl) enEqS_ok mixed (one_loop (x0 := loopN Tryz.f20 0) (by kernel_rfl) (lpo_ok ?_)) (by first | exact fun _ _ => ⟨rfl, rfl⟩ | (intro h; cases h)) ?_
  · rintro ⟨a, b, k⟩ hp
    exact lpEqS_ok a b k hp
  rintro ⟨a, b⟩ hpre hok
  show (runF enEqS false _ (encEqS1 _ _)).val = some (resEqS1 _ _)
  unfold encEqS1 resEqS1
  rw [evEqS]
  have hx : a.length ≤ 9223372036854775807 := by simpa using (okA_sl (hok _ (List.mem_cons_self ..))).1
  simp only [unstEqS, unstEqS0, prlEqS, outEqS, etaCap, etaMch, etaWrd, etaFnd, etaRatio, etaWay, Option.bind_some, List.length_map, unStrs, unInts, unBools, uneL_eIs, unCaps, uneL_eCaps, unMchs, unWrds, unFnds, unRatios, unWays, F.lt, F.le, cond_true, cond_false, Bool.and_true, Bool.true_and, F.sameSL, hx, List.drop_zero, Nat.zero_le, decide_true, F.len_eq, bne]
  cases decide (a.length = b.length) <;> cases F.sameSs (a.zip b) <;> rfl

def stEqI (a : List Int) (b : List Int) (k : Nat) : St := ⟨[(13, vI k), (12, vI a.length), (1, .sl (b.map eI)), (0, .sl (a.map eI))], []⟩

def stEqI1 (a : (List Int) × (List Int) × Nat) : St := stEqI a.1 a.2.1 a.2.2

theorem stEqI_inj (a a' : (List Int) × (List Int) × Nat) (h : stEqI1 a = stEqI1 a') : a = a' := by
  simp only [stEqI1, stEqI] at h
  try simp [strs_inj, ints_inj, eCaps_inj, eCap_iff] at h
  grind

theorem unstEqI (a : List Int) (b : List Int) (k : Nat) : unenc stEqI1 (St.mk [(13, (vI (↑k : Int))), (12, (vI (↑(List.length a) : Int))), (1, AV.sl (List.map eI b)), (0, AV.sl (List.map eI a))] []) = some (a, b, k) := unenc_of stEqI_inj (a, b, k) rfl

theorem unstEqI0 (a : List Int) (b : List Int)  : unenc stEqI1 (St.mk [(13, (vI (0 : Int))), (12, (vI (↑(List.length a) : Int))), (1, AV.sl (List.map eI b)), (0, AV.sl (List.map eI a))] []) = some (a, b, 0) := unenc_of stEqI_inj (a, b, 0) rfl

def outEqI (a : List Int) (b : List Int) (k : Nat) : T (Ex × St) := .ifB (F.sameIs ((a.zip b).drop k)) (.ret (.exit 0, ⟨[], []⟩)) (.ret (.ret, ⟨[(4, vB false)], []⟩))

noncomputable def prlEqI (a : List Int) (b : List Int) (k : Nat) : Bool := decide (a.length ≤ 9223372036854775807) && decide (k ≤ a.length) && decide (a.length = b.length)

noncomputable def lpEqI : Nat × (St → T (Ex × St)) := (4, lpo [13, 12, 1, 0] [] stEqI1 (fun a => prlEqI a.1 a.2.1 a.2.2) fun a => outEqI a.1 a.2.1 a.2.2)

noncomputable def enEqI : Env := envH ty noG lks [] [] [] [lpEqI]

theorem enEqI_ok : EnvOK Tryz.prog enEqI := by
  refine envH_ok lks_ok ty_ok ?_ ?_
  · simp
  · simp

def encEqI1 (a : List Int) (b : List Int) : List AV := [.sl (a.map eI), .sl (b.map eI)]

def encEqI (a : (List Int) × (List Int)) : List AV := encEqI1 a.1 a.2

theorem encEqI_inj (a a' : (List Int) × (List Int)) (h : encEqI a = encEqI a') : a = a' := by
  simp only [encEqI, encEqI1] at h
  try simp [strs_inj, ints_inj, eCaps_inj, eCap_iff] at h
  grind

theorem unEqI (a : List Int) (b : List Int) : unenc encEqI ([AV.sl (List.map eI a), AV.sl (List.map eI b)]) = some (a, b) := unenc_of encEqI_inj (a, b) rfl

def resEqI1 (a : List Int) (b : List Int) : AV × Heap := (vB (F.sameIL a b), [])

def preEqI1 (a : List Int) (b : List Int) : Bool := true

noncomputable def enAwk : Env := envH ty noG lks [oBrk, oEqS] [] [] []

theorem enAwk_ok : EnvOK Tryz.prog enAwk := by
  refine envH_ok lks_ok ty_ok ?_ ?_
  · simp only [List.forall_mem_cons]
    exact ⟨okBrk, okEqS, by simp⟩
  · simp

theorem evAwk  : (runF enAwk false Tryz.f8 []).val =
  Option.bind (unenc encBrk [(vS (ByteArray.mk (Array.mk [(97 : UInt8), (97 : UInt8), (32 : UInt8), (98 : UInt8), (98 : UInt8)]))), (vI (3 : Int)), (vI (2 : Int))]) fun (z :
  ByteArray × Int × Int) => bif F.small z.fst then bif (F.brk z.fst z.snd.fst z.snd.snd).snd == (0 : Int) then bif (F.brk z.fst z.snd.fst z.snd.snd).snd == (0 : Int) then
  Option.bind (unenc encEqS [AV.sl (List.map eStr (F.brk z.fst z.snd.fst z.snd.snd).fst), AV.sl [[(vS (ByteArray.mk (Array.mk [(97 : UInt8), (97 : UInt8)])))], [(vS
  (ByteArray.mk (Array.mk [(98 : UInt8), (98 : UInt8)])))]]]) fun (z_1 : List ByteArray × List ByteArray) => some ((vB (bif (F.brk z.fst z.snd.fst z.snd.snd).snd == (0 :
  Int) then F.sameSL z_1.fst z_1.snd else false)), []) else some ((vB false), []) else bif (F.brk z.fst z.snd.fst z.snd.snd).snd == (0 : Int) then Option.bind (unenc encEqS
  [AV.sl (List.map eStr (F.brk z.fst z.snd.fst z.snd.snd).fst), AV.unk]) fun (z_1 : List ByteArray × List ByteArray) => some ((vB (bif (F.brk z.fst z.snd.fst z.snd.snd).snd
  == (0 : Int) then F.sameSL z_1.fst z_1.snd else false)), []) else some ((vB false), []) else none := by kernel_rfl

def encAwk1  : List AV := []

def encAwk (a : Unit) : List AV := encAwk1

theorem encAwk_inj (a a' : Unit) (h : encAwk a = encAwk a') : a = a' := rfl

theorem unAwk  : unenc encAwk ([]) = some () := unenc_of encAwk_inj () rfl

def resAwk1  : AV × Heap := (vB true, [])

def preAwk1  : Bool := true

noncomputable def oAwk : Orc := orc 8 true encAwk (fun a => preAwk1) fun a => resAwk1

theorem okAwk : OrcOK Tryz.prog noG oAwk := by
  refine mk_ok Tryz.f8 (keep := false) (by kernel_rfl) (by kernel_rfl) enAwk_ok mixed (no_loops (by kernel_rfl)) (by first | exact fun _ _ => ⟨rfl, rfl⟩ | (intro h; cases h)) ?_
  rintro ⟨⟩ hpre hok
  show (runF enAwk false _ (encAwk1 )).val = some (resAwk1 )
  unfold encAwk1 resAwk1
  rw [evAwk]
  have e1 : (⟨⟨[97, 97, 32, 98, 98]⟩⟩ : ByteArray) = F.aabb := rfl
  have e2 : F.small F.aabb = true := rfl
  have e3 : F.sameSL [⟨⟨[97, 97]⟩⟩, ⟨⟨[98, 98]⟩⟩] [⟨⟨[97, 97]⟩⟩, ⟨⟨[98, 98]⟩⟩] = true := F.sameSL_refl _
  have e4 : unenc encEqS [.sl ([⟨⟨[97, 97]⟩⟩, ⟨⟨[98, 98]⟩⟩].map eStr), .sl [[vS ⟨⟨[97, 97]⟩⟩], [vS ⟨⟨[98, 98]⟩⟩]]] = some ([⟨⟨[97, 97]⟩⟩, ⟨⟨[98, 98]⟩⟩], [⟨⟨[97, 97]⟩⟩, ⟨⟨[98, 98]⟩⟩]) := unenc_of encEqS_inj ([⟨⟨[97, 97]⟩⟩, ⟨⟨[98, 98]⟩⟩], [⟨⟨[97, 97]⟩⟩, ⟨⟨[98, 98]⟩⟩]) rfl
  simp only [unBrk, unEqS, preBrk1, preEqS1, etaCap, etaMch, etaWrd, etaFnd, etaRatio, etaWay, Option.bind_some, List.length_map, unStrs, unInts, unBools, uneL_eIs, unCaps, uneL_eCaps, unMchs, unWrds, unFnds, unRatios, unWays, F.lt, F.le, cond_true, cond_false, Bool.and_true, Bool.true_and, e1, e2, F.awk]
  simp only [beq_self_eq_true, cond_true, e4, Option.bind_some, e3]

def encCln1 (xs : List ByteArray) : List AV := [.sl (xs.map eStr)]

def encCln (a : (List ByteArray)) : List AV := encCln1 a

theorem encCln_inj (a a' : (List ByteArray)) (h : encCln a = encCln a') : a = a' := by
  simp only [encCln, encCln1] at h
  try simp [strs_inj, ints_inj, eCaps_inj, eCap_iff] at h
  grind

theorem unCln (xs : List ByteArray) : unenc encCln ([AV.sl (List.map eStr xs)]) = some (xs) := unenc_of encCln_inj (xs) rfl

def resCln1 (xs : List ByteArray) : AV × Heap := (.sl (xs.map eStr), [])

def preCln1 (xs : List ByteArray) : Bool := decide (xs.length * 16 ≤ 140737488355328)

def encClC1 (xs : List Cap) : List AV := [.sl (xs.map eCap)]

def encClC (a : (List Cap)) : List AV := encClC1 a

theorem encClC_inj (a a' : (List Cap)) (h : encClC a = encClC a') : a = a' := by
  simp only [encClC, encClC1] at h
  try simp [strs_inj, ints_inj, eCaps_inj, eCap_iff] at h
  grind

theorem unClC (xs : List Cap) : unenc encClC ([AV.sl (List.map eCap xs)]) = some (xs) := unenc_of encClC_inj (xs) rfl

def resClC1 (xs : List Cap) : AV × Heap := (.sl (xs.map eCap), [])

def preClC1 (xs : List Cap) : Bool := decide (xs.length * 56 ≤ 140737488355328)

def stCpO (l : List Cap) (out : List Cap) (k : Nat) : St := ⟨[(8, vI k), (7, vI l.length), (6, .sl (l.map eCap)), (3, .own 3)], [(3, ⟨false, 41, 6, out.map eCap⟩)]⟩

def stCpO1 (a : (List Cap) × (List Cap) × Nat) : St := stCpO a.1 a.2.1 a.2.2

theorem stCpO_inj (a a' : (List Cap) × (List Cap) × Nat) (h : stCpO1 a = stCpO1 a') : a = a' := by
  simp only [stCpO1, stCpO] at h
  try simp [strs_inj, ints_inj, eCaps_inj, eCap_iff] at h
  grind

theorem unstCpO (l : List Cap) (out : List Cap) (k : Nat) : unenc stCpO1 (St.mk [(8, (vI (↑k : Int))), (7, (vI (↑(List.length l) : Int))), (6, AV.sl (List.map eCap l)), (3, .own 3)] [(3, Blk.mk false 41 6 (List.map eCap out))]) = some (l, out, k) := unenc_of stCpO_inj (l, out, k) rfl

theorem unstCpO0 (l : List Cap)  : unenc stCpO1 (St.mk [(8, (vI (0 : Int))), (7, (vI (↑(List.length l) : Int))), (6, AV.sl (List.map eCap l)), (3, .own 3)] [(3, Blk.mk false 41 6 [])]) = some (l, [], 0) := unenc_of stCpO_inj (l, [], 0) rfl

def outCpO (l : List Cap) (out : List Cap) (k : Nat) : T (Ex × St) := .ret (.exit 0, ⟨[(3, .own 3)], [(3, ⟨false, 41, 6, (out ++ l.drop k).map eCap⟩)]⟩)

noncomputable def prlCpO (l : List Cap) (out : List Cap) (k : Nat) : Bool := F.capSm l && decide (k ≤ l.length) && decide (out.length = k)

noncomputable def lpCpO : Nat × (St → T (Ex × St)) := (3, lpo [8, 7, 6, 3] [3] stCpO1 (fun a => prlCpO a.1 a.2.1 a.2.2) fun a => outCpO a.1 a.2.1 a.2.2)

def encCpO1 (l : List Cap) : List AV := [.sl (l.map eCap)]

def encCpO (a : (List Cap)) : List AV := encCpO1 a

theorem encCpO_inj (a a' : (List Cap)) (h : encCpO a = encCpO a') : a = a' := by
  simp only [encCpO, encCpO1] at h
  try simp [strs_inj, ints_inj, eCaps_inj, eCap_iff] at h
  grind

theorem unCpO (l : List Cap) : unenc encCpO ([AV.sl (List.map eCap l)]) = some (l) := unenc_of encCpO_inj (l) rfl

def resCpO1 (l : List Cap) : AV × Heap := (.own 0, [(0, ⟨false, 41, 6, l.map eCap⟩)])

def preCpO1 (l : List Cap) : Bool := F.capSm l

end M
end Go.Proofs.YthcfbeckhgngiaaGreatDoor
