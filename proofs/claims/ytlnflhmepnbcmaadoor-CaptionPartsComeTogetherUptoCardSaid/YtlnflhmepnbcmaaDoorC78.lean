/- What is proved here: captions that lie apart are themselves again after Split and Join, on lists (no statement of the seat). -/
import Derived.Test.YtlnflhmepnbcmaaDoorC75
set_option linter.unusedVariables false
set_option linter.unusedSimpArgs false
set_option maxHeartbeats 1000000
namespace Go.Proofs.YtlnflhmepnbcmaaDoor

namespace K

theorem ins_map {α β : Type} (g : α → β) (lt : β → β → Bool) (c : α) : ∀ l : List α, ins lt (g c) (l.map g) = (ins (fun x y => lt (g x) (g y)) c l).map g
  | [] => rfl
  | d :: l => by
    simp only [List.map_cons, ins]
    cases lt (g c) (g d)
    · simp only [cond_false, List.map_cons, ins_map g lt c l]
    · rfl

theorem srt_map {α β : Type} (g : α → β) (lt : β → β → Bool) (xs : List α) : srt lt (xs.map g) = (srt (fun x y => lt (g x) (g y)) xs).map g := by
  have key : ∀ (xs acc : List α), (xs.map g).foldl (fun out c => ins lt c out) (acc.map g) = (xs.foldl (fun out c => ins (fun x y => lt (g x) (g y)) c out) acc).map g := by
    intro xs
    induction xs with
    | nil => intro acc; rfl
    | cons c xs ih => intro acc; simp only [List.map_cons, List.foldl_cons, ins_map, ih]
  exact key xs []

theorem SW.on {α β : Type} {lt : β → β → Bool} (h : SW lt) (g : α → β) : SW (fun x y => lt (g x) (g y)) := ⟨fun a b => h.asym _ _, fun a b c => h.tr _ _ _⟩

end K

namespace Jn

theorem seq_symm (a b : ByteArray) : F.seq a b = F.seq b a := by
  unfold F.seq
  by_cases h : a.toList = b.toList
  · rw [h]
  · have h2 : ¬ b.toList = a.toList := fun e => h e.symm
    rw [beq_eq_false_iff_ne.2 h, beq_eq_false_iff_ne.2 h2]

theorem sameSs_symm : ∀ (a b : List ByteArray), F.sameSs (a.zip b) = F.sameSs (b.zip a)
  | [], _ => by simp [F.sameSs]
  | _ :: _, [] => by simp [F.sameSs]
  | x :: a, y :: b => by
    have ih := sameSs_symm a b
    unfold F.sameSs at ih ⊢
    simp only [List.zip_cons_cons, List.all_cons]
    rw [ih, seq_symm]

theorem sameSL_symm (a b : List ByteArray) : F.sameSL a b = F.sameSL b a := by
  unfold F.sameSL
  rw [sameSs_symm]
  congr 1
  by_cases h : a.length = b.length
  · rw [decide_eq_true h, decide_eq_true h.symm]
  · rw [decide_eq_false h, decide_eq_false (fun e => h e.symm)]

def key (u v : Cap) : Bool := (u.row == v.row) && F.sameSL u.lines v.lines

theorem key_symm (u v : Cap) : key u v = key v u := by
  unfold key
  rw [sameSL_symm]
  congr 1
  by_cases h : u.row = v.row
  · rw [h]
  · rw [beq_eq_false_iff_ne.2 h, beq_eq_false_iff_ne.2 (fun e => h e.symm)]

theorem key_refl (u : Cap) : key u u = true := by simp [key, F.sameSL_refl]

/-- c as far as b. -/
def tr (b : Int) (c : Cap) : Cap := bif F.lt b c.to then ⟨c.fr, b, c.lines, c.row, c.bef, true⟩ else c

def cut (a b : Int) (c : Cap) : Cap := ⟨max c.fr a, min c.to b, c.lines, c.row, c.bef || F.lt c.fr (max c.fr a), c.aft || F.lt (min c.to b) c.to⟩

def act (a b : Int) (c : Cap) : Bool := !F.le (min c.to b) (max c.fr a)

theorem cut_eq (a b : Int) : ∀ l : List Cap, l.filterMap (F.cutC a b) = (l.filter (act a b)).map (cut a b)
  | [] => rfl
  | c :: l => by
    rw [List.filterMap_cons, List.filter_cons, cut_eq a b l]
    unfold F.cutC act
    cases F.le (min c.to b) (max c.fr a) <;> rfl

theorem tr_cut (b : Int) (c : Cap) (ha : c.aft = false) : (⟨c.fr, min c.to b, c.lines, c.row, c.bef, c.aft || F.lt (min c.to b) c.to⟩ : Cap) = tr b c := by
  unfold tr F.lt
  by_cases h : b < c.to
  · rw [decide_eq_true h, Int.min_eq_right (by omega), decide_eq_true h, ha]; rfl
  · rw [decide_eq_false h, Int.min_eq_left (by omega), decide_eq_false (by omega), Bool.or_false]; rfl

structure Ok (l : List Cap) : Prop where
  nd : l.Nodup
  ap : ∀ u ∈ l, ∀ v ∈ l, u ≠ v → u.fr ≤ v.to → v.fr ≤ u.to → key u v = false
  lt : ∀ c ∈ l, c.fr < c.to
  nb : ∀ c ∈ l, c.bef = false ∧ c.aft = false

theorem act_old {a b : Int} {c : Cap} (hab : a < b) (h : c.fr < a) (hc : act a b c = true) : a < c.to := by
  simp only [act, F.le, Bool.not_eq_true', decide_eq_false_iff_not] at hc
  omega

theorem act_iff {a b : Int} {c : Cap} (hab : a < b) (h : c.fr < c.to) : act a b c = true ↔ c.fr < b ∧ a < c.to := by
  simp only [act, F.le, Bool.not_eq_true', decide_eq_false_iff_not]
  omega

theorem findI_first {α : Type} {p : α → Bool} : ∀ {l : List α} {k r : Nat} {y : α}, l[r]? = some y → p y = true → (∀ i x, i < r → l[i]? = some x → p x = false) → F.findI p k l = some (k + r)
  | x :: l, k, 0, y, h1, h2, _ => by
    cases h1
    unfold F.findI
    rw [h2]; rfl
  | x :: l, k, r + 1, y, h1, h2, h3 => by
    unfold F.findI
    rw [h3 0 x (by omega) rfl, cond_false, findI_first (k := k + 1) (r := r) h1 h2 fun i z hi hz => h3 (i + 1) z (by omega) hz]
    congr 1
    omega

theorem nodup_at {α : Type} {xs : List α} (h : xs.Nodup) {i j : Nat} {c : α} (hi : xs[i]? = some c) (hj : xs[j]? = some c) : i = j := by
  have h1 := List.getElem?_eq_some_iff.1 hi
  have h2 := List.getElem?_eq_some_iff.1 hj
  have hp := List.pairwise_iff_getElem.1 h
  rcases Nat.lt_trichotomy i j with hlt | heq | hgt
  · exact absurd (h1.2.trans h2.2.symm) (hp i j h1.1 h2.1 hlt)
  · exact heq
  · exact absurd (h2.2.trans h1.2.symm) (hp j i h2.1 h1.1 hgt)

open Classical in
/-- What is joined, where those of done have been extended. -/
noncomputable def st (b0 b1 : Int) (P done : List Cap) : List Cap :=
  P.map (fun c => if c ∈ done then tr b1 c else tr b0 c) ++ (done.filter fun c => decide (b0 ≤ c.fr)).map (tr b1)

theorem step {l : List Cap} (ok : Ok l) {b0 b1 : Int} (hb : b0 < b1) {P : List Cap} (hP : P.Nodup) (hPm : ∀ c, c ∈ P ↔ c ∈ l ∧ c.fr < b0) {done : List Cap} {c : Cap} (hd : ∀ d ∈ done, d ∈ l ∧ act b0 b1 d = true) (hc : c ∈ l) (ha : act b0 b1 c = true) (hcd : c ∉ done) :
    F.jnS b0 (st b0 b1 P done) (cut b0 b1 c) = st b0 b1 P (done ++ [c]) := by
  classical
  obtain ⟨nb1, nb2⟩ := ok.nb c hc
  by_cases hnew : b0 ≤ c.fr
  · have hbef : (cut b0 b1 c).bef = false := by
      simp only [cut, nb1, Bool.false_or, F.lt, decide_eq_false_iff_not]
      omega
    have hI : F.jnI b0 (st b0 b1 P done) (cut b0 b1 c) = none := by unfold F.jnI; rw [hbef]; rfl
    have hcut : cut b0 b1 c = tr b1 c := by
      rw [← tr_cut b1 c nb2]
      have hm : max c.fr b0 = c.fr := Int.max_eq_left hnew
      have hl : F.lt c.fr c.fr = false := by simp [F.lt]
      simp only [cut, hm, hl, Bool.or_false]
    unfold F.jnS
    rw [hI]
    simp only
    rw [hcut]
    unfold st
    rw [List.filter_append, List.map_append, ← List.append_assoc]
    have e2 : (List.filter (fun c => decide (b0 ≤ c.fr)) [c]).map (tr b1) = [tr b1 c] := by
      rw [List.filter_cons, decide_eq_true hnew]; rfl
    rw [e2]
    congr 2
    refine List.map_congr_left fun x hx => ?_
    have hne : x ≠ c := fun e => by have := ((hPm x).1 hx).2; rw [e] at this; omega
    simp [hne]
  · have hold : c.fr < b0 := by omega
    have hto := act_old hb hold ha
    obtain ⟨i, hi⟩ := List.getElem?_of_mem ((hPm c).2 ⟨hc, hold⟩)
    have hil := (List.getElem?_eq_some_iff.1 hi).1
    have hmax : max c.fr b0 = b0 := Int.max_eq_right (by omega)
    have hlt : F.lt c.fr b0 = true := by simp [F.lt, hold]
    have hbef : (cut b0 b1 c).bef = true := by simp only [cut, hmax, hlt, Bool.or_true]
    have hfr : (cut b0 b1 c).fr = b0 := hmax
    have htr0 : tr b0 c = ⟨c.fr, b0, c.lines, c.row, c.bef, true⟩ := by
      unfold tr F.lt; rw [decide_eq_true hto]; rfl
    have hat : (st b0 b1 P done)[i]? = some (tr b0 c) := by
      unfold st
      rw [List.getElem?_append_left (by simpa using hil), List.getElem?_map, hi]
      simp [hcd]
    have hI : F.findI (F.contd (cut b0 b1 c)) 0 (st b0 b1 P done) = some (0 + i) := by
      refine findI_first hat ?_ fun j x hj hx => ?_
      · rw [htr0]
        unfold F.contd
        rw [hfr]
        simp [cut, F.sameSL_refl]
      · unfold st at hx
        rw [List.getElem?_append_left (by rw [List.length_map]; omega), List.getElem?_map] at hx
        obtain ⟨d, hdj, rfl⟩ := Option.map_eq_some_iff.1 hx
        have hne : d ≠ c := fun e => by
          rw [e] at hdj
          have := nodup_at hP hdj hi
          omega
        obtain ⟨hdl, hdf⟩ := (hPm d).1 (List.mem_of_getElem? hdj)
        have hnbd := ok.nb d hdl
        unfold F.contd
        rw [hfr]
        by_cases hdd : d ∈ done
        · rw [if_pos hdd]
          have hdt := act_old hb hdf (hd d hdd).2
          have : ((tr b1 d).to == b0) = false := by
            refine beq_eq_false_iff_ne.2 ?_
            unfold tr F.lt
            by_cases h : b1 < d.to
            · rw [decide_eq_true h]
              show b1 ≠ b0
              omega
            · rw [decide_eq_false h]
              show d.to ≠ b0
              omega
          rw [this, Bool.and_false, Bool.false_and, Bool.false_and]
        · rw [if_neg hdd]
          by_cases hdt : b0 < d.to
          · have hk := ok.ap d hdl c hc hne (by omega) (by omega)
            have e : tr b0 d = ⟨d.fr, b0, d.lines, d.row, d.bef, true⟩ := by unfold tr F.lt; rw [decide_eq_true hdt]; rfl
            rw [e]
            unfold key at hk
            show (true && (b0 == b0) && (d.row == c.row) && F.sameSL d.lines c.lines) = false
            rw [beq_self_eq_true, Bool.true_and, Bool.true_and]
            exact hk
          · have e : tr b0 d = d := by unfold tr F.lt; rw [decide_eq_false hdt]; rfl
            rw [e, hnbd.2, Bool.false_and, Bool.false_and, Bool.false_and]
    have hI2 : F.jnI b0 (st b0 b1 P done) (cut b0 b1 c) = some i := by
      unfold F.jnI
      rw [hbef, hfr, beq_self_eq_true, Bool.true_and, cond_true, hI, Nat.zero_add]
    unfold F.jnS
    rw [hI2]
    simp only
    rw [M.getD_at hat]
    have hU : F.jnU (cut b0 b1 c) (tr b0 c) = tr b1 c := by
      rw [htr0, ← tr_cut b1 c nb2]
      rfl
    rw [hU]
    unfold st
    rw [List.set_append_left _ _ (by simpa using hil), List.filter_append]
    have e2 : List.filter (fun c => decide (b0 ≤ c.fr)) [c] = [] := by
      rw [List.filter_cons, decide_eq_false hnew]; rfl
    rw [e2, List.append_nil]
    congr 1
    refine List.ext_getElem? fun j => ?_
    by_cases hj : j = i
    · subst hj
      rw [List.getElem?_set_self (by simpa using hil), List.getElem?_map, hi]
      simp
    · rw [List.getElem?_set_ne (fun e => hj e.symm), List.getElem?_map, List.getElem?_map]
      cases hx : P[j]? with
      | none => rfl
      | some d =>
        have hne : d ≠ c := fun e => by
          rw [e] at hx
          exact hj (nodup_at hP hx hi)
        simp [hne]

theorem steps {l : List Cap} (ok : Ok l) {b0 b1 : Int} (hb : b0 < b1) {P : List Cap} (hP : P.Nodup) (hPm : ∀ c, c ∈ P ↔ c ∈ l ∧ c.fr < b0) :
    ∀ (rest done : List Cap), (done ++ rest).Nodup → (∀ d ∈ done ++ rest, d ∈ l ∧ act b0 b1 d = true) → (rest.map (cut b0 b1)).foldl (F.jnS b0) (st b0 b1 P done) = st b0 b1 P (done ++ rest)
  | [], done, _, _ => by simp
  | c :: rest, done, h1, h2 => by
    have hc := h2 c (by simp)
    have hcd : c ∉ done := fun e => by
      rw [List.nodup_append] at h1
      exact h1.2.2 c e c (by simp) rfl
    rw [List.map_cons, List.foldl_cons, step ok hb hP hPm (fun d hd => h2 d (by simp [hd])) hc.1 hc.2 hcd]
    have e : done ++ c :: rest = (done ++ [c]) ++ rest := by simp
    rw [e] at h1 h2 ⊢
    exact steps ok hb hP hPm rest (done ++ [c]) h1 h2

structure Inv (l : List Cap) (b : Int) (P : List Cap) : Prop where
  nd : P.Nodup
  mem : ∀ c, c ∈ P ↔ c ∈ l ∧ c.fr < b
  fil : ∀ z, P.filter (K.eqv F.ltC z) = (l.filter fun c => decide (c.fr < b)).filter (K.eqv F.ltC z)

theorem filter_eqv {α : Type} {lt : α → α → Bool} {z : α} (p : α → Bool) {xs ys : List α} (h : xs.filter (K.eqv lt z) = ys.filter (K.eqv lt z)) : (xs.filter p).filter (K.eqv lt z) = (ys.filter p).filter (K.eqv lt z) := by
  rw [List.filter_filter, List.filter_filter]
  have e : ∀ l : List α, l.filter (fun a => K.eqv lt z a && p a) = (l.filter (K.eqv lt z)).filter p := fun l => by
    rw [List.filter_filter]
    exact List.filter_congr fun a _ => Bool.and_comm _ _
  rw [e, e, h]

theorem eqv_C {z c : Cap} : K.eqv F.ltC z c = true ↔ z.fr = c.fr ∧ z.to = c.to := by
  unfold K.eqv
  rw [F.ltC_eq, F.ltC_eq, Bool.and_eq_true, Bool.not_eq_true', Bool.not_eq_true']
  constructor
  · rintro ⟨h1, h2⟩
    have n1 : ¬ (z.fr < c.fr ∨ (z.fr = c.fr ∧ z.to < c.to)) := fun e => by rw [F.before_iff.2 e] at h1; cases h1
    have n2 : ¬ (c.fr < z.fr ∨ (c.fr = z.fr ∧ c.to < z.to)) := fun e => by rw [F.before_iff.2 e] at h2; cases h2
    omega
  · rintro ⟨h1, h2⟩
    constructor
    · cases h : F.before z c
      · rfl
      · rw [F.before_iff] at h; omega
    · cases h : F.before c z
      · rfl
      · rw [F.before_iff] at h; omega

/-- One segment. -/
theorem seg {l : List Cap} (ok : Ok l) {b0 b1 : Int} (hb : b0 < b1) {P : List Cap} (inv : Inv l b0 P) :
    ∃ P', Inv l b1 P' ∧ (K.srt F.ltC (l.filterMap (F.cutC b0 b1))).foldl (F.jnS b0) (P.map (tr b0)) = P'.map (tr b1) := by
  classical
  obtain ⟨hP, hPm, hPf⟩ := inv
  rw [cut_eq, K.srt_map]
  have hsw := F.swC.on (cut b0 b1)
  have hst := K.srt_stb hsw (l.filter (act b0 b1))
  generalize K.srt (fun x y => F.ltC (cut b0 b1 x) (cut b0 b1 y)) (l.filter (act b0 b1)) = cs at hst
  have hmem : ∀ c, c ∈ cs ↔ c ∈ l ∧ act b0 b1 c = true := fun c => by rw [hst.perm.mem_iff, List.mem_filter]
  have hnd : cs.Nodup := hst.perm.nodup_iff.2 (ok.nd.filter _)
  have h0 : P.map (tr b0) = st b0 b1 P [] := by
    unfold st
    simp
  rw [h0, steps ok hb hP hPm cs [] (by simpa using hnd) (fun d hd => (hmem d).1 (by simpa using hd)), List.nil_append]
  have hN : ∀ c, c ∈ cs.filter (fun c => decide (b0 ≤ c.fr)) ↔ c ∈ l ∧ b0 ≤ c.fr ∧ c.fr < b1 := fun c => by
    rw [List.mem_filter, hmem, decide_eq_true_eq]
    constructor
    · rintro ⟨⟨h1, h2⟩, h3⟩
      have := (act_iff hb (ok.lt c h1)).1 h2
      exact ⟨h1, h3, this.1⟩
    · rintro ⟨h1, h2, h3⟩
      have := ok.lt c h1
      exact ⟨⟨h1, (act_iff hb this).2 ⟨h3, by omega⟩⟩, h2⟩
  refine ⟨P ++ cs.filter (fun c => decide (b0 ≤ c.fr)), ⟨?_, fun c => ?_, fun z => ?_⟩, ?_⟩
  · rw [List.nodup_append]
    refine ⟨hP, hnd.filter _, fun a ha b hb' e => ?_⟩
    subst e
    have h1 := ((hPm a).1 ha).2
    have h2 := ((hN a).1 hb').2.1
    omega
  · rw [List.mem_append, hPm, hN]
    constructor
    · rintro (⟨h1, h2⟩ | ⟨h1, h2, h3⟩)
      · exact ⟨h1, by omega⟩
      · exact ⟨h1, h3⟩
    · rintro ⟨h1, h2⟩
      by_cases h : c.fr < b0
      · exact .inl ⟨h1, h⟩
      · exact .inr ⟨h1, by omega, h2⟩
  · rw [List.filter_append, hPf]
    have hsel : ∀ (xs : List Cap) (p : Cap → Bool) (v : Bool), (∀ c ∈ xs, K.eqv F.ltC z c = true → p c = v) → (xs.filter p).filter (K.eqv F.ltC z) = bif v then xs.filter (K.eqv F.ltC z) else [] := by
      intro xs p v h
      rw [List.filter_filter]
      cases v
      · rw [cond_false, List.filter_eq_nil_iff]
        intro c hc hh
        rw [Bool.and_eq_true] at hh
        rw [h c hc hh.1] at hh
        cases hh.2
      · rw [cond_true]
        refine List.filter_congr fun c hc => ?_
        cases he : K.eqv F.ltC z c
        · rfl
        · rw [h c hc he]; rfl
    by_cases hz : z.fr < b0
    · rw [hsel l _ true (fun c _ hc => decide_eq_true (by have := (eqv_C.1 hc).1; omega)), hsel cs _ false (fun c _ hc => decide_eq_false (by have := (eqv_C.1 hc).1; omega)), hsel l _ true (fun c _ hc => decide_eq_true (by have := (eqv_C.1 hc).1; omega))]
      simp
    · rw [hsel l _ false (fun c _ hc => decide_eq_false (by have := (eqv_C.1 hc).1; omega)), hsel cs _ true (fun c _ hc => decide_eq_true (by have := (eqv_C.1 hc).1; omega)), cond_false, List.nil_append, cond_true]
      have hf := hst.fil z
      have hsub : ∀ c, K.eqv F.ltC z c = true → K.eqv (fun x y => F.ltC (cut b0 b1 x) (cut b0 b1 y)) z c = true := fun c hc => by
        have h1 := eqv_C.1 hc
        show K.eqv F.ltC (cut b0 b1 z) (cut b0 b1 c) = true
        rw [eqv_C]
        simp [cut, h1.1, h1.2]
      have e : ∀ xs : List Cap, xs.filter (K.eqv F.ltC z) = (xs.filter (K.eqv (fun x y => F.ltC (cut b0 b1 x) (cut b0 b1 y)) z)).filter (K.eqv F.ltC z) := fun xs => by
        rw [List.filter_filter]
        refine List.filter_congr fun c _ => ?_
        cases he : K.eqv F.ltC z c
        · rfl
        · rw [hsub c he]; rfl
      rw [e cs, hf, ← e]
      by_cases hz2 : z.fr < b1
      · rw [hsel l (fun c => decide (c.fr < b1)) true (fun c _ hc => decide_eq_true (by have := (eqv_C.1 hc).1; omega)), hsel l _ true (fun c hc he => (act_iff hb (ok.lt c hc)).2 (by have := (eqv_C.1 he).1; have := ok.lt c hc; omega))]
      · rw [hsel l (fun c => decide (c.fr < b1)) false (fun c _ hc => decide_eq_false (by have := (eqv_C.1 hc).1; omega)), hsel l _ false (fun c hc he => by
          cases h : act b0 b1 c
          · rfl
          · have := (act_iff hb (ok.lt c hc)).1 h
            have := (eqv_C.1 he).1
            omega)]
  · unfold st
    rw [List.map_append]
    congr 1
    refine List.map_congr_left fun c hc => ?_
    by_cases h : c ∈ cs
    · rw [if_pos h]
    · rw [if_neg h]
      obtain ⟨h1, h2⟩ := (hPm c).1 hc
      have h3 : ¬ b0 < c.to := fun e => h ((hmem c).2 ⟨h1, (act_iff hb (ok.lt c h1)).2 ⟨by omega, e⟩⟩)
      unfold tr F.lt
      rw [decide_eq_false h3, decide_eq_false (by omega)]
      rfl

/-- All segments. -/
theorem segs {l : List Cap} (ok : Ok l) : ∀ (r : List Int) (b0 : Int) (P : List Cap), (b0 :: r).Pairwise (· < ·) → Inv l b0 P → ∃ P' b, (b0 :: r).getLast? = some b ∧ Inv l b P' ∧ F.jnB (F.splitB l (b0 :: r)) (b0 :: r) (P.map (tr b0)) = P'.map (tr b)
  | [], b0, P, _, inv => ⟨P, b0, rfl, inv, by unfold F.splitB F.jnB; rfl⟩
  | b1 :: r, b0, P, hp, inv => by
    rw [List.pairwise_cons] at hp
    obtain ⟨P1, i1, e1⟩ := seg ok (hp.1 b1 (by simp)) inv
    obtain ⟨P2, b, g, i2, e2⟩ := segs ok r b1 P1 hp.2 i1
    refine ⟨P2, b, by rw [List.getLast?_cons_cons]; exact g, i2, ?_⟩
    rw [F.splitB, F.jnB, e1, e2]

theorem all {l : List Cap} (ok : Ok l) {bs : List Int} (hp : bs.Pairwise (· < ·)) {a b : Int} (ha : bs.head? = some a) (hb : bs.getLast? = some b) (h1 : ∀ c ∈ l, a ≤ c.fr) (h2 : ∀ c ∈ l, c.to ≤ b) (hs : K.Srt F.ltC l) :
    (F.jnB (F.splitB l bs) bs []).length = l.length ∧ K.srt F.ltC (F.jnB (F.splitB l bs) bs []) = l := by
  cases bs with
  | nil => cases ha
  | cons b0 r =>
    have ha : b0 = a := by simpa using ha
    subst ha
    have inv0 : Inv l b0 ([] : List Cap) := ⟨List.nodup_nil, fun c => ⟨fun h => absurd h List.not_mem_nil, fun h => by have := h1 c h.1; omega⟩, fun z => by
      have e : l.filter (fun c => decide (c.fr < b0)) = [] := List.filter_eq_nil_iff.2 fun c hc hh => by have := h1 c hc; have := of_decide_eq_true hh; omega
      rw [e]⟩
    obtain ⟨P, b', g, inv, e⟩ := segs ok r b0 [] hp inv0
    rw [hb] at g
    cases g
    have hid : P.map (tr b) = P := by
      refine (List.map_congr_left fun c hc => ?_).trans (List.map_id _)
      have := h2 c ((inv.mem c).1 hc).1
      unfold tr F.lt
      rw [decide_eq_false (by omega)]
      rfl
    rw [List.map_nil, hid] at e
    rw [e]
    have hlt : ∀ c ∈ l, c.fr < b := fun c hc => by have := h2 c hc; have := ok.lt c hc; omega
    have hfl : l.filter (fun c => decide (c.fr < b)) = l := List.filter_eq_self.2 fun c hc => decide_eq_true (hlt c hc)
    have hperm : l.Perm P := (List.perm_ext_iff_of_nodup ok.nd inv.nd).2 fun c => ⟨fun h => (inv.mem c).2 ⟨h, hlt c h⟩, fun h => ((inv.mem c).1 h).1⟩
    refine ⟨hperm.length_eq.symm, ?_⟩
    have hst : K.Stb F.ltC P l := ⟨hperm, hs, fun z => by rw [inv.fil z, hfl]⟩
    exact (hst.eq F.swC).symm

end Jn
end Go.Proofs.YtlnflhmepnbcmaaDoor
