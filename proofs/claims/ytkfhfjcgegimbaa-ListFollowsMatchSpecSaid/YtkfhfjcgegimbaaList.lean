/- What is proved here: what Check of the program and of the reference returns (chapter 6). -/
import Derived.Test.YtkfhfjcgegimbaaStr
import Derived.BigQuiet
import Derived.Deep.QuietTactic
namespace Go.Proofs.Ytkfhfjcgegimbaa
open Go.RowKit
set_option linter.unusedVariables false

/-- An entry of a playlist. -/
structure Ent where
  uri : ByteArray
  milli : Int
  brk : Bool
  date : Int
  key : ByteArray
  gap : Bool
  extra : List ByteArray
/-- A playlist. -/
structure Lst where
  target : Int
  first : Int
  breaks : Int
  entries : List Ent
  ended : Bool
def entR : Rd Ent := fun w S e cs => ∃ v, cs = [.string e.uri, .int .i64 e.milli, .bool e.brk, .int .i64 e.date, .string e.key, .bool e.gap, v] ∧
  e.uri.size ≤ 9223372036854775807 ∧ e.key.size ≤ 9223372036854775807 ∧ I64 e.milli ∧ I64 e.date ∧ SlV 1 16 strR w S e.extra v
theorem keeps_ent : Keeps entR := by
  rintro w w' S S' x cs hw hS ⟨v, rfl, h1, h2, h3, h4, h5⟩
  exact ⟨v, rfl, h1, h2, h3, h4, h5.keep keeps_str hw hS⟩
/-- The slice of entries, as a round of a loop meets it. -/
theorem ent_at {w : World} {S : Nat → Prop} {es : List Ent} {A : Option Addr} (h : SlR 7 entR w S es A) {k : Nat} (hk : k < es.length) :
    ∃ b off X c, A = some ⟨b, off, none⟩ ∧ S b ∧ w.cell? ⟨b, off + k * 7, none⟩ = some (.string es[k].uri) ∧ w.cell? ⟨b, off + k * 7 + 1, none⟩ = some (.int .i64 es[k].milli) ∧
      w.cell? ⟨b, off + k * 7 + 2, none⟩ = some (.bool es[k].brk) ∧ w.cell? ⟨b, off + k * 7 + 3, none⟩ = some (.int .i64 es[k].date) ∧ w.cell? ⟨b, off + k * 7 + 4, none⟩ = some (.string es[k].key) ∧
      w.cell? ⟨b, off + k * 7 + 5, none⟩ = some (.bool es[k].gap) ∧ w.cell? ⟨b, off + k * 7 + 6, none⟩ = some (.slice X es[k].extra.length c) ∧
      es[k].uri.size ≤ 9223372036854775807 ∧ es[k].key.size ≤ 9223372036854775807 ∧ I64 es[k].milli ∧ I64 es[k].date ∧
      es[k].extra.length ≤ c ∧ c ≤ 9223372036854775807 ∧ es[k].extra.length * 16 ≤ 140737488355328 ∧ SlR 1 strR w S es[k].extra X := by
  obtain ⟨b, off, cs, rfl, hb, ⟨v, rfl, h1, h2, h3, h4, X, c, rfl, h5, h6, h7, h8⟩, _, hc⟩ := h.at hk
  exact ⟨b, off, X, c, rfl, hb, hc 0 _ rfl, hc 1 _ rfl, hc 2 _ rfl, hc 3 _ rfl, hc 4 _ rfl, hc 5 _ rfl, hc 6 _ rfl, h1, h2, h3, h4, h5, h6, h7, h8⟩
theorem str_at {w : World} {S : Nat → Prop} {xs : List ByteArray} {A : Option Addr} (h : SlR 1 strR w S xs A) {k : Nat} (hk : k < xs.length) :
    ∃ b off, A = some ⟨b, off, none⟩ ∧ S b ∧ w.cell? ⟨b, off + k, none⟩ = some (.string xs[k]) ∧ xs[k].size ≤ 9223372036854775807 := by
  obtain ⟨b, off, cs, rfl, hb, ⟨rfl, h1⟩, _, hc⟩ := h.at hk
  exact ⟨b, off, rfl, hb, by simpa using hc 0 _ rfl, h1⟩

/-- The two bytes that a further line begins with. -/
def hx : ByteArray := ⟨#[35, 88]⟩
def extF : List ByteArray → Int
  | [] => 0
  | x :: r => if preB x hx = false ∨ visB x 32 = false then 3 else if 300 < x.size then 2 else extF r
def entF (e : Ent) (t : Int) : Int :=
  if uriB e.uri = false then 3 else if e.milli < 1 ∨ 3600000 < e.milli then 1 else if t < (e.milli + 500) / 1000 then 2 else
  if e.date < -1 ∨ 253402300799999 < e.date then 1 else if e.key.size ≠ 0 ∧ nameB e.key = false then 5 else if 20 < e.extra.length then 2 else extF e.extra

set_option maxHeartbeats 1600000 in
theorem entryFault_any (e : Ent) (t : Int) (X : Option Addr) (c : Nat) (w : World) (hu : e.uri.size ≤ 9223372036854775807) (hk : e.key.size ≤ 9223372036854775807)
    (hl : e.extra.length ≤ 9223372036854775807) (hX : SlR 1 strR w (In w) e.extra X) :
    Calls Try.prog 65 #[.agg #[.string e.uri, .int .i64 e.milli, .bool e.brk, .int .i64 e.date, .string e.key, .bool e.gap, .slice X e.extra.length c], .int .i64 t] w
      fun r w' => r = .returned (.int .i64 (entF e t)) ∧ Below w.heap.size w w' := by
  obtain ⟨u, m, bk, d, ky, g, xs⟩ := e
  simp only at hu hk hl hX ⊢
  by_cases h1 : uriB u = false
  · have H := Lib.hid (uriF_f h1)
    have HF : Hid (entF ⟨u, m, bk, d, ky, g, xs⟩ t = 3) := by unfold Hid entF; rw [if_pos h1]
    go_enter Try.func65, Try.ntmps65
    go_wp2_with (go_at_call 70; refine (uriFault_any _ _ hu).mono ?_; rintro r w' ⟨rfl, rfl⟩; rw [H.out])
    go_ret
    exact ⟨ret_int HF.out.symm, (Below.refl _ _).alloc (Nat.le_refl _) _⟩
  · have H := Lib.hid (uriF_t (by simpa using h1))
    by_cases h2 : m < 1 ∨ 3600000 < m
    · have ho : outB m 1 3600000 = true := outB_t h2
      have HF : Hid (entF ⟨u, m, bk, d, ky, g, xs⟩ t = 1) := by unfold Hid entF; rw [if_neg h1, if_pos h2]
      go_enter Try.func65, Try.ntmps65
      go_wp2_with (first | (go_at_call 70; refine (uriFault_any _ _ hu).mono ?_; rintro r w' ⟨rfl, rfl⟩; rw [H.out]) | (go_at_call 47; refine (out_any _ _ _ _).mono ?_; rintro r w' ⟨rfl, rfl⟩))
      go_ret
      exact ⟨ret_int HF.out.symm, (Below.refl _ _).alloc (Nat.le_refl _) _⟩
    · have ho : outB m 1 3600000 = false := outB_f (by omega) (by omega)
      have hm1 : 1 ≤ m := by omega
      have hm2 : m ≤ 3600000 := by omega
      by_cases h3 : t < (m + 500) / 1000
      · have HF : Hid (entF ⟨u, m, bk, d, ky, g, xs⟩ t = 2) := by unfold Hid entF; rw [if_neg h1, if_neg h2, if_pos h3]
        go_enter Try.func65, Try.ntmps65
        go_wp2_with (first | (go_at_call 70; refine (uriFault_any _ _ hu).mono ?_; rintro r w' ⟨rfl, rfl⟩; rw [H.out]) | (go_at_call 47; refine (out_any _ _ _ _).mono ?_; rintro r w' ⟨rfl, rfl⟩))
        go_ret
        exact ⟨ret_int HF.out.symm, (Below.refl _ _).alloc (Nat.le_refl _) _⟩
      · by_cases h4 : d < -1 ∨ 253402300799999 < d
        · have ho2 : outB d (-1) 253402300799999 = true := outB_t h4
          have HF : Hid (entF ⟨u, m, bk, d, ky, g, xs⟩ t = 1) := by unfold Hid entF; rw [if_neg h1, if_neg h2, if_neg h3, if_pos h4]
          go_enter Try.func65, Try.ntmps65
          go_wp2_with (first | (go_at_call 70; refine (uriFault_any _ _ hu).mono ?_; rintro r w' ⟨rfl, rfl⟩; rw [H.out]) | (go_at_call 47; refine (out_any _ _ _ _).mono ?_; rintro r w' ⟨rfl, rfl⟩) | (go_at_call 71; refine (isName_any _ _ hk).mono ?_; rintro r w' ⟨rfl, rfl⟩))
          go_ret
          exact ⟨ret_int HF.out.symm, (Below.refl _ _).alloc (Nat.le_refl _) _⟩
        · have ho2 : outB d (-1) 253402300799999 = false := outB_f (by omega) (by omega)
          by_cases h5 : ky.size ≠ 0 ∧ nameB ky = false
          · have HF : Hid (entF ⟨u, m, bk, d, ky, g, xs⟩ t = 5) := by unfold Hid entF; rw [if_neg h1, if_neg h2, if_neg h3, if_neg h4, if_pos h5]
            obtain ⟨h5, hn⟩ := h5
            have h6 : ¬ ky.toList = [] := ne_nil_of_size h5
            have h7 : ky.toList.isEmpty = false := by simp [h6]
            go_enter Try.func65, Try.ntmps65
            go_wp2_with (first | (go_at_call 70; refine (uriFault_any _ _ hu).mono ?_; rintro r w' ⟨rfl, rfl⟩; rw [H.out]) | (go_at_call 47; refine (out_any _ _ _ _).mono ?_; rintro r w' ⟨rfl, rfl⟩) | (go_at_call 71; refine (isName_any _ _ hk).mono ?_; rintro r w' ⟨rfl, rfl⟩))
            go_ret
            exact ⟨ret_int HF.out.symm, (Below.refl _ _).alloc (Nat.le_refl _) _⟩
          · by_cases h8 : 20 < xs.length
            · have HF : Hid (entF ⟨u, m, bk, d, ky, g, xs⟩ t = 2) := by unfold Hid entF; rw [if_neg h1, if_neg h2, if_neg h3, if_neg h4, if_neg h5, if_pos h8]
              by_cases hz : ky.size = 0
              · have h6 : ky.toList = [] := nil_of_size hz
                have h7 : ky.toList.isEmpty = true := by simp [h6]
                clear hz h5
                go_enter Try.func65, Try.ntmps65
                go_wp2_with (first | (go_at_call 70; refine (uriFault_any _ _ hu).mono ?_; rintro r w' ⟨rfl, rfl⟩; rw [H.out]) | (go_at_call 47; refine (out_any _ _ _ _).mono ?_; rintro r w' ⟨rfl, rfl⟩) | (go_at_call 71; refine (isName_any _ _ hk).mono ?_; rintro r w' ⟨rfl, rfl⟩))
                go_ret
                exact ⟨ret_int HF.out.symm, (Below.refl _ _).alloc (Nat.le_refl _) _⟩
              · have hn : nameB ky = true := by simpa [hz] using h5
                have h6 : ¬ ky.toList = [] := ne_nil_of_size hz
                have h7 : ky.toList.isEmpty = false := by simp [h6]
                clear h5
                go_enter Try.func65, Try.ntmps65
                go_wp2_with (first | (go_at_call 70; refine (uriFault_any _ _ hu).mono ?_; rintro r w' ⟨rfl, rfl⟩; rw [H.out]) | (go_at_call 47; refine (out_any _ _ _ _).mono ?_; rintro r w' ⟨rfl, rfl⟩) | (go_at_call 71; refine (isName_any _ _ hk).mono ?_; rintro r w' ⟨rfl, rfl⟩))
                go_ret
                exact ⟨ret_int HF.out.symm, (Below.refl _ _).alloc (Nat.le_refl _) _⟩
            · have HF : Hid (entF ⟨u, m, bk, d, ky, g, xs⟩ t = extF xs) := by unfold Hid entF; rw [if_neg h1, if_neg h2, if_neg h3, if_neg h4, if_neg h5, if_neg h8]
              by_cases hz : ky.size = 0
              · have h6 : ky.toList = [] := nil_of_size hz
                have h7 : ky.toList.isEmpty = true := by simp [h6]
                clear hz h5
                go_enter Try.func65, Try.ntmps65
                go_wp2_with (first | (go_at_call 70; refine (uriFault_any _ _ hu).mono ?_; rintro r w' ⟨rfl, rfl⟩; rw [H.out]) | (go_at_call 47; refine (out_any _ _ _ _).mono ?_; rintro r w' ⟨rfl, rfl⟩) | (go_at_call 71; refine (isName_any _ _ hk).mono ?_; rintro r w' ⟨rfl, rfl⟩))
                go_loop [47] (fun i => ∃ k : Nat, k ≤ xs.length ∧ i = .int .i64 k ∧ Hid (extF (xs.drop k) = extF xs)) (fun i => xs.length - (intOf i).toNat)
                case atStart => exact ⟨0, Nat.zero_le _, rfl, rfl⟩
                case round =>
                  obtain ⟨k, hk, rfl, hv⟩ := hrel
                  by_cases hlt : k < xs.length
                  · have hd := Lib.hid (drop_cons hlt)
                    obtain ⟨b, off, rfl, hb, hcell, hsz⟩ := str_at hX hlt
                    have hb' : b < w.heap.size := hb
                    cases hp : preB xs[k] hx <;> cases hvi : visB xs[k] 32 <;> by_cases h300 : 300 < xs[k].size
                    all_goals
                      go_wp2_with (first | (go_at_call 72; refine (hasPrefix_any _ hx _ hsz (by decide)).mono ?_; rintro r w' ⟨rfl, rfl⟩) | (go_at_call 73; refine (visible_any _ _ _ hsz).mono ?_; rintro r w' ⟨rfl, rfl⟩))
                      first
                      | (go_ret; exact ⟨ret_int (by rw [HF.out, ← hv.out, hd.out, extF]; simp [hp, hvi, h300]), (Below.refl _ _).alloc (Nat.le_refl _) _⟩)
                      | (go_round
                         case rel => exact ⟨k + 1, by omega, by go_num, Lib.hid (by have h := hv.out; rw [hd.out, extF] at h; simpa [hp, hvi, h300] using h)⟩
                         case measure => simp [intOf]; omega)
                  · go_wp2
                    go_ret
                    exact ⟨ret_int (by rw [HF.out, ← hv.out, List.drop_eq_nil_of_le (by omega), extF]), (Below.refl _ _).alloc (Nat.le_refl _) _⟩
              · have hn : nameB ky = true := by simpa [hz] using h5
                have h6 : ¬ ky.toList = [] := ne_nil_of_size hz
                have h7 : ky.toList.isEmpty = false := by simp [h6]
                clear h5
                go_enter Try.func65, Try.ntmps65
                go_wp2_with (first | (go_at_call 70; refine (uriFault_any _ _ hu).mono ?_; rintro r w' ⟨rfl, rfl⟩; rw [H.out]) | (go_at_call 47; refine (out_any _ _ _ _).mono ?_; rintro r w' ⟨rfl, rfl⟩) | (go_at_call 71; refine (isName_any _ _ hk).mono ?_; rintro r w' ⟨rfl, rfl⟩))
                go_loop [47] (fun i => ∃ k : Nat, k ≤ xs.length ∧ i = .int .i64 k ∧ Hid (extF (xs.drop k) = extF xs)) (fun i => xs.length - (intOf i).toNat)
                case atStart => exact ⟨0, Nat.zero_le _, rfl, rfl⟩
                case round =>
                  obtain ⟨k, hk, rfl, hv⟩ := hrel
                  by_cases hlt : k < xs.length
                  · have hd := Lib.hid (drop_cons hlt)
                    obtain ⟨b, off, rfl, hb, hcell, hsz⟩ := str_at hX hlt
                    have hb' : b < w.heap.size := hb
                    cases hp : preB xs[k] hx <;> cases hvi : visB xs[k] 32 <;> by_cases h300 : 300 < xs[k].size
                    all_goals
                      go_wp2_with (first | (go_at_call 72; refine (hasPrefix_any _ hx _ hsz (by decide)).mono ?_; rintro r w' ⟨rfl, rfl⟩) | (go_at_call 73; refine (visible_any _ _ _ hsz).mono ?_; rintro r w' ⟨rfl, rfl⟩))
                      first
                      | (go_ret; exact ⟨ret_int (by rw [HF.out, ← hv.out, hd.out, extF]; simp [hp, hvi, h300]), (Below.refl _ _).alloc (Nat.le_refl _) _⟩)
                      | (go_round
                         case rel => exact ⟨k + 1, by omega, by go_num, Lib.hid (by have h := hv.out; rw [hd.out, extF] at h; simpa [hp, hvi, h300] using h)⟩
                         case measure => simp [intOf]; omega)
                  · go_wp2
                    go_ret
                    exact ⟨ret_int (by rw [HF.out, ← hv.out, List.drop_eq_nil_of_le (by omega), extF]), (Below.refl _ _).alloc (Nat.le_refl _) _⟩

set_option maxHeartbeats 1600000 in
theorem checkEntry_any (e : Ent) (t : Int) (X : Option Addr) (c : Nat) (w : World) (hu : e.uri.size ≤ 9223372036854775807) (hk : e.key.size ≤ 9223372036854775807)
    (hl : e.extra.length ≤ 9223372036854775807) (hX : SlR 1 strR w (In w) e.extra X) :
    Calls Try.prog 66 #[.agg #[.string e.uri, .int .i64 e.milli, .bool e.brk, .int .i64 e.date, .string e.key, .bool e.gap, .slice X e.extra.length c], .int .i64 t] w
      fun r w' => r = .returned (.int .i64 (entF e t)) ∧ Below w.heap.size w w' := by
  obtain ⟨u, m, bk, d, ky, g, xs⟩ := e
  simp only at hu hk hl hX ⊢
  by_cases h1 : uriB u = false
  · skip
    have HF : Hid (entF ⟨u, m, bk, d, ky, g, xs⟩ t = 3) := by unfold Hid entF; rw [if_pos h1]
    go_enter Try.func66, Try.ntmps66
    go_wp2_with (first | (go_at_call 74; refine (isUri_any _ _ hu).mono ?_; rintro r w' ⟨rfl, rfl⟩) | (go_at_call 42; refine (within_any _ _ _ _).mono ?_; rintro r w' ⟨rfl, rfl⟩) | (go_at_call 75; refine (refIsName_any _ _ hk).mono ?_; rintro r w' ⟨rfl, rfl⟩))
    go_ret
    exact ⟨ret_int HF.out.symm, (Below.refl _ _).alloc (Nat.le_refl _) _⟩
  · have h1t : uriB u = true := by simpa using h1
    by_cases h2 : m < 1 ∨ 3600000 < m
    · have ho : outB m 1 3600000 = true := outB_t h2
      have HF : Hid (entF ⟨u, m, bk, d, ky, g, xs⟩ t = 1) := by unfold Hid entF; rw [if_neg h1, if_pos h2]
      go_enter Try.func66, Try.ntmps66
      go_wp2_with (first | (go_at_call 74; refine (isUri_any _ _ hu).mono ?_; rintro r w' ⟨rfl, rfl⟩) | (go_at_call 42; refine (within_any _ _ _ _).mono ?_; rintro r w' ⟨rfl, rfl⟩) | (go_at_call 75; refine (refIsName_any _ _ hk).mono ?_; rintro r w' ⟨rfl, rfl⟩))
      go_ret
      exact ⟨ret_int HF.out.symm, (Below.refl _ _).alloc (Nat.le_refl _) _⟩
    · have ho : outB m 1 3600000 = false := outB_f (by omega) (by omega)
      have hm1 : 1 ≤ m := by omega
      have hm2 : m ≤ 3600000 := by omega
      by_cases h3 : t < (m + 500) / 1000
      · have HF : Hid (entF ⟨u, m, bk, d, ky, g, xs⟩ t = 2) := by unfold Hid entF; rw [if_neg h1, if_neg h2, if_pos h3]
        go_enter Try.func66, Try.ntmps66
        go_wp2_with (first | (go_at_call 74; refine (isUri_any _ _ hu).mono ?_; rintro r w' ⟨rfl, rfl⟩) | (go_at_call 42; refine (within_any _ _ _ _).mono ?_; rintro r w' ⟨rfl, rfl⟩) | (go_at_call 75; refine (refIsName_any _ _ hk).mono ?_; rintro r w' ⟨rfl, rfl⟩))
        go_ret
        exact ⟨ret_int HF.out.symm, (Below.refl _ _).alloc (Nat.le_refl _) _⟩
      · by_cases h4 : d < -1 ∨ 253402300799999 < d
        · have ho2 : outB d (-1) 253402300799999 = true := outB_t h4
          have HF : Hid (entF ⟨u, m, bk, d, ky, g, xs⟩ t = 1) := by unfold Hid entF; rw [if_neg h1, if_neg h2, if_neg h3, if_pos h4]
          go_enter Try.func66, Try.ntmps66
          go_wp2_with (first | (go_at_call 74; refine (isUri_any _ _ hu).mono ?_; rintro r w' ⟨rfl, rfl⟩) | (go_at_call 42; refine (within_any _ _ _ _).mono ?_; rintro r w' ⟨rfl, rfl⟩) | (go_at_call 75; refine (refIsName_any _ _ hk).mono ?_; rintro r w' ⟨rfl, rfl⟩))
          go_ret
          exact ⟨ret_int HF.out.symm, (Below.refl _ _).alloc (Nat.le_refl _) _⟩
        · have ho2 : outB d (-1) 253402300799999 = false := outB_f (by omega) (by omega)
          by_cases h5 : ky.size ≠ 0 ∧ nameB ky = false
          · have HF : Hid (entF ⟨u, m, bk, d, ky, g, xs⟩ t = 5) := by unfold Hid entF; rw [if_neg h1, if_neg h2, if_neg h3, if_neg h4, if_pos h5]
            obtain ⟨h5, hn⟩ := h5
            have h6 : ¬ ky.toList = [] := ne_nil_of_size h5
            have h7 : ky.toList.isEmpty = false := by simp [h6]
            go_enter Try.func66, Try.ntmps66
            go_wp2_with (first | (go_at_call 74; refine (isUri_any _ _ hu).mono ?_; rintro r w' ⟨rfl, rfl⟩) | (go_at_call 42; refine (within_any _ _ _ _).mono ?_; rintro r w' ⟨rfl, rfl⟩) | (go_at_call 75; refine (refIsName_any _ _ hk).mono ?_; rintro r w' ⟨rfl, rfl⟩))
            go_ret
            exact ⟨ret_int HF.out.symm, (Below.refl _ _).alloc (Nat.le_refl _) _⟩
          · by_cases h8 : 20 < xs.length
            · have HF : Hid (entF ⟨u, m, bk, d, ky, g, xs⟩ t = 2) := by unfold Hid entF; rw [if_neg h1, if_neg h2, if_neg h3, if_neg h4, if_neg h5, if_pos h8]
              by_cases hz : ky.size = 0
              · have h6 : ky.toList = [] := nil_of_size hz
                have h7 : ky.toList.isEmpty = true := by simp [h6]
                clear hz h5
                go_enter Try.func66, Try.ntmps66
                go_wp2_with (first | (go_at_call 74; refine (isUri_any _ _ hu).mono ?_; rintro r w' ⟨rfl, rfl⟩) | (go_at_call 42; refine (within_any _ _ _ _).mono ?_; rintro r w' ⟨rfl, rfl⟩) | (go_at_call 75; refine (refIsName_any _ _ hk).mono ?_; rintro r w' ⟨rfl, rfl⟩))
                go_ret
                exact ⟨ret_int HF.out.symm, (Below.refl _ _).alloc (Nat.le_refl _) _⟩
              · have hn : nameB ky = true := by simpa [hz] using h5
                have h6 : ¬ ky.toList = [] := ne_nil_of_size hz
                have h7 : ky.toList.isEmpty = false := by simp [h6]
                clear h5
                go_enter Try.func66, Try.ntmps66
                go_wp2_with (first | (go_at_call 74; refine (isUri_any _ _ hu).mono ?_; rintro r w' ⟨rfl, rfl⟩) | (go_at_call 42; refine (within_any _ _ _ _).mono ?_; rintro r w' ⟨rfl, rfl⟩) | (go_at_call 75; refine (refIsName_any _ _ hk).mono ?_; rintro r w' ⟨rfl, rfl⟩))
                go_ret
                exact ⟨ret_int HF.out.symm, (Below.refl _ _).alloc (Nat.le_refl _) _⟩
            · have HF : Hid (entF ⟨u, m, bk, d, ky, g, xs⟩ t = extF xs) := by unfold Hid entF; rw [if_neg h1, if_neg h2, if_neg h3, if_neg h4, if_neg h5, if_neg h8]
              by_cases hz : ky.size = 0
              · have h6 : ky.toList = [] := nil_of_size hz
                have h7 : ky.toList.isEmpty = true := by simp [h6]
                clear hz h5
                go_enter Try.func66, Try.ntmps66
                go_wp2_with (first | (go_at_call 74; refine (isUri_any _ _ hu).mono ?_; rintro r w' ⟨rfl, rfl⟩) | (go_at_call 42; refine (within_any _ _ _ _).mono ?_; rintro r w' ⟨rfl, rfl⟩) | (go_at_call 75; refine (refIsName_any _ _ hk).mono ?_; rintro r w' ⟨rfl, rfl⟩))
                go_loop [5] (fun i => ∃ k : Nat, k ≤ xs.length ∧ i = .int .i64 k ∧ Hid (extF (xs.drop k) = extF xs)) (fun i => xs.length - (intOf i).toNat)
                case atStart => exact ⟨0, Nat.zero_le _, rfl, rfl⟩
                case round =>
                  obtain ⟨k, hk, rfl, hv⟩ := hrel
                  by_cases hlt : k < xs.length
                  · have hd := Lib.hid (drop_cons hlt)
                    obtain ⟨b, off, rfl, hb, hcell, hsz⟩ := str_at hX hlt
                    have hb' : b < w.heap.size := hb
                    cases hp : preB xs[k] hx <;> cases hvi : visB xs[k] 32 <;> by_cases h300 : 300 < xs[k].size
                    all_goals
                      go_wp2_with (first | (go_at_call 72; refine (hasPrefix_any _ hx _ hsz (by decide)).mono ?_; rintro r w' ⟨rfl, rfl⟩) | (go_at_call 76; refine (printable_any _ _ _ hsz).mono ?_; rintro r w' ⟨rfl, rfl⟩))
                      first
                      | (go_ret; exact ⟨ret_int (by rw [HF.out, ← hv.out, hd.out, extF]; simp [hp, hvi, h300]), (Below.refl _ _).alloc (Nat.le_refl _) _⟩)
                      | (go_round
                         case rel => exact ⟨k + 1, by omega, by go_num, Lib.hid (by have h := hv.out; rw [hd.out, extF] at h; simpa [hp, hvi, h300] using h)⟩
                         case measure => simp [intOf]; omega)
                  · go_wp2
                    go_ret
                    exact ⟨ret_int (by rw [HF.out, ← hv.out, List.drop_eq_nil_of_le (by omega), extF]), (Below.refl _ _).alloc (Nat.le_refl _) _⟩
              · have hn : nameB ky = true := by simpa [hz] using h5
                have h6 : ¬ ky.toList = [] := ne_nil_of_size hz
                have h7 : ky.toList.isEmpty = false := by simp [h6]
                clear h5
                go_enter Try.func66, Try.ntmps66
                go_wp2_with (first | (go_at_call 74; refine (isUri_any _ _ hu).mono ?_; rintro r w' ⟨rfl, rfl⟩) | (go_at_call 42; refine (within_any _ _ _ _).mono ?_; rintro r w' ⟨rfl, rfl⟩) | (go_at_call 75; refine (refIsName_any _ _ hk).mono ?_; rintro r w' ⟨rfl, rfl⟩))
                go_loop [5] (fun i => ∃ k : Nat, k ≤ xs.length ∧ i = .int .i64 k ∧ Hid (extF (xs.drop k) = extF xs)) (fun i => xs.length - (intOf i).toNat)
                case atStart => exact ⟨0, Nat.zero_le _, rfl, rfl⟩
                case round =>
                  obtain ⟨k, hk, rfl, hv⟩ := hrel
                  by_cases hlt : k < xs.length
                  · have hd := Lib.hid (drop_cons hlt)
                    obtain ⟨b, off, rfl, hb, hcell, hsz⟩ := str_at hX hlt
                    have hb' : b < w.heap.size := hb
                    cases hp : preB xs[k] hx <;> cases hvi : visB xs[k] 32 <;> by_cases h300 : 300 < xs[k].size
                    all_goals
                      go_wp2_with (first | (go_at_call 72; refine (hasPrefix_any _ hx _ hsz (by decide)).mono ?_; rintro r w' ⟨rfl, rfl⟩) | (go_at_call 76; refine (printable_any _ _ _ hsz).mono ?_; rintro r w' ⟨rfl, rfl⟩))
                      first
                      | (go_ret; exact ⟨ret_int (by rw [HF.out, ← hv.out, hd.out, extF]; simp [hp, hvi, h300]), (Below.refl _ _).alloc (Nat.le_refl _) _⟩)
                      | (go_round
                         case rel => exact ⟨k + 1, by omega, by go_num, Lib.hid (by have h := hv.out; rw [hd.out, extF] at h; simpa [hp, hvi, h300] using h)⟩
                         case measure => simp [intOf]; omega)
                  · go_wp2
                    go_ret
                    exact ⟨ret_int (by rw [HF.out, ← hv.out, List.drop_eq_nil_of_le (by omega), extF]), (Below.refl _ _).alloc (Nat.le_refl _) _⟩
end Go.Proofs.Ytkfhfjcgegimbaa
