/- What is proved here: a list's text is read again, and what is read of a text is written so (no statement of the seat). -/
import Derived.Test.YtgkjfochkhiojaaDoorE102
import Derived.Test.YtgkjfochkhiojaaDoorE103
import Derived.Test.YtgkjfochkhiojaaDoorE85
namespace Go.Proofs.YtgkjfochkhiojaaDoor
open Go Go.RowKit
set_option linter.unusedVariables false
set_option linter.unusedSimpArgs false
set_option maxHeartbeats 1000000

/-- A key in a text. -/
def F.dsh (s : ByteArray) : ByteArray := bif F.seq s ⟨⟨[]⟩⟩ then F.dash else s

def F.opt (b : Bool) (x : List UInt8) : List UInt8 := bif b then x else []

def F.lnB (x : ByteArray) : List UInt8 := F.bs x ++ [10]

/-- An entry's lines from the time on. -/
def F.tx5 (e : Ent) : List UInt8 := F.lnB (F.kTimS ++ F.tmS e.milli) ++ F.lnB e.uri

def F.tx4 (e : Ent) : List UInt8 := F.opt e.gap (F.lnB F.kGap) ++ F.tx5 e

def F.tx3 (key : ByteArray) (e : Ent) : List UInt8 := F.opt (!F.seq e.key key) (F.lnB (F.kKeyS ++ F.dsh e.key)) ++ F.tx4 e

def F.tx2 (key : ByteArray) (e : Ent) : List UInt8 := F.opt (decide (0 ≤ e.date)) (F.lnB (F.kDatS ++ F.dtS e.date)) ++ F.tx3 key e

def F.tx1 (key : ByteArray) (e : Ent) : List UInt8 := F.opt e.brk (F.lnB F.kBrk) ++ F.tx2 key e

def F.txX : List ByteArray → List UInt8
  | [] => []
  | x :: l => F.lnB x ++ F.txX l

/-- An entry's lines behind one with a key. -/
def F.tx0 (key : ByteArray) (e : Ent) : List UInt8 := F.txX e.extra ++ F.tx1 key e

def F.txEs : ByteArray → List Ent → List UInt8
  | _, [] => []
  | key, e :: l => F.tx0 key e ++ F.txEs e.key l

def F.txEnd (b : Bool) : List UInt8 := F.opt b (F.lnB F.kEnd)

/-- A list's text, with more behind the head. -/
def F.txL (l : Lst) (x : List UInt8) : List UInt8 :=
  F.lnB F.kLst ++ (F.lnB (F.hdW F.wTg ++ F.itoa l.target) ++ (F.lnB (F.hdW F.wFi ++ F.itoa l.first) ++ (F.lnB (F.hdW F.wBr ++ F.itoa l.breaks) ++ (x ++ (F.txEs ⟨⟨[]⟩⟩ l.entries ++ F.txEnd l.ended)))))

/-- What Check says of an entry. -/
structure F.EOk (e : Ent) : Prop where
  uri1 : e.uri.size ≠ 0
  uri2 : F.b0 e.uri ≠ 35
  uri3 : F.vis e.uri 33 = true
  mil1 : 1 ≤ e.milli
  mil2 : e.milli ≤ 3600000
  dat1 : -1 ≤ e.date
  dat2 : e.date ≤ 253402300799999
  key : e.key = ⟨⟨[]⟩⟩ ∨ F.isName e.key = true
  ext : ∀ x ∈ e.extra, F.hasPrefix x F.kX = true ∧ F.vis x 32 = true

theorem F.ffI_all {γ : Type} {g : γ → Int} : ∀ {l : List γ}, M.ffI g l = 0 → ∀ x ∈ l, g x = 0
  | [], _, x, hx => by cases hx
  | y :: l, h, x, hx => by
    rw [M.ffI] at h
    by_cases h0 : g y = 0
    · rw [if_pos h0] at h
      rcases List.mem_cons.1 hx with e | e
      · rw [e]; exact h0
      · exact F.ffI_all h x e
    · rw [if_neg h0] at h; exact absurd h h0

theorem F.eok_of {e : Ent} {t : Int} (h : F.entryFault e t = 0) : F.EOk e := by
  unfold F.entryFault at h
  split at h
  · rename_i hu; exact absurd h hu
  rename_i hu
  split at h
  · omega
  rename_i hm
  split at h
  · omega
  split at h
  · omega
  rename_i hd
  split at h
  · omega
  rename_i hk
  split at h
  · omega
  rename_i hx
  have hu : F.uriFault e.uri = 0 := by simpa using hu
  unfold F.uriFault at hu
  split at hu
  · omega
  rename_i hq
  clear hu
  unfold F.out at hq hm hd
  simp only [Bool.or_eq_true, decide_eq_true_eq, not_or, Bool.not_eq_true', Bool.not_eq_false] at hq hm hd
  refine ⟨by omega, hq.1.2, hq.2, by omega, by omega, by omega, by omega, ?_, fun x hxm => ?_⟩
  · cases hs : F.seq e.key ⟨#[]⟩
    · right
      rw [hs] at hk
      simpa using hk
    · left
      exact F.seq_iff.1 hs
  · have := F.ffI_all h x hxm
    unfold F.extraFault at this
    split at this
    · omega
    · rename_i h1
      simp only [Bool.or_eq_true, Bool.not_eq_true', not_or, Bool.not_eq_false] at h1
      exact h1

theorem F.vis_no {s : ByteArray} {lo : Int} (h : F.vis s lo = true) (hl : 11 ≤ lo) : (10 : UInt8) ∉ F.bs s := by
  intro hm
  unfold F.vis F.visL at h
  have := List.all_eq_true.1 h _ hm
  unfold F.visB at this
  simp only [Bool.not_eq_true', Bool.or_eq_false_iff, decide_eq_false_iff_not] at this
  have h2 : ((10 : UInt8).toNat : Int) = 10 := rfl
  omega

/-- A line, put before the rest. -/
theorem F.line {s x : ByteArray} {r : List UInt8} (hx : (10 : UInt8) ∉ F.bs x) (h : F.bs s = F.lnB x ++ r) : F.cutF s F.nl = true ∧ F.cutH s F.nl = x ∧ F.bs (F.cutT s F.nl) = r := by
  unfold F.lnB at h
  rw [List.append_assoc, List.singleton_append] at h
  obtain ⟨h1, h2, h3⟩ := F.cut_one (p := F.nl) rfl hx h
  exact ⟨h1, F.bsx h2, h3⟩

theorem F.pre_app (p x : ByteArray) : F.hasPrefix (p ++ x) p = true := F.pre_iff.2 ⟨F.bs x, F.bs_app p x⟩

theorem F.ext_app (p x : ByteArray) : (p ++ x).extract p.size (p ++ x).size = x := by
  apply F.bsx
  rw [F.sub_bs, F.bs_app]
  have h1 : p.size = (F.bs p).length := (F.bs_len p).symm
  have h2 : (p ++ x).size = (F.bs p ++ F.bs x).length := by rw [← F.bs_app, F.bs_len]
  rw [h1, h2, List.drop_left, List.take_of_length_le (by rw [List.length_append]; omega)]

theorem F.kd_of {line : ByteArray} {k : Nat} (h : Nat.beq (F.kd line) k = true) : F.kd line = k := Nat.eq_of_beq_eq_true h

theorem F.W6 {s : ByteArray} {e e0 : Ent} (n : Int) (key : ByteArray) {r : List UInt8} (ho : F.EOk e) (h : F.bs s = F.lnB e.uri ++ r) :
    ∃ s' n', F.pt 5 s n e0 key = (true, s', n', { e0 with uri := e.uri }) ∧ F.bs s' = r := by
  obtain ⟨h1, h2, h3⟩ := F.line (F.vis_no ho.uri3 (by decide)) h
  refine ⟨F.cutT s F.nl, n + 1, ?_, h3⟩
  have hk : F.elK (F.cutH s F.nl) 5 = 6 := rfl
  have hu : F.uriL e.uri = true := by unfold F.uriL; rw [decide_eq_true ho.uri1, decide_eq_false ho.uri2]; rfl
  have hR : F.elR (F.cutH s F.nl) 5 key = 6 := by
    unfold F.elR
    rw [hk]
    show (bif !F.uriL (F.cutH s F.nl) || false || false then (-1 : Int) else 6) = _
    rw [h2, hu]
    rfl
  unfold F.pt
  rw [h1, cond_true, F.enL_end hR, hk, h2]
  rfl

theorem F.dg_vis {l : List UInt8} (h : l.all F.dgB = true) : (10 : UInt8) ∉ l := F.dg_no h (by decide)

theorem F.no_app {a b : List UInt8} (h1 : (10 : UInt8) ∉ a) (h2 : (10 : UInt8) ∉ b) : (10 : UInt8) ∉ a ++ b := by
  rw [List.mem_append]; exact fun h => h.elim h1 h2

theorem F.pad_no (k : Nat) (m : Nat) : (10 : UInt8) ∉ F.bs (F.pad (k : Int) m) := by
  rw [F.bs_pad]
  refine F.no_app ?_ (F.dg_vis (F.dd_ok k).1)
  intro h
  exact absurd (List.mem_replicate.1 h).2 (by decide)

theorem F.itoa_no (k : Nat) : (10 : UInt8) ∉ F.bs (F.itoa (k : Int)) := by
  rw [F.itoa_n]
  exact F.dg_vis (F.dd_ok k).1

theorem F.tmS_no (n : Nat) : (10 : UInt8) ∉ F.bs (F.tmS (n : Int)) := by
  have e1 : F.tmS (n : Int) = F.itoa ((n / 1000 : Nat) : Int) ++ F.dot ++ F.pad ((n % 1000 : Nat) : Int) 3 := rfl
  rw [e1, F.bs_app, F.bs_app]
  exact F.no_app (F.no_app (F.itoa_no _) (by decide)) (F.pad_no _ _)

theorem F.W5 {s : ByteArray} {e e0 : Ent} (n : Int) (key : ByteArray) {r : List UInt8} (ho : F.EOk e) (h : F.bs s = F.tx5 e ++ r) :
    F.kd (F.cutH s F.nl) = 5 ∧ ∃ s' n', F.pt 4 s n e0 key = (true, s', n', { e0 with milli := e.milli, uri := e.uri }) ∧ F.bs s' = r := by
  unfold F.tx5 at h
  rw [List.append_assoc] at h
  obtain ⟨m, hm⟩ := Int.eq_ofNat_of_zero_le (show 0 ≤ e.milli by have := ho.mil1; omega)
  have hm2 := ho.mil2
  obtain ⟨t1, t2⟩ := F.tmS_ok (n := m) (by omega)
  rw [← hm] at t1 t2
  obtain ⟨h1, h2, h3⟩ := F.line (by rw [F.bs_app, hm]; exact F.no_app (by decide) (F.tmS_no m)) h
  have hp : F.hasPrefix (F.cutH s F.nl) F.kTimS = true := by rw [h2]; exact F.pre_app _ _
  have hk : F.kd (F.cutH s F.nl) = 5 := F.kd_of (by rw [← (F.kd_eq _).2.2.2.2.2.1, hp])
  have hv : F.cutT (F.cutH s F.nl) F.sp = F.tmS e.milli := by rw [F.tim_word hp, h2]; exact F.ext_app _ _
  obtain ⟨s', n', w1, w2⟩ := F.W6 (e0 := F.elE e0 (F.cutH s F.nl) 5) (n + 1) key ho h3
  refine ⟨hk, s', n', ?_, w2⟩
  rw [F.pt_go h1 (by decide) hk (by decide) (Or.inl (by decide)) (by show F.milOk (F.cutT (F.cutH s F.nl) F.sp) = true; rw [hv]; exact t1)]
  rw [show (((5 : Nat) : Int)) = 5 from rfl, w1]
  have : F.milV (F.cutT (F.cutH s F.nl) F.sp) = e.milli := by rw [hv]; exact t2
  show (true, s', n', { F.elE e0 (F.cutH s F.nl) 5 with uri := e.uri }) = _
  rw [← this]
  rfl

theorem F.W4 {s : ByteArray} {e e0 : Ent} (n : Int) (key : ByteArray) {r : List UInt8} (ho : F.EOk e) (hg : e0.gap = false) (h : F.bs s = F.tx4 e ++ r) :
    (4 ≤ F.kd (F.cutH s F.nl) ∧ F.kd (F.cutH s F.nl) ≤ 5) ∧ ∃ s' n', F.pt 3 s n e0 key = (true, s', n', { e0 with gap := e.gap, milli := e.milli, uri := e.uri }) ∧ F.bs s' = r := by
  unfold F.tx4 F.opt at h
  cases hb : e.gap
  · rw [hb] at h
    obtain ⟨k, s', n', w1, w2⟩ := F.W5 (e0 := e0) n key ho h
    refine ⟨by omega, s', n', ?_, w2⟩
    rw [F.pt_skip (by decide) (by decide) (by omega) (fun h => absurd h (by decide)), show (3 : Int) + 1 = 4 from rfl, w1, ← hg]
  · rw [hb, cond_true, List.append_assoc] at h
    obtain ⟨h1, h2, h3⟩ := F.line (by decide) h
    have hk : F.kd (F.cutH s F.nl) = 4 := F.kd_of (by rw [← (F.kd_eq _).2.2.2.2.1, h2]; exact F.seq_iff.2 rfl)
    obtain ⟨k, s', n', w1, w2⟩ := F.W5 (e0 := F.elE e0 (F.cutH s F.nl) 4) (n + 1) key ho h3
    refine ⟨by omega, s', n', ?_, w2⟩
    rw [F.pt_go h1 (by decide) hk (by decide) (Or.inl (by decide)) rfl, show (((4 : Nat) : Int)) = 4 from rfl, w1]
    rfl

theorem F.name_vis {s : ByteArray} (h : F.isName s = true) : F.vis s 33 = true ∧ s.size ≠ 0 ∧ F.seq s F.dash = false ∧ F.seq s ⟨⟨[]⟩⟩ = false := by
  unfold F.isName F.nameL at h
  simp only [Bool.and_eq_true, decide_eq_true_eq] at h
  obtain ⟨⟨⟨h1, h2⟩, h3⟩, h4⟩ := h
  refine ⟨?_, h1, ?_, ?_⟩
  · unfold F.vis F.visL
    rw [List.all_eq_true] at h4 ⊢
    intro x hx
    have := h4 x hx
    unfold F.nameB F.letter F.digit at this
    unfold F.visB
    simp only [Bool.or_eq_true, Bool.and_eq_true, decide_eq_true_eq, Bool.not_eq_true', Bool.or_eq_false_iff, decide_eq_false_iff_not] at this ⊢
    omega
  · cases hs : F.seq s F.dash
    · rfl
    · rw [F.seq_iff.1 hs] at h3
      exact absurd h3 (by decide)
  · cases hs : F.seq s ⟨⟨[]⟩⟩
    · rfl
    · rw [F.seq_iff.1 hs] at h1
      exact absurd rfl h1

theorem F.dsh_ok {k key : ByteArray} (h : k = ⟨⟨[]⟩⟩ ∨ F.isName k = true) (hn : F.seq k key = false) : F.keyB (F.dsh k) key = true ∧ F.undash (F.dsh k) = k ∧ (10 : UInt8) ∉ F.bs (F.dsh k) := by
  rcases h with h | h
  · subst h
    have e : F.dsh ⟨⟨[]⟩⟩ = F.dash := by unfold F.dsh; rw [F.seq_iff.2 rfl]; rfl
    have e2 : F.undash F.dash = ⟨⟨[]⟩⟩ := by unfold F.undash; rw [F.seq_iff.2 (show F.dash = ⟨⟨[45]⟩⟩ from rfl)]; rfl
    rw [e]
    refine ⟨?_, e2, by decide⟩
    unfold F.keyB
    rw [e2, hn]
    rfl
  · obtain ⟨v1, v2, v3, v4⟩ := F.name_vis h
    have e : F.dsh k = k := by unfold F.dsh; rw [v4]; rfl
    have e2 : F.undash k = k := by
      unfold F.undash
      rw [show F.seq k ⟨⟨[45]⟩⟩ = F.seq k F.dash from rfl, v3]; rfl
    rw [e]
    refine ⟨?_, e2, F.vis_no v1 (by decide)⟩
    unfold F.keyB
    rw [e2, hn, v1, decide_eq_true v2]
    rfl

theorem F.W3 {s : ByteArray} {e e0 : Ent} (n : Int) (key : ByteArray) {r : List UInt8} (ho : F.EOk e) (hg : e0.gap = false) (hk0 : e0.key = key) (h : F.bs s = F.tx3 key e ++ r) :
    (3 ≤ F.kd (F.cutH s F.nl) ∧ F.kd (F.cutH s F.nl) ≤ 5) ∧ ∃ s' n', F.pt 2 s n e0 key = (true, s', n', { e0 with key := e.key, gap := e.gap, milli := e.milli, uri := e.uri }) ∧ F.bs s' = r := by
  unfold F.tx3 F.opt at h
  cases hb : F.seq e.key key
  · rw [hb] at h
    rw [Bool.not_false, cond_true, List.append_assoc] at h
    obtain ⟨d1, d2, d3⟩ := F.dsh_ok ho.key hb
    obtain ⟨h1, h2, h3⟩ := F.line (by rw [F.bs_app]; exact F.no_app (by decide) d3) h
    have hp : F.hasPrefix (F.cutH s F.nl) F.kKeyS = true := by rw [h2]; exact F.pre_app _ _
    have hk : F.kd (F.cutH s F.nl) = 3 := F.kd_of (by rw [← (F.kd_eq _).2.2.2.1, hp])
    have hv : F.cutT (F.cutH s F.nl) F.sp = F.dsh e.key := by rw [F.key_word hp, h2]; exact F.ext_app _ _
    obtain ⟨k, s', n', w1, w2⟩ := F.W4 (e0 := F.elE e0 (F.cutH s F.nl) 3) (n + 1) key ho hg h3
    refine ⟨by omega, s', n', ?_, w2⟩
    rw [F.pt_go h1 (by decide) hk (by decide) (Or.inl (by decide)) (by show F.keyB (F.cutT (F.cutH s F.nl) F.sp) key = true; rw [hv]; exact d1), show (((3 : Nat) : Int)) = 3 from rfl, w1]
    have : F.undash (F.cutT (F.cutH s F.nl) F.sp) = e.key := by rw [hv]; exact d2
    rw [← this]
    rfl
  · rw [hb] at h
    obtain ⟨k, s', n', w1, w2⟩ := F.W4 (e0 := e0) n key ho hg h
    refine ⟨by omega, s', n', ?_, w2⟩
    rw [F.pt_skip (by decide) (by decide) (by omega) (fun h => absurd h (by decide)), show (2 : Int) + 1 = 3 from rfl, w1, F.seq_iff.1 hb, ← hk0]

theorem F.dtS_no {v : ByteArray} (h : F.dtOk v = true) : (10 : UInt8) ∉ F.bs v := by
  unfold F.dtOk at h
  rw [Bool.and_eq_true, Bool.and_eq_true, decide_eq_true_eq] at h
  obtain ⟨⟨h24, hA⟩, _⟩ := h
  intro hm
  obtain ⟨k, hk⟩ := List.mem_iff_getElem?.1 hm
  have hlt : k < 24 := by
    obtain ⟨h1, _⟩ := List.getElem?_eq_some_iff.1 hk
    rw [F.bs_len, h24] at h1
    exact h1
  have hlf : (F.bs F.dForm).length = 24 := rfl
  have hf : (F.bs F.dForm)[k]? = some ((F.bs F.dForm)[k]'(by omega)) := List.getElem?_eq_getElem (by omega)
  generalize hff : (F.bs F.dForm)[k]'(by omega) = f at hf
  have hz : ((F.bs v).zip (F.bs F.dForm))[k]? = some (10, f) := List.getElem?_zip_eq_some.2 ⟨hk, hf⟩
  have h1 := List.all_eq_true.1 hA _ (List.mem_of_getElem? hz)
  have hne : ∀ g ∈ F.bs F.dForm, F.dfB 10 g = false := by decide
  rw [hne f (List.mem_of_getElem? hf)] at h1
  cases h1

theorem F.W2 {s : ByteArray} {e e0 : Ent} (n : Int) (key : ByteArray) {r : List UInt8} (ho : F.EOk e) (hg : e0.gap = false) (hk0 : e0.key = key) (hd0 : e0.date = -1) (h : F.bs s = F.tx2 key e ++ r) :
    (2 ≤ F.kd (F.cutH s F.nl) ∧ F.kd (F.cutH s F.nl) ≤ 5) ∧ ∃ s' n', F.pt 1 s n e0 key = (true, s', n', { e0 with date := e.date, key := e.key, gap := e.gap, milli := e.milli, uri := e.uri }) ∧ F.bs s' = r := by
  unfold F.tx2 F.opt at h
  by_cases hb : 0 ≤ e.date
  · rw [decide_eq_true hb, cond_true, List.append_assoc] at h
    obtain ⟨m, hm⟩ := Int.eq_ofNat_of_zero_le hb
    have hm2 := ho.dat2
    obtain ⟨t1, t2⟩ := F.dtS_ok (n := m) (by omega)
    rw [← hm] at t1 t2
    obtain ⟨h1, h2, h3⟩ := F.line (by rw [F.bs_app]; exact F.no_app (by decide) (F.dtS_no t1)) h
    have hp : F.hasPrefix (F.cutH s F.nl) F.kDatS = true := by rw [h2]; exact F.pre_app _ _
    have hk : F.kd (F.cutH s F.nl) = 2 := F.kd_of (by rw [← (F.kd_eq _).2.2.1, hp])
    have hv : F.cutT (F.cutH s F.nl) F.sp = F.dtS e.date := by rw [F.dat_word hp, h2]; exact F.ext_app _ _
    obtain ⟨k, s', n', w1, w2⟩ := F.W3 (e0 := F.elE e0 (F.cutH s F.nl) 2) (n + 1) key ho hg hk0 h3
    refine ⟨by omega, s', n', ?_, w2⟩
    rw [F.pt_go h1 (by decide) hk (by decide) (Or.inl (by decide)) (by show F.dtOk (F.cutT (F.cutH s F.nl) F.sp) = true; rw [hv]; exact t1), show (((2 : Nat) : Int)) = 2 from rfl, w1]
    have : F.dtV (F.cutT (F.cutH s F.nl) F.sp) = e.date := by rw [hv]; exact t2
    rw [← this]
    rfl
  · rw [decide_eq_false hb] at h
    obtain ⟨k, s', n', w1, w2⟩ := F.W3 (e0 := e0) n key ho hg hk0 h
    refine ⟨by omega, s', n', ?_, w2⟩
    have hd1 := ho.dat1
    have hd : e.date = e0.date := by omega
    rw [F.pt_skip (by decide) (by decide) (by omega) (fun h => absurd h (by decide)), show (1 : Int) + 1 = 2 from rfl, w1, hd]

theorem F.W1 {s : ByteArray} {e e0 : Ent} (n : Int) (key : ByteArray) {r : List UInt8} (ho : F.EOk e) (hg : e0.gap = false) (hk0 : e0.key = key) (hd0 : e0.date = -1) (hb0 : e0.brk = false) (h : F.bs s = F.tx1 key e ++ r) :
    (1 ≤ F.kd (F.cutH s F.nl) ∧ F.kd (F.cutH s F.nl) ≤ 5) ∧ ∃ s' n', F.pt 0 s n e0 key = (true, s', n', { e0 with brk := e.brk, date := e.date, key := e.key, gap := e.gap, milli := e.milli, uri := e.uri }) ∧ F.bs s' = r := by
  unfold F.tx1 F.opt at h
  cases hb : e.brk
  · rw [hb] at h
    obtain ⟨k, s', n', w1, w2⟩ := F.W2 (e0 := e0) n key ho hg hk0 hd0 h
    refine ⟨by omega, s', n', ?_, w2⟩
    rw [F.pt_skip (by decide) (by decide) (by omega) (fun _ => by omega), show (0 : Int) + 1 = 1 from rfl, w1, ← hb0]
  · rw [hb, cond_true, List.append_assoc] at h
    obtain ⟨h1, h2, h3⟩ := F.line (by decide) h
    have hk : F.kd (F.cutH s F.nl) = 1 := F.kd_of (by rw [← (F.kd_eq _).2.1, h2]; exact F.seq_iff.2 rfl)
    obtain ⟨k, s', n', w1, w2⟩ := F.W2 (e0 := F.elE e0 (F.cutH s F.nl) 1) (n + 1) key ho hg hk0 hd0 h3
    refine ⟨by omega, s', n', ?_, w2⟩
    rw [F.pt_go h1 (by decide) hk (by decide) (Or.inl (by decide)) rfl, show (((1 : Nat) : Int)) = 1 from rfl, w1]
    rfl

theorem F.W0 (key : ByteArray) {e : Ent} (ho : F.EOk e) {r : List UInt8} : ∀ (xs : List ByteArray) (s : ByteArray) (e0 : Ent) (n : Int), (∀ x ∈ xs, F.hasPrefix x F.kX = true ∧ F.vis x 32 = true) → e0.gap = false → e0.key = key → e0.date = -1 → e0.brk = false → F.bs s = F.txX xs ++ (F.tx1 key e ++ r) →
    F.cutF s F.nl = true ∧ F.kd (F.cutH s F.nl) ≤ 5 ∧ ∃ s' n', F.pt 0 s n e0 key = (true, s', n', { e0 with extra := e0.extra ++ xs, brk := e.brk, date := e.date, key := e.key, gap := e.gap, milli := e.milli, uri := e.uri }) ∧ F.bs s' = r
  | [], s, e0, n, _, hg, hk0, hd0, hb0, h => by
    obtain ⟨k, s', n', w1, w2⟩ := F.W1 (e0 := e0) n key ho hg hk0 hd0 hb0 h
    refine ⟨?_, by omega, s', n', by rw [w1, List.append_nil], w2⟩
    cases hc : F.cutF s F.nl
    · rw [F.pt_no hc] at w1
      cases w1
    · rfl
  | x :: l, s, e0, n, hx, hg, hk0, hd0, hb0, h => by
    rw [F.txX, List.append_assoc] at h
    obtain ⟨x1, x2⟩ := hx x (List.mem_cons_self ..)
    obtain ⟨h1, h2, h3⟩ := F.line (F.vis_no x2 (by decide)) h
    have hk : F.kd (F.cutH s F.nl) = 0 := F.kd_of (by rw [← (F.kd_eq _).1, h2]; exact x1)
    obtain ⟨_, _, s', n', w1, w2⟩ := F.W0 key ho l (F.cutT s F.nl) (F.elE e0 (F.cutH s F.nl) 0) (n + 1) (fun y hy => hx y (List.mem_cons_of_mem _ hy)) hg hk0 hd0 hb0 h3
    refine ⟨h1, by omega, s', n', ?_, w2⟩
    rw [F.pt_go h1 (by decide) hk (by decide) (Or.inr ⟨rfl, rfl⟩) rfl, show (((0 : Nat) : Int)) = 0 from rfl, w1]
    show (true, s', n', { F.elE e0 (F.cutH s F.nl) 0 with extra := (e0.extra ++ [F.cutH s F.nl]) ++ l, brk := e.brk, date := e.date, key := e.key, gap := e.gap, milli := e.milli, uri := e.uri }) = _
    rw [h2, List.append_assoc, List.singleton_append]

end Go.Proofs.YtgkjfochkhiojaaDoor

namespace Go.Proofs.YtgkjfochkhiojaaDoor
open Go Go.RowKit
set_option linter.unusedVariables false
set_option linter.unusedSimpArgs false
set_option maxHeartbeats 1000000

theorem F.end_kd {line : ByteArray} (h : F.kd line ≤ 5) : F.seq line F.kEnd = false := by
  cases hs : F.seq line F.kEnd
  · rfl
  exfalso
  have e := F.seq_iff.1 hs
  subst e
  obtain ⟨k0, k1, k2, k3, k4, k5, k6⟩ := F.kd_eq F.kEnd
  have hb : (F.bs F.kEnd)[1]? = some 69 := rfl
  have a0 : F.hasPrefix F.kEnd F.kX = false := by
    cases hp : F.hasPrefix F.kEnd F.kX
    · rfl
    · exact absurd (hb.symm.trans (F.sb_pre hp (by decide))) (by decide)
  have a1 : F.seq F.kEnd F.kBrk = false := by
    cases hp : F.seq F.kEnd F.kBrk
    · rfl
    · exact absurd (hb.symm.trans (F.sb_seq hp)) (by decide)
  have a2 : F.hasPrefix F.kEnd F.kDatS = false := by
    cases hp : F.hasPrefix F.kEnd F.kDatS
    · rfl
    · exact absurd (hb.symm.trans (F.sb_pre hp (by decide))) (by decide)
  have a3 : F.hasPrefix F.kEnd F.kKeyS = false := by
    cases hp : F.hasPrefix F.kEnd F.kKeyS
    · rfl
    · exact absurd (hb.symm.trans (F.sb_pre hp (by decide))) (by decide)
  have a4 : F.seq F.kEnd F.kGap = false := by
    cases hp : F.seq F.kEnd F.kGap
    · rfl
    · exact absurd (hb.symm.trans (F.sb_seq hp)) (by decide)
  have a5 : F.hasPrefix F.kEnd F.kTimS = false := by
    cases hp : F.hasPrefix F.kEnd F.kTimS
    · rfl
    · exact absurd (hb.symm.trans (F.sb_pre hp (by decide))) (by decide)
  rw [a0] at k0
  rw [a1] at k1
  rw [a2] at k2
  rw [a3] at k3
  rw [a4] at k4
  rw [a5] at k5
  rw [F.beq_iff] at k0 k1 k2 k3 k4 k5
  have k0 := of_decide_eq_false k0.symm
  have k1 := of_decide_eq_false k1.symm
  have k2 := of_decide_eq_false k2.symm
  have k3 := of_decide_eq_false k3.symm
  have k4 := of_decide_eq_false k4.symm
  have k5 := of_decide_eq_false k5.symm
  omega

theorem F.bs_nil {s : ByteArray} (h : F.bs s = []) : s.size = 0 := by rw [← F.bs_len, h]; rfl

theorem F.enL_p0 {s : ByteArray} {n : Int} {e : Ent} {key : ByteArray} (h : F.cutF s F.nl = true) : F.enL (F.cutT s F.nl) (n + 1) e (F.cutH s F.nl) key 0 = F.pt 0 s n e key := by
  unfold F.pt; rw [h]; rfl

/-- Entries that are written are read. -/
theorem F.tx_bd (b : Bool) : ∀ (es : List Ent) (s key : ByteArray) (n : Int) (acc : List Ent), (∀ e ∈ es, F.EOk e) → F.bs s = F.txEs key es ++ F.txEnd b →
    ∃ s' n', F.bdL s n key acc false = (true, s', n', acc ++ es, b)
  | [], s, key, n, acc, _, h => by
    have h : F.bs s = F.txEnd b := h
    cases b
    · refine ⟨s, n, ?_⟩
      rw [F.bdL_end (F.bs_nil h), List.append_nil]
    · have h : F.bs s = F.lnB F.kEnd ++ [] := by rw [h, List.append_nil]; rfl
      obtain ⟨h1, h2, h3⟩ := F.line (by decide) h
      refine ⟨F.cutT s F.nl, n + 1, ?_⟩
      rw [F.bdL_last (F.cutF_ne h1) (by rw [h1]; rfl) (by rw [h2]; exact F.seq_iff.2 rfl), F.bdL_end (F.bs_nil h3), List.append_nil]
  | e :: es, s, key, n, acc, ho, h => by
    have he := ho e (List.mem_cons_self ..)
    rw [F.txEs, F.tx0, List.append_assoc, List.append_assoc] at h
    obtain ⟨h1, h2, s', n', w1, w2⟩ := F.W0 key he e.extra s (F.noE key) n he.ext rfl rfl rfl rfl h
    have w1 : F.pt 0 s n (F.noE key) key = (true, s', n', e) := w1
    have hP := (F.enL_p0 (n := n) (e := F.noE key) (key := key) h1).trans w1
    obtain ⟨s2, n2, i1⟩ := F.tx_bd b es s' e.key n' (acc ++ [e]) (fun x hx => ho x (List.mem_cons_of_mem _ hx)) w2
    refine ⟨s2, n2, ?_⟩
    rw [F.bdL_go (F.cutF_ne h1) (by rw [h1]; rfl) (F.end_kd h2) hP rfl, i1, List.append_assoc, List.singleton_append]

/-- A heading that is written is read. -/
theorem F.tx_hd {s w : ByteArray} {n : Int} {r : List UInt8} (hw : (10 : UInt8) ∉ F.bs (F.hdW w)) (h0 : 0 ≤ n) (h1 : n ≤ 1000000000000000) (h : F.bs s = F.lnB (F.hdW w ++ F.itoa n) ++ r) : F.hdOk s w = true ∧ F.hdV s w = n ∧ F.bs (F.cutT s F.nl) = r := by
  obtain ⟨k, rfl⟩ := Int.eq_ofNat_of_zero_le h0
  have h16 : (10 : Nat) ^ (15 + 1) = 10000000000000000 := by decide
  obtain ⟨v1, v2⟩ := F.num_itoa_k (n := (k : Int)) (w := 15) (by omega) (by rw [h16]; omega)
  have v1 : F.numOk (F.itoa (k : Int)) 16 = true := v1
  have v2 : F.numV (F.itoa (k : Int)) 16 = (k : Int) := v2
  obtain ⟨c1, c2, c3⟩ := F.line (by rw [F.bs_app]; exact F.no_app hw (F.itoa_no k)) h
  have hp : F.hasPrefix (F.cutH s F.nl) (F.hdW w) = true := by rw [c2]; exact F.pre_app _ _
  have hc : F.cutP (F.cutH s F.nl) (F.hdW w) = F.itoa (k : Int) := by unfold F.cutP; rw [hp, cond_true, c2]; exact F.ext_app _ _
  refine ⟨?_, ?_, c3⟩
  · unfold F.hdOk; rw [c1, hp, hc, v1]; rfl
  · unfold F.hdV; rw [hc, v2]

theorem F.no_wTg : (10 : UInt8) ∉ F.bs (F.hdW F.wTg) := by unfold F.hdW; rw [F.bs_app]; decide

theorem F.no_wFi : (10 : UInt8) ∉ F.bs (F.hdW F.wFi) := by unfold F.hdW; rw [F.bs_app]; decide

theorem F.no_wBr : (10 : UInt8) ∉ F.bs (F.hdW F.wBr) := by unfold F.hdW; rw [F.bs_app]; decide

theorem F.check_ok {l : Lst} (h : F.check l = 0) : 1 ≤ l.target ∧ l.target ≤ 3600 ∧ 0 ≤ l.first ∧ l.first ≤ 999999999999000 ∧ 0 ≤ l.breaks ∧ l.breaks ≤ 1000000000000000 ∧ ∀ e ∈ l.entries, F.EOk e := by
  unfold F.check at h
  split at h
  · omega
  rename_i h1
  split at h
  · omega
  unfold F.out at h1
  simp only [Bool.or_eq_true, decide_eq_true_eq, not_or] at h1
  exact ⟨by omega, by omega, by omega, by omega, by omega, by omega, fun e he => F.eok_of (F.ffI_all h e he)⟩

/-- A list that is written is read. -/
theorem F.tx_rd {l : Lst} {s : ByteArray} (hc : F.check l = 0) (hz : s.size ≤ 500000) (h : F.bs s = F.txL l []) : F.rdT s = (l, 0, 0) := by
  obtain ⟨c1, c2, c3, c4, c5, c6, c7⟩ := F.check_ok hc
  unfold F.txL at h
  obtain ⟨a1, a2, a3⟩ := F.line (by decide) h
  obtain ⟨b1, b2, b3⟩ := F.tx_hd F.no_wTg (by omega) (by omega) a3
  obtain ⟨d1, d2, d3⟩ := F.tx_hd F.no_wFi (by omega) (by omega) b3
  obtain ⟨e1, e2, e3⟩ := F.tx_hd F.no_wBr (by omega) (by omega) d3
  rw [List.nil_append] at e3
  obtain ⟨s', n', i1⟩ := F.tx_bd l.ended l.entries _ ⟨⟨[]⟩⟩ (1 + 1 + 1 + 1) [] c7 e3
  have hB : F.rdB (F.cutT s F.nl) 1 = (true, s', n', l.entries, l.ended) := i1
  have hG : F.rdG (F.cutT s F.nl) 1 = l := by
    unfold F.rdG
    rw [hB]
    show (⟨F.hdV (F.cutT s F.nl) F.wTg, F.hdV (F.cutT (F.cutT s F.nl) F.nl) F.wFi, F.hdV (F.cutT (F.cutT (F.cutT s F.nl) F.nl) F.nl) F.wBr, l.entries, l.ended⟩ : Lst) = l
    rw [b2, d2, e2]
  have d1 : F.hdOk (F.dr 1 (F.cutT s F.nl)) F.wFi = true := d1
  have e1 : F.hdOk (F.dr 2 (F.cutT s F.nl)) F.wBr = true := e1
  unfold F.rdT
  rw [decide_eq_false (by omega : ¬ 500000 < s.size), a1, a2, F.seq_iff.2 rfl, b1, d1, e1, hG, hB, hc]
  rfl

/-- A line of a text. -/
theorem F.line_of {s : ByteArray} (h : F.cutF s F.nl = true) : F.bs s = F.lnB (F.cutH s F.nl) ++ F.bs (F.cutT s F.nl) := by
  have := F.cut_two (p := F.nl) (c := 10) rfl h
  unfold F.lnB
  rw [List.append_assoc, List.singleton_append]
  exact this

theorem F.pre_back {s p : ByteArray} (h : F.hasPrefix s p = true) : s = p ++ s.extract p.size s.size := by
  obtain ⟨r, hr⟩ := F.pre_iff.1 h
  apply F.bsx
  rw [F.bs_app, F.sub_bs]
  have h1 : p.size = (F.bs p).length := (F.bs_len p).symm
  have h2 : s.size = (F.bs p ++ r).length := by rw [← F.bs_len, hr]
  rw [h1, h2, hr, List.drop_left, List.take_of_length_le (by rw [List.length_append]; omega)]

theorem F.pt_cut {s : ByteArray} {n n' : Int} {e0 e1 : Ent} {key s' : ByteArray} {r : Int} (h : F.pt r s n e0 key = (true, s', n', e1)) : F.cutF s F.nl = true := by
  cases hc : F.cutF s F.nl
  · rw [F.pt_no hc] at h; cases h
  · rfl

theorem F.V6 {s s' : ByteArray} {n n' : Int} {e0 e1 : Ent} {key : ByteArray} (h : F.pt 5 s n e0 key = (true, s', n', e1)) : F.bs s = F.lnB e1.uri ++ F.bs s' ∧ e1 = { e0 with uri := e1.uri } := by
  have hc := F.pt_cut h
  have hl := F.line_of hc
  have hk : F.elK (F.cutH s F.nl) 5 = 6 := rfl
  have hR : F.elR (F.cutH s F.nl) 5 key = bif F.uriL (F.cutH s F.nl) then 6 else -1 := by
    unfold F.elR
    rw [hk]
    show (bif !F.uriL (F.cutH s F.nl) || false || false then (-1 : Int) else 6) = _
    cases F.uriL (F.cutH s F.nl) <;> rfl
  unfold F.pt at h
  rw [hc, cond_true] at h
  cases hu : F.uriL (F.cutH s F.nl)
  · rw [hu] at hR
    rw [F.enL_bad (by rw [hR]; decide)] at h
    cases h
  · rw [hu] at hR
    rw [F.enL_end hR, hk] at h
    injection h with _ h
    injection h with h1 h
    injection h with _ h2
    subst h1 h2
    exact ⟨hl, rfl⟩

/-- A line that can be there is of a kind that is not nothing. -/
theorem F.pt_kd {s s' : ByteArray} {n n' : Int} {e0 e1 : Ent} {key : ByteArray} {r : Int} (hr : r ≠ 5) (h : F.pt r s n e0 key = (true, s', n', e1)) : F.elO (F.cutH s F.nl) key (F.kd (F.cutH s F.nl)) = true ∧ F.kd (F.cutH s F.nl) ≤ 5 ∧ (r < F.kd (F.cutH s F.nl) ∨ (F.kd (F.cutH s F.nl) = 0 ∧ r ≤ 0)) := by
  have hc := F.pt_cut h
  have hk6 := (F.kd_eq (F.cutH s F.nl)).2.2.2.2.2.2
  have hk7 : F.kd (F.cutH s F.nl) ≤ 7 := F.elK_le _ _
  by_cases hR : F.elR (F.cutH s F.nl) r key < 0
  · rw [F.pt_bad hc hr hR] at h; cases h
  rw [F.elR_kd _ _ hr] at hR
  generalize F.kd (F.cutH s F.nl) = k at *
  cases ho : F.elO (F.cutH s F.nl) key k
  · rw [ho] at hR
    exact absurd (by decide : (-1 : Int) < 0) hR
  refine ⟨rfl, ?_, ?_⟩
  · have h6 : k ≠ 6 := fun e => by rw [e] at hk6; cases hk6
    have h7 : k ≠ 7 := fun e => by rw [e] at ho; cases ho
    omega
  · rw [ho] at hR
    by_cases h1 : (k : Int) < r
    · rw [decide_eq_true h1] at hR
      exact absurd (by decide : (-1 : Int) < 0) hR
    · by_cases h2 : (k : Int) = r
      · by_cases h3 : k = 0
        · right; omega
        · rw [decide_eq_false h1, show ((k : Int) == r) = true by simp [h2], F.beq_iff, decide_eq_false h3] at hR
          exact absurd (by decide : (-1 : Int) < 0) hR
      · left; omega

theorem F.V5 {s s' : ByteArray} {n n' : Int} {e0 e1 : Ent} {key : ByteArray} (h : F.pt 4 s n e0 key = (true, s', n', e1)) (hm : e1.milli ≤ 3600000) : F.bs s = F.tx5 e1 ++ F.bs s' ∧ e1 = { e0 with milli := e1.milli, uri := e1.uri } := by
  have hc := F.pt_cut h
  obtain ⟨ho, h5, hk⟩ := F.pt_kd (by decide) h
  have hk : F.kd (F.cutH s F.nl) = 5 := by omega
  rw [hk] at ho
  have hp : F.hasPrefix (F.cutH s F.nl) F.kTimS = true := by rw [(F.kd_eq _).2.2.2.2.2.1, hk]; rfl
  rw [F.pt_go hc (by decide) hk (by decide) (Or.inl (by decide)) ho] at h
  obtain ⟨v1, v2⟩ := F.V6 h
  have ho : F.milOk (F.cutT (F.cutH s F.nl) F.sp) = true := ho
  have hml : e1.milli = F.milV (F.cutT (F.cutH s F.nl) F.sp) := by rw [v2]; rfl
  have ht := (F.tmS_of ho (by rw [← hml]; exact hm)).1
  rw [← hml] at ht
  refine ⟨?_, ?_⟩
  · rw [F.line_of hc, v1]
    unfold F.tx5
    rw [ht, F.tim_word hp, ← F.pre_back hp, List.append_assoc]
  · rw [v2]; rfl

theorem F.V4 {s s' : ByteArray} {n n' : Int} {e0 e1 : Ent} {key : ByteArray} (h : F.pt 3 s n e0 key = (true, s', n', e1)) (hg : e0.gap = false) (hm : e1.milli ≤ 3600000) : F.bs s = F.tx4 e1 ++ F.bs s' ∧ e1 = { e0 with gap := e1.gap, milli := e1.milli, uri := e1.uri } := by
  have hc := F.pt_cut h
  obtain ⟨ho, h5, hk⟩ := F.pt_kd (by decide) h
  by_cases hk4 : F.kd (F.cutH s F.nl) = 4
  · have hp : F.seq (F.cutH s F.nl) F.kGap = true := by rw [(F.kd_eq _).2.2.2.2.1, hk4]; rfl
    rw [F.pt_go hc (by decide) hk4 (by decide) (Or.inl (by decide)) rfl] at h
    obtain ⟨v1, v2⟩ := F.V5 h hm
    have hg1 : e1.gap = true := by rw [v2]; rfl
    refine ⟨?_, ?_⟩
    · rw [F.line_of hc, v1]
      unfold F.tx4 F.opt
      rw [hg1, F.seq_iff.1 hp, cond_true, List.append_assoc]
    · rw [v2]; rfl
  · rw [F.pt_skip (by decide) (by decide) (by omega) (fun h => absurd h (by decide))] at h
    obtain ⟨v1, v2⟩ := F.V5 h hm
    have hg1 : e1.gap = false := by rw [v2]; exact hg
    refine ⟨?_, ?_⟩
    · rw [v1]
      unfold F.tx4 F.opt
      rw [hg1]
      rfl
    · rw [hg1, ← hg]; exact v2

theorem F.dsh_un {v key : ByteArray} (h : F.keyB v key = true) : F.dsh (F.undash v) = v ∧ F.seq (F.undash v) key = false := by
  unfold F.keyB at h
  simp only [Bool.and_eq_true, decide_eq_true_eq, Bool.not_eq_true'] at h
  obtain ⟨⟨h1, h2⟩, h3⟩ := h
  refine ⟨?_, h3⟩
  unfold F.undash
  cases hs : F.seq v ⟨⟨[45]⟩⟩
  · rw [cond_false]
    unfold F.dsh
    cases he : F.seq v ⟨⟨[]⟩⟩
    · rfl
    · rw [F.seq_iff.1 he] at h1
      exact absurd rfl h1
  · rw [cond_true]
    unfold F.dsh
    rw [F.seq_iff.2 rfl, F.seq_iff.1 hs]
    rfl

theorem F.V3 {s s' : ByteArray} {n n' : Int} {e0 e1 : Ent} {key : ByteArray} (h : F.pt 2 s n e0 key = (true, s', n', e1)) (hg : e0.gap = false) (hk0 : e0.key = key) (hm : e1.milli ≤ 3600000) : F.bs s = F.tx3 key e1 ++ F.bs s' ∧ e1 = { e0 with key := e1.key, gap := e1.gap, milli := e1.milli, uri := e1.uri } := by
  have hc := F.pt_cut h
  obtain ⟨ho, h5, hk⟩ := F.pt_kd (by decide) h
  by_cases hk3 : F.kd (F.cutH s F.nl) = 3
  · rw [hk3] at ho
    have hp : F.hasPrefix (F.cutH s F.nl) F.kKeyS = true := by rw [(F.kd_eq _).2.2.2.1, hk3]; rfl
    rw [F.pt_go hc (by decide) hk3 (by decide) (Or.inl (by decide)) ho] at h
    obtain ⟨v1, v2⟩ := F.V4 h hg hm
    have ho : F.keyB (F.cutT (F.cutH s F.nl) F.sp) key = true := ho
    obtain ⟨d1, d2⟩ := F.dsh_un ho
    have hk1 : e1.key = F.undash (F.cutT (F.cutH s F.nl) F.sp) := by rw [v2]; rfl
    rw [← hk1] at d1 d2
    refine ⟨?_, ?_⟩
    · rw [F.line_of hc, v1]
      unfold F.tx3 F.opt
      rw [d2, d1, F.key_word hp, ← F.pre_back hp, Bool.not_false, cond_true, List.append_assoc]
    · rw [v2]; rfl
  · rw [F.pt_skip (by decide) (by decide) (by omega) (fun h => absurd h (by decide))] at h
    obtain ⟨v1, v2⟩ := F.V4 h hg hm
    have hk1 : e1.key = key := by rw [v2]; exact hk0
    refine ⟨?_, ?_⟩
    · rw [v1]
      unfold F.tx3 F.opt
      rw [hk1, F.seq_iff.2 rfl]
      rfl
    · rw [hk1, ← hk0]; exact v2

theorem F.V2 {s s' : ByteArray} {n n' : Int} {e0 e1 : Ent} {key : ByteArray} (h : F.pt 1 s n e0 key = (true, s', n', e1)) (hg : e0.gap = false) (hk0 : e0.key = key) (hd0 : e0.date = -1) (hm : e1.milli ≤ 3600000) : F.bs s = F.tx2 key e1 ++ F.bs s' ∧ e1 = { e0 with date := e1.date, key := e1.key, gap := e1.gap, milli := e1.milli, uri := e1.uri } := by
  have hc := F.pt_cut h
  obtain ⟨ho, h5, hk⟩ := F.pt_kd (by decide) h
  by_cases hk2 : F.kd (F.cutH s F.nl) = 2
  · rw [hk2] at ho
    have hp : F.hasPrefix (F.cutH s F.nl) F.kDatS = true := by rw [(F.kd_eq _).2.2.1, hk2]; rfl
    rw [F.pt_go hc (by decide) hk2 (by decide) (Or.inl (by decide)) ho] at h
    obtain ⟨v1, v2⟩ := F.V3 h hg hk0 hm
    have ho : F.dtOk (F.cutT (F.cutH s F.nl) F.sp) = true := ho
    obtain ⟨d1, d2, d3⟩ := F.dtS_of ho
    have hk1 : e1.date = F.dtV (F.cutT (F.cutH s F.nl) F.sp) := by rw [v2]; rfl
    rw [← hk1] at d1 d2
    refine ⟨?_, ?_⟩
    · rw [F.line_of hc, v1]
      unfold F.tx2 F.opt
      rw [decide_eq_true d2, d1, F.dat_word hp, ← F.pre_back hp, cond_true, List.append_assoc]
    · rw [v2]; rfl
  · rw [F.pt_skip (by decide) (by decide) (by omega) (fun h => absurd h (by decide))] at h
    obtain ⟨v1, v2⟩ := F.V3 h hg hk0 hm
    have hk1 : e1.date = -1 := by rw [v2]; exact hd0
    refine ⟨?_, ?_⟩
    · rw [v1]
      unfold F.tx2 F.opt
      rw [hk1]
      rfl
    · rw [hk1, ← hd0]; exact v2

theorem F.V1 {s s' : ByteArray} {n n' : Int} {e0 e1 : Ent} {key : ByteArray} (h : F.pt 0 s n e0 key = (true, s', n', e1)) (hx : F.kd (F.cutH s F.nl) ≠ 0) (hg : e0.gap = false) (hk0 : e0.key = key) (hd0 : e0.date = -1) (hb0 : e0.brk = false) (hm : e1.milli ≤ 3600000) : F.bs s = F.tx1 key e1 ++ F.bs s' ∧ e1 = { e0 with brk := e1.brk, date := e1.date, key := e1.key, gap := e1.gap, milli := e1.milli, uri := e1.uri } := by
  have hc := F.pt_cut h
  obtain ⟨ho, h5, hk⟩ := F.pt_kd (by decide) h
  by_cases hk1 : F.kd (F.cutH s F.nl) = 1
  · have hp : F.seq (F.cutH s F.nl) F.kBrk = true := by rw [(F.kd_eq _).2.1, hk1]; rfl
    rw [F.pt_go hc (by decide) hk1 (by decide) (Or.inl (by decide)) rfl] at h
    obtain ⟨v1, v2⟩ := F.V2 h hg hk0 hd0 hm
    have hg1 : e1.brk = true := by rw [v2]; rfl
    refine ⟨?_, ?_⟩
    · rw [F.line_of hc, v1]
      unfold F.tx1 F.opt
      rw [hg1, F.seq_iff.1 hp, cond_true, List.append_assoc]
    · rw [v2]; rfl
  · rw [F.pt_skip (by decide) (by decide) (by omega) (fun _ => hx)] at h
    obtain ⟨v1, v2⟩ := F.V2 h hg hk0 hd0 hm
    have hg1 : e1.brk = false := by rw [v2]; exact hb0
    refine ⟨?_, ?_⟩
    · rw [v1]
      unfold F.tx1 F.opt
      rw [hg1]
      rfl
    · rw [hg1, ← hb0]; exact v2

theorem F.VX (key : ByteArray) : ∀ (k : Nat) (s s' : ByteArray) (n n' : Int) (e0 e1 : Ent), s.size ≤ k → F.pt 0 s n e0 key = (true, s', n', e1) → e0.gap = false → e0.key = key → e0.date = -1 → e0.brk = false → e1.milli ≤ 3600000 →
    ∃ xs, F.bs s = F.txX xs ++ (F.tx1 key e1 ++ F.bs s') ∧ e1.extra = e0.extra ++ xs := by
  intro k
  induction k with
  | zero =>
    intro s s' n n' e0 e1 h0 h
    exact absurd (by omega) (F.cutF_ne (F.pt_cut h))
  | succ k ih =>
    intro s s' n n' e0 e1 h0 h hg hk0 hd0 hb0 hm
    have hc := F.pt_cut h
    by_cases hk : F.kd (F.cutH s F.nl) = 0
    · rw [F.pt_go hc (by decide) hk (by decide) (Or.inr ⟨rfl, rfl⟩) rfl] at h
      have hz := F.cutT_lt F.nl_one (F.cutF_ne hc)
      obtain ⟨xs, i1, i2⟩ := ih _ _ _ _ (F.elE e0 (F.cutH s F.nl) 0) _ (by omega) h hg hk0 hd0 hb0 hm
      refine ⟨F.cutH s F.nl :: xs, ?_, ?_⟩
      · rw [F.line_of hc, i1, F.txX, List.append_assoc]
      · rw [i2]
        show (e0.extra ++ [F.cutH s F.nl]) ++ xs = _
        rw [List.append_assoc, List.singleton_append]
    · obtain ⟨v1, v2⟩ := F.V1 h hk hg hk0 hd0 hb0 hm
      refine ⟨[], v1, ?_⟩
      rw [v2, List.append_nil]

/-- Entries that are read are written so. -/
theorem F.bd_tx : ∀ (k : Nat) (s : ByteArray) (n : Int) (key : ByteArray) (acc : List Ent) (en : Bool) (s' : ByteArray) (n' : Int) (es' : List Ent) (en' : Bool), s.size ≤ k → F.bdL s n key acc en = (true, s', n', es', en') → (∀ e ∈ es', e.milli ≤ 3600000) →
    ∃ es, es' = acc ++ es ∧ F.bs s = (bif en then [] else F.txEs key es ++ F.txEnd en') ∧ (en = true → en' = true ∧ es = []) := by
  intro k
  induction k with
  | zero =>
    intro s n key acc en s' n' es' en' h0 h hm
    have hz : s.size = 0 := by omega
    have hb : F.bs s = [] := List.length_eq_zero_iff.1 (by rw [F.bs_len, hz])
    rw [F.bdL_end hz] at h
    injection h with _ h
    injection h with _ h
    injection h with _ h
    injection h with h1 h2
    subst h1 h2
    refine ⟨[], (List.append_nil _).symm, ?_, fun h => ⟨h, rfl⟩⟩
    rw [hb]
    cases en <;> rfl
  | succ k ih =>
    intro s n key acc en s' n' es' en' h0 h hm
    by_cases hz : s.size = 0
    · have hb : F.bs s = [] := List.length_eq_zero_iff.1 (by rw [F.bs_len, hz])
      rw [F.bdL_end hz] at h
      injection h with _ h
      injection h with _ h
      injection h with _ h
      injection h with h1 h2
      subst h1 h2
      refine ⟨[], (List.append_nil _).symm, ?_, fun h => ⟨h, rfl⟩⟩
      rw [hb]
      cases en <;> rfl
    cases hn : (!F.cutF s F.nl || en)
    case true => rw [F.bdL_no hz hn] at h; cases h
    have hc : F.cutF s F.nl = true ∧ en = false := by
      cases hc : F.cutF s F.nl <;> cases en <;> rw [hc] at hn <;> first | exact ⟨rfl, rfl⟩ | cases hn
    obtain ⟨hc, hen⟩ := hc
    subst hen
    have hz1 := F.cutT_lt F.nl_one hz
    cases hq : F.seq (F.cutH s F.nl) F.kEnd
    case true =>
      rw [F.bdL_last hz hn hq] at h
      obtain ⟨es, i1, i2, i3⟩ := ih _ _ _ _ _ _ _ _ _ (by omega) h hm
      obtain ⟨i4, i5⟩ := i3 rfl
      refine ⟨es, i1, ?_, fun h => (by cases h)⟩
      have i2 : F.bs (F.cutT s F.nl) = [] := i2
      rw [F.line_of hc, i2, i5, i4, F.seq_iff.1 hq]
      rfl
    generalize hr : F.pt 0 s n (F.noE key) key = r
    have hP := (F.enL_p0 (n := n) (e := F.noE key) (key := key) hc).trans hr
    cases ho : r.1
    · rw [F.bdL_bad hz hn hq hP ho] at h; cases h
    · rw [F.bdL_go hz hn hq hP ho] at h
      obtain ⟨r1, r2, r3, r4⟩ := r
      have ho : r1 = true := ho
      subst ho
      have hle := F.enL_le _ (F.cutT s F.nl) (n + 1) (F.noE key) (F.cutH s F.nl) key 0 (Nat.le_refl _)
      rw [hP] at hle
      obtain ⟨es, i1, i2, i3⟩ := ih _ _ _ _ _ _ _ _ _ (by have := hle.1; simp only at this ⊢; omega) h hm
      have hm4 : r4.milli ≤ 3600000 := hm r4 (by rw [i1]; simp)
      obtain ⟨xs, j1, j2⟩ := F.VX key _ s r2 n r3 (F.noE key) r4 (Nat.le_refl _) hr rfl rfl rfl rfl hm4
      have j2 : r4.extra = xs := j2
      refine ⟨r4 :: es, by rw [i1, List.append_assoc, List.singleton_append], ?_, fun h => (by cases h)⟩
      have i2 : F.bs r2 = F.txEs r4.key es ++ F.txEnd en' := i2
      show F.bs s = F.txEs key (r4 :: es) ++ F.txEnd en'
      rw [j1, i2, F.txEs, F.tx0, j2]
      simp only [List.append_assoc]

theorem F.hd_tx {s w : ByteArray} (h : F.hdOk s w = true) : F.bs s = F.lnB (F.hdW w ++ F.itoa (F.hdV s w)) ++ F.bs (F.cutT s F.nl) := by
  unfold F.hdOk at h
  rw [Bool.and_eq_true, Bool.and_eq_true] at h
  obtain ⟨⟨h1, h2⟩, h3⟩ := h
  have hp : F.cutP (F.cutH s F.nl) (F.hdW w) = (F.cutH s F.nl).extract (F.hdW w).size (F.cutH s F.nl).size := by unfold F.cutP; rw [h2]; rfl
  have hi := F.itoa_num h3
  unfold F.hdV
  rw [hi, hp, ← F.pre_back h2]
  exact F.line_of h1

/-- A list that is read is written so. -/
theorem F.rd_tx {s : ByteArray} (h : (F.rdT s).2.2 = 0) : F.check (F.rdT s).1 = 0 ∧ F.bs s = F.txL (F.rdT s).1 [] ∧ s.size ≤ 500000 := by
  unfold F.rdT at h ⊢
  cases hb : decide (500000 < s.size)
  case true => rw [hb] at h; cases h
  rw [hb] at h
  rw [cond_false] at h ⊢
  cases hq : (F.cutF s F.nl && F.seq (F.cutH s F.nl) F.kLst)
  · rw [hq] at h; cases h
  rw [hq] at h
  cases h1 : F.hdOk (F.cutT s F.nl) F.wTg
  · rw [h1] at h; cases h
  rw [h1] at h
  cases h2 : F.hdOk (F.dr 1 (F.cutT s F.nl)) F.wFi
  · rw [h2] at h; cases h
  rw [h2] at h
  cases h3 : F.hdOk (F.dr 2 (F.cutT s F.nl)) F.wBr
  · rw [h3] at h; cases h
  rw [h3] at h
  cases h4 : (F.rdB (F.cutT s F.nl) 1).1
  · rw [h4] at h; cases h
  rw [h4] at h
  by_cases h5 : F.check (F.rdG (F.cutT s F.nl) 1) = 0
  · rw [h5]
    show F.check (F.rdG (F.cutT s F.nl) 1) = 0 ∧ F.bs s = F.txL (F.rdG (F.cutT s F.nl) 1) [] ∧ _
    refine ⟨h5, ?_, by have := of_decide_eq_false hb; omega⟩
    rw [Bool.and_eq_true] at hq
    have hE := (F.check_ok h5).2.2.2.2.2.2
    obtain ⟨es, i1, i2, _⟩ := F.bd_tx _ (F.dr 3 (F.cutT s F.nl)) (1 + 1 + 1 + 1) ⟨⟨[]⟩⟩ [] false (F.rdB (F.cutT s F.nl) 1).2.1 (F.rdB (F.cutT s F.nl) 1).2.2.1 (F.rdB (F.cutT s F.nl) 1).2.2.2.1 (F.rdB (F.cutT s F.nl) 1).2.2.2.2 (Nat.le_refl _) (by
      have : F.bdL (F.dr 3 (F.cutT s F.nl)) (1 + 1 + 1 + 1) ⟨⟨[]⟩⟩ [] false = F.rdB (F.cutT s F.nl) 1 := rfl
      rw [this, ← h4]) (fun e he => (hE e he).mil2)
    rw [List.nil_append] at i1
    have i2 : F.bs (F.dr 3 (F.cutT s F.nl)) = F.txEs ⟨⟨[]⟩⟩ es ++ F.txEnd (F.rdB (F.cutT s F.nl) 1).2.2.2.2 := i2
    rw [← i1] at i2
    have g1 := F.hd_tx h1
    have g2 := F.hd_tx h2
    have g3 := F.hd_tx h3
    have e1 : F.cutT (F.dr 2 (F.cutT s F.nl)) F.nl = F.dr 3 (F.cutT s F.nl) := rfl
    have e2 : F.cutT (F.dr 1 (F.cutT s F.nl)) F.nl = F.dr 2 (F.cutT s F.nl) := rfl
    have e3 : F.cutT (F.cutT s F.nl) F.nl = F.dr 1 (F.cutT s F.nl) := rfl
    rw [e1, i2] at g3
    rw [e2, g3] at g2
    rw [e3, g2] at g1
    rw [F.line_of hq.1, g1, F.seq_iff.1 hq.2]
    rfl
  · have hn : (F.check (F.rdG (F.cutT s F.nl) 1) != 0) = true := by simp [h5]
    rw [hn] at h
    exact absurd h h5

end Go.Proofs.YtgkjfochkhiojaaDoor
