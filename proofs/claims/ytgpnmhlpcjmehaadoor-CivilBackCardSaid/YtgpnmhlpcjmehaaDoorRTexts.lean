/- Texts of dates: what Text and Parse come to, the program's and the document's. -/
import Derived.Test.YtgpnmhlpcjmehaaDoorRDays
import Derived.Test.YtgpnmhlpcjmehaaDoorRx8
namespace Go.Proofs.YtgpnmhlpcjmehaaDoor.RC
open Go.RowKit Go.Proofs.YtgpnmhlpcjmehaaDoor.R Go.Proofs.YtgpnmhlpcjmehaaDoorW.PrintWords Go.Proofs.YtgpnmhlpcjmehaaDoorW.PrintLast

def dg (n : Nat) : UInt8 := UInt8.ofNat (48 + n)
theorem dg_nat {n : Nat} (h : n < 10) : (dg n).toNat = 48 + n := by unfold dg; rw [UInt8.toNat_ofNat']; omega
def txtN (y m d : Nat) : List UInt8 := [dg (y / 1000), dg (y / 100 % 10), dg (y / 10 % 10), dg (y % 10), 45, dg (m / 10), dg (m % 10), 45, dg (d / 10), dg (d % 10)]
/-- A date's text. -/
def txt (y m d : Int) : ByteArray := ⟨(txtN y.toNat m.toNat d.toNat).toArray⟩
def textE (y m d : Int) : ByteArray × Int := if isB y m d = true then (txt y m d, 0) else (⟨#[]⟩, 3)

theorem itoa4 {y : Int} (h : 1000 ≤ y) (h2 : y ≤ 9999) : strconv_Itoa.f y = some ⟨#[dg (y.toNat / 1000), dg (y.toNat / 100 % 10), dg (y.toNat / 10 % 10), dg (y.toNat % 10)]⟩ := by
  unfold strconv_Itoa.f
  rw [if_pos (by omega)]
  unfold itoa Lib.itoa
  rw [if_neg (by omega)]
  have e1 : ¬ y.toNat < 10 := by omega
  have e2 : ¬ y.toNat / 10 < 10 := by omega
  rw [Lib.decDigits, dif_neg e1, Lib.decDigits, dif_neg e2, Lib.decDigits_two (by omega) (by omega)]
  have a : y.toNat / 10 / 10 / 10 = y.toNat / 1000 := by omega
  have b : y.toNat / 10 / 10 = y.toNat / 100 := by omega
  rw [a, b]
  rfl
theorem two_eq {m : Int} (h : 0 ≤ m) (h2 : m < 100) : civil_two.f m = some ⟨#[dg (m.toNat / 10), dg (m.toNat % 10)]⟩ := by
  unfold civil_two.f
  rw [wrap_id (by omega) (by omega)]
  unfold strconv_Itoa.f
  rw [if_pos (by omega)]
  unfold itoa Lib.itoa
  rw [if_neg (by omega)]
  have e0 : (100 + m).toNat = 100 + m.toNat := by omega
  rw [e0]
  have e1 : ¬ (100 + m.toNat) < 10 := by omega
  rw [Lib.decDigits, dif_neg e1, Lib.decDigits_two (by omega) (by omega)]
  have a : (100 + m.toNat) / 10 / 10 = 1 := by omega
  have b : (100 + m.toNat) / 10 % 10 = m.toNat / 10 := by omega
  have c : (100 + m.toNat) % 10 = m.toNat % 10 := by omega
  rw [a, b, c]
  rfl
theorem text_eq (y m d : Int) : civil_Text.f y m d = some (textE y m d) := by
  unfold civil_Text.f textE
  rw [is_eq]
  simp only [Option.bind_some]
  by_cases h : isB y m d = true
  · obtain ⟨h1, h2, h3, h4, h5, h6⟩ := isB_iff.1 h
    have l := len_hi y m
    rw [if_pos h, if_pos h, itoa4 (by omega) h2, two_eq (m := m) (by omega) (by omega), two_eq (m := d) (by omega) (by omega)]
    rfl
  · rw [if_neg h, if_neg h]
theorem str1 (n : Int) (h : 0 ≤ n) : strOfNums [(wrap64 (48 + (Int.tmod n 10))) % 256] = ⟨#[dg (n.toNat % 10)]⟩ := by
  rw [Int.tmod_eq_emod_of_nonneg h, wrap_id (by omega) (by omega)]
  have e : (48 + n % 10) % 256 = ((48 + n.toNat % 10 : Nat) : Int) := by omega
  rw [e]
  rfl
theorem digits_ev (w : Nat) (hw : w ≤ 100) : ∀ (j i : Nat) (n : Int) (s : ByteArray), i + j = w → 0 ≤ n → n ≤ 9223372036854775807 → s.size ≤ 1000 + i →
    ∀ out, out = (List.range j).foldl (fun (p : Nat × List UInt8) _ => (p.1 / 10, dg (p.1 % 10) :: p.2)) (n.toNat, s.data.toList) → Ev (fun k => sundialref03_digits.l0 k n (w : Int) s (i : Int)) ⟨out.2.toArray⟩ := by
  intro j
  induction j with
  | zero =>
    intro i n s hi h0 h1 hs out ho
    subst ho
    refine Ev.step (f := fun _ => some s) (fun k => ?_) (Ev.now _)
    simp only [sundialref03_digits.l0]
    rw [if_neg (by omega)]
  | succ j ih =>
    intro i n s hi h0 h1 hs out ho
    have hsz : ((⟨#[dg (n.toNat % 10)]⟩ : ByteArray) ++ s).size = 1 + s.size := by rw [ByteArray.size_append]; rfl
    have hd : wrap64 (Int.tdiv n 10) = ((n.toNat / 10 : Nat) : Int) := by rw [Int.tdiv_eq_ediv_of_nonneg h0, wrap_id (by omega) (by omega)]; omega
    refine Ev.step (f := fun k => sundialref03_digits.l0 k ((n.toNat / 10 : Nat) : Int) (w : Int) ((⟨#[dg (n.toNat % 10)]⟩ : ByteArray) ++ s) ((i + 1 : Nat) : Int)) (fun k => ?_) ?_
    · simp only [sundialref03_digits.l0]
      rw [if_pos (by omega)]
      simp only [Option.bind_some]
      rw [str1 n h0, hd, if_pos (by show 1 + s.size ≤ _; omega), wrap_id (by omega) (by omega)]
      rfl
    · refine ih (i + 1) _ _ (by omega) (by omega) (by omega) (by rw [hsz]; omega) out ?_
      rw [ho, List.range_succ_eq_map, List.foldl_cons, List.foldl_map]
      have e : (((n.toNat / 10 : Nat) : Int)).toNat = n.toNat / 10 := by omega
      rw [e]
      have e2 : ((⟨#[dg (n.toNat % 10)]⟩ : ByteArray) ++ s).data.toList = dg (n.toNat % 10) :: s.data.toList := by simp
      rw [e2]
theorem digits4 {y : Int} (h : 1000 ≤ y) (h2 : y ≤ 9999) : Ev (fun k => sundialref03_digits.f k y 4) ⟨#[dg (y.toNat / 1000), dg (y.toNat / 100 % 10), dg (y.toNat / 10 % 10), dg (y.toNat % 10)]⟩ := by
  have z := digits_ev 4 (by decide) 4 0 y ⟨#[]⟩ rfl (by omega) (by omega) (by decide) _ rfl
  unfold sundialref03_digits.f
  have e : ((⟨((List.range 4).foldl (fun (p : Nat × List UInt8) _ => (p.1 / 10, dg (p.1 % 10) :: p.2)) (y.toNat, (⟨#[]⟩ : ByteArray).data.toList)).2.toArray⟩ : ByteArray)) = ⟨#[dg (y.toNat / 1000), dg (y.toNat / 100 % 10), dg (y.toNat / 10 % 10), dg (y.toNat % 10)]⟩ := by
    show (⟨#[dg (y.toNat / 10 / 10 / 10 % 10), dg (y.toNat / 10 / 10 % 10), dg (y.toNat / 10 % 10), dg (y.toNat % 10)]⟩ : ByteArray) = _
    have a : y.toNat / 10 / 10 / 10 % 10 = y.toNat / 1000 := by omega
    have b : y.toNat / 10 / 10 % 10 = y.toNat / 100 % 10 := by omega
    rw [a, b]
  rw [e] at z
  exact z
theorem digits2 {y : Int} (h : 0 ≤ y) (h2 : y ≤ 99) : Ev (fun k => sundialref03_digits.f k y 2) ⟨#[dg (y.toNat / 10), dg (y.toNat % 10)]⟩ := by
  have z := digits_ev 2 (by decide) 2 0 y ⟨#[]⟩ rfl (by omega) (by omega) (by decide) _ rfl
  unfold sundialref03_digits.f
  have e : ((⟨((List.range 2).foldl (fun (p : Nat × List UInt8) _ => (p.1 / 10, dg (p.1 % 10) :: p.2)) (y.toNat, (⟨#[]⟩ : ByteArray).data.toList)).2.toArray⟩ : ByteArray)) = ⟨#[dg (y.toNat / 10), dg (y.toNat % 10)]⟩ := by
    show (⟨#[dg (y.toNat / 10 % 10), dg (y.toNat % 10)]⟩ : ByteArray) = _
    have a : y.toNat / 10 % 10 = y.toNat / 10 := by omega
    rw [a]
  rw [e] at z
  exact z
theorem textR_ev (y m d : Int) : Ev (fun k => sundialref03_Text.f k y m d) (textE y m d) := by
  unfold sundialref03_Text.f textE
  refine Ev.bind (isR_ev y m d) ?_
  by_cases h : isB y m d = true
  · obtain ⟨h1, h2, h3, h4, h5, h6⟩ := isB_iff.1 h
    have l := len_hi y m
    rw [if_pos h]
    simp only [if_pos h]
    refine Ev.bind (digits4 (by omega) h2) ?_
    refine Ev.congr (f := fun k => (sundialref03_digits.f k m 2).bind fun t139 => (if ((⟨#[dg (y.toNat / 1000), dg (y.toNat / 100 % 10), dg (y.toNat / 10 % 10), dg (y.toNat % 10)]⟩ : ByteArray) ++ (⟨#[45]⟩ : ByteArray)).size + t139.size ≤ 9223372036854775807 then (if (((⟨#[dg (y.toNat / 1000), dg (y.toNat / 100 % 10), dg (y.toNat / 10 % 10), dg (y.toNat % 10)]⟩ : ByteArray) ++ (⟨#[45]⟩ : ByteArray)) ++ t139).size + 1 ≤ 9223372036854775807 then ((sundialref03_digits.f k d 2).bind fun t140 => (if ((((⟨#[dg (y.toNat / 1000), dg (y.toNat / 100 % 10), dg (y.toNat / 10 % 10), dg (y.toNat % 10)]⟩ : ByteArray) ++ (⟨#[45]⟩ : ByteArray)) ++ t139) ++ (⟨#[45]⟩ : ByteArray)).size + t140.size ≤ 9223372036854775807 then (some (((((⟨#[dg (y.toNat / 1000), dg (y.toNat / 100 % 10), dg (y.toNat / 10 % 10), dg (y.toNat % 10)]⟩ : ByteArray) ++ (⟨#[45]⟩ : ByteArray)) ++ t139) ++ (⟨#[45]⟩ : ByteArray)) ++ t140, 0)) else (none))) else (none)) else (none))) (fun k => if_pos (by show (4 : Nat) + 1 ≤ 9223372036854775807; decide)) ?_
    refine Ev.bind (digits2 (y := m) (by omega) (by omega)) ?_
    refine Ev.congr (f := fun k => (sundialref03_digits.f k d 2).bind fun t140 => (if 8 + t140.size ≤ 9223372036854775807 then (some (((((⟨#[dg (y.toNat / 1000), dg (y.toNat / 100 % 10), dg (y.toNat / 10 % 10), dg (y.toNat % 10)]⟩ : ByteArray) ++ (⟨#[45]⟩ : ByteArray)) ++ ⟨#[dg (m.toNat / 10), dg (m.toNat % 10)]⟩) ++ (⟨#[45]⟩ : ByteArray)) ++ t140, 0)) else (none))) (fun k => (if_pos (by show (5 : Nat) + 2 ≤ 9223372036854775807; decide)).trans ((if_pos (by show (7 : Nat) + 1 ≤ 9223372036854775807; decide)).trans rfl)) ?_
    refine Ev.bind (digits2 (y := d) (by omega) (by omega)) ?_
    refine Ev.congr (f := fun _ => some (txt y m d, 0)) (fun k => (if_pos (by show (8 : Nat) + 2 ≤ 9223372036854775807; decide)).trans rfl) (Ev.now _)
  · rw [if_neg h]
    exact Ev.congr (f := fun _ => some (⟨#[]⟩, 3)) (fun k => by rw [if_neg h]) (Ev.now _)

theorem value_step (s : ByteArray) (i : Nat) (x : Int) (b : Int) (r : Int) (hi : i < s.size) (hb : bt s (i : Int) = b) (h0 : -1000000 ≤ x) (h1 : x ≤ 1000000) (hi2 : i < 100)
    (h : Ev (fun k => sundialref03_value.l0 k s (10 * x + b - 48) ((i + 1 : Nat) : Int)) r) : Ev (fun k => sundialref03_value.l0 k s x (i : Int)) r := by
  have hr := bt_range s (i : Int)
  rw [hb] at hr
  refine Ev.step (f := fun k => sundialref03_value.l0 k s (10 * x + b - 48) ((i + 1 : Nat) : Int)) (fun k => ?_) h
  simp only [sundialref03_value.l0]
  rw [if_pos (by omega), if_pos (by omega), hb, wrap_id (x := 10 * x) (by omega) (by omega), wrap_id (x := b) (by omega) (by omega), wrap_id (x := 10 * x + b) (by omega) (by omega), wrap_id (x := 10 * x + b - 48) (by omega) (by omega), wrap_id (x := (i : Int) + 1) (by omega) (by omega)]
  rfl
theorem value_end (s : ByteArray) (i : Nat) (x : Int) (hi : i = s.size) : Ev (fun k => sundialref03_value.l0 k s x (i : Int)) x := by
  refine Ev.step (f := fun _ => some x) (fun k => ?_) (Ev.now _)
  simp only [sundialref03_value.l0]
  rw [if_neg (by omega)]
def v2 (a b : UInt8) : Int := 10 * ((a.toNat : Int) - 48) + (b.toNat : Int) - 48
def v4 (a b c d : UInt8) : Int := 10 * (10 * v2 a b + (c.toNat : Int) - 48) + (d.toNat : Int) - 48
theorem value2 (a b : UInt8) : Ev (fun k => sundialref03_value.f k ⟨#[a, b]⟩) (v2 a b) := by
  have ha := a.toNat_lt; have hb := b.toNat_lt
  unfold sundialref03_value.f
  refine value_step ⟨#[a, b]⟩ 0 0 a.toNat _ (by show (0 : Nat) < 2; decide) rfl (by omega) (by omega) (by omega) ?_
  refine value_step ⟨#[a, b]⟩ 1 _ b.toNat _ (by show (1 : Nat) < 2; decide) rfl (by omega) (by omega) (by omega) ?_
  have e : (10 * (10 * 0 + (a.toNat : Int) - 48) + (b.toNat : Int) - 48) = v2 a b := by unfold v2; omega
  rw [e]
  exact value_end ⟨#[a, b]⟩ 2 _ rfl
theorem value4 (a b c d : UInt8) : Ev (fun k => sundialref03_value.f k ⟨#[a, b, c, d]⟩) (v4 a b c d) := by
  have ha := a.toNat_lt; have hb := b.toNat_lt; have hc := c.toNat_lt; have hd := d.toNat_lt
  unfold sundialref03_value.f
  refine value_step ⟨#[a, b, c, d]⟩ 0 0 a.toNat _ (by show (0 : Nat) < 4; decide) rfl (by omega) (by omega) (by omega) ?_
  refine value_step ⟨#[a, b, c, d]⟩ 1 _ b.toNat _ (by show (1 : Nat) < 4; decide) rfl (by omega) (by omega) (by omega) ?_
  refine value_step ⟨#[a, b, c, d]⟩ 2 _ c.toNat _ (by show (2 : Nat) < 4; decide) rfl (by omega) (by omega) (by omega) ?_
  refine value_step ⟨#[a, b, c, d]⟩ 3 _ d.toNat _ (by show (3 : Nat) < 4; decide) rfl (by omega) (by omega) (by omega) ?_
  have e : (10 * (10 * (10 * (10 * 0 + (a.toNat : Int) - 48) + (b.toNat : Int) - 48) + (c.toNat : Int) - 48) + (d.toNat : Int) - 48) = v4 a b c d := by unfold v4 v2; omega
  rw [e]
  exact value_end ⟨#[a, b, c, d]⟩ 4 _ rfl

def dig (b : UInt8) : Prop := 48 ≤ b.toNat ∧ b.toNat ≤ 57
instance (b : UInt8) : Decidable (dig b) := inferInstanceAs (Decidable (_ ∧ _))
/-- A step of the loop, by the byte itself: what is no ASCII is neither a digit nor a dash. -/
theorem prs_at (s : ByteArray) (f pos a : Nat) (x y z : Int) (h : pos < s.size) : prs s (f + 1) pos a x y z =
    (if (s[pos]'h).toNat = 45 ∧ (pos = 4 ∨ pos = 7) then prs s f (pos + 1) (a + 1) x y z
     else if 48 ≤ (s[pos]'h).toNat ∧ (s[pos]'h).toNat ≤ 57 ∧ pos ≠ 4 ∧ pos ≠ 7 ∧ a < 3 then
       (if a = 0 then prs s f (pos + 1) a (wrap64 (wrap64 (10 * x) + (((s[pos]'h).toNat : Int) - 48))) y z
        else if a = 1 then prs s f (pos + 1) a x (wrap64 (wrap64 (10 * y) + (((s[pos]'h).toNat : Int) - 48))) z
        else prs s f (pos + 1) a x y (wrap64 (wrap64 (10 * z) + (((s[pos]'h).toNat : Int) - 48))))
     else none) := by
  simp only [prs]
  rw [if_pos h]
  by_cases ha : (s[pos]'h).toNat < 128
  · rw [decode_ascii s pos h ha]
  · have hd := (decode_high s pos h (by omega)).1
    rw [if_neg (by omega), if_neg (by omega), if_neg (by omega), if_neg (by omega)]
theorem prs_dash (s : ByteArray) (f pos a : Nat) (x y z : Int) (h : pos < s.size) (hp : pos = 4 ∨ pos = 7) : prs s (f + 1) pos a x y z = if (s[pos]'h) = 45 then prs s f (pos + 1) (a + 1) x y z else none := by
  rw [prs_at s f pos a x y z h]
  by_cases c : (s[pos]'h) = 45
  · rw [if_pos c, if_pos ⟨by rw [c]; rfl, hp⟩]
  · have c' : ¬ (s[pos]'h).toNat = 45 := fun e => c (UInt8.toNat_inj.1 (by rw [e]; rfl))
    rw [if_neg c, if_neg (fun e => c' e.1), if_neg (by omega)]
theorem prs_dig0 (s : ByteArray) (f pos : Nat) (x y z : Int) (h : pos < s.size) (n4 : pos ≠ 4) (n7 : pos ≠ 7) (h0 : 0 ≤ x) (h1 : x ≤ 100000) : prs s (f + 1) pos 0 x y z = if dig (s[pos]'h) then prs s f (pos + 1) 0 (10 * x + (((s[pos]'h).toNat : Int) - 48)) y z else none := by
  rw [prs_at s f pos 0 x y z h]
  by_cases c : dig (s[pos]'h)
  · rw [if_pos c, if_neg (by omega), if_pos ⟨c.1, c.2, n4, n7, by omega⟩, if_pos rfl]
    obtain ⟨c1, c2⟩ := c
    rw [wrap_id (x := 10 * x) (by omega) (by omega), wrap_id (by omega) (by omega)]
  · rw [if_neg c, if_neg (by omega), if_neg (fun e => c ⟨e.1, e.2.1⟩)]
theorem prs_dig1 (s : ByteArray) (f pos : Nat) (x y z : Int) (h : pos < s.size) (n4 : pos ≠ 4) (n7 : pos ≠ 7) (h0 : 0 ≤ y) (h1 : y ≤ 100000) : prs s (f + 1) pos 1 x y z = if dig (s[pos]'h) then prs s f (pos + 1) 1 x (10 * y + (((s[pos]'h).toNat : Int) - 48)) z else none := by
  rw [prs_at s f pos 1 x y z h]
  by_cases c : dig (s[pos]'h)
  · rw [if_pos c, if_neg (by omega), if_pos ⟨c.1, c.2, n4, n7, by omega⟩, if_neg (by decide), if_pos rfl]
    obtain ⟨c1, c2⟩ := c
    rw [wrap_id (x := 10 * y) (by omega) (by omega), wrap_id (by omega) (by omega)]
  · rw [if_neg c, if_neg (by omega), if_neg (fun e => c ⟨e.1, e.2.1⟩)]
theorem prs_dig2 (s : ByteArray) (f pos : Nat) (x y z : Int) (h : pos < s.size) (n4 : pos ≠ 4) (n7 : pos ≠ 7) (h0 : 0 ≤ z) (h1 : z ≤ 100000) : prs s (f + 1) pos 2 x y z = if dig (s[pos]'h) then prs s f (pos + 1) 2 x y (10 * z + (((s[pos]'h).toNat : Int) - 48)) else none := by
  rw [prs_at s f pos 2 x y z h]
  by_cases c : dig (s[pos]'h)
  · rw [if_pos c, if_neg (by omega), if_pos ⟨c.1, c.2, n4, n7, by omega⟩, if_neg (by decide), if_neg (by decide)]
    obtain ⟨c1, c2⟩ := c
    rw [wrap_id (x := 10 * z) (by omega) (by omega), wrap_id (by omega) (by omega)]
  · rw [if_neg c, if_neg (by omega), if_neg (fun e => c ⟨e.1, e.2.1⟩)]
def okB (b0 b1 b2 b3 b4 b5 b6 b7 b8 b9 : UInt8) : Prop := dig b0 ∧ dig b1 ∧ dig b2 ∧ dig b3 ∧ b4 = 45 ∧ dig b5 ∧ dig b6 ∧ b7 = 45 ∧ dig b8 ∧ dig b9
theorem prs_ok {b0 b1 b2 b3 b4 b5 b6 b7 b8 b9 : UInt8} (h : okB b0 b1 b2 b3 b4 b5 b6 b7 b8 b9) : prsE ⟨#[b0, b1, b2, b3, b4, b5, b6, b7, b8, b9]⟩ = some (v4 b0 b1 b2 b3, v2 b5 b6, v2 b8 b9) := by
  obtain ⟨h0, h1, h2, h3, h4, h5, h6, h7, h8, h9⟩ := h
  have g0 := h0; have g1 := h1; have g2 := h2; have g3 := h3; have g5 := h5; have g6 := h6; have g8 := h8; have g9 := h9
  unfold dig at g0 g1 g2 g3 g5 g6 g8 g9
  show prs ⟨#[b0, b1, b2, b3, b4, b5, b6, b7, b8, b9]⟩ 10 0 0 0 0 0 = _
  rw [prs_dig0 _ 9 0 _ _ _ (by show (0 : Nat) < 10; decide) (by decide) (by decide) (by omega) (by omega), if_pos (by exact h0)]
  rw [prs_dig0 _ 8 1 _ _ _ (by show (1 : Nat) < 10; decide) (by decide) (by decide) (by show 0 ≤ 10 * 0 + ((b0.toNat : Int) - 48); omega) (by show 10 * 0 + ((b0.toNat : Int) - 48) ≤ _; omega), if_pos (by exact h1)]
  rw [prs_dig0 _ 7 2 _ _ _ (by show (2 : Nat) < 10; decide) (by decide) (by decide) (by show 0 ≤ 10 * (10 * 0 + ((b0.toNat : Int) - 48)) + ((b1.toNat : Int) - 48); omega) (by show 10 * (10 * 0 + ((b0.toNat : Int) - 48)) + ((b1.toNat : Int) - 48) ≤ _; omega), if_pos (by exact h2)]
  rw [prs_dig0 _ 6 3 _ _ _ (by show (3 : Nat) < 10; decide) (by decide) (by decide) (by show 0 ≤ 10 * (10 * (10 * 0 + ((b0.toNat : Int) - 48)) + ((b1.toNat : Int) - 48)) + ((b2.toNat : Int) - 48); omega) (by show 10 * (10 * (10 * 0 + ((b0.toNat : Int) - 48)) + ((b1.toNat : Int) - 48)) + ((b2.toNat : Int) - 48) ≤ _; omega), if_pos (by exact h3)]
  rw [prs_dash _ 5 4 _ _ _ _ (by show (4 : Nat) < 10; decide) (.inl rfl), if_pos (by exact h4)]
  rw [prs_dig1 _ 4 5 _ _ _ (by show (5 : Nat) < 10; decide) (by decide) (by decide) (by omega) (by omega), if_pos (by exact h5)]
  rw [prs_dig1 _ 3 6 _ _ _ (by show (6 : Nat) < 10; decide) (by decide) (by decide) (by show 0 ≤ 10 * 0 + ((b5.toNat : Int) - 48); omega) (by show 10 * 0 + ((b5.toNat : Int) - 48) ≤ _; omega), if_pos (by exact h6)]
  rw [prs_dash _ 2 7 _ _ _ _ (by show (7 : Nat) < 10; decide) (.inr rfl), if_pos (by exact h7)]
  rw [prs_dig2 _ 1 8 _ _ _ (by show (8 : Nat) < 10; decide) (by decide) (by decide) (by omega) (by omega), if_pos (by exact h8)]
  rw [prs_dig2 _ 0 9 _ _ _ (by show (9 : Nat) < 10; decide) (by decide) (by decide) (by show 0 ≤ 10 * 0 + ((b8.toNat : Int) - 48); omega) (by show 10 * 0 + ((b8.toNat : Int) - 48) ≤ _; omega), if_pos (by exact h9)]
  show some (10 * (10 * (10 * (10 * 0 + ((b0.toNat : Int) - 48)) + ((b1.toNat : Int) - 48)) + ((b2.toNat : Int) - 48)) + ((b3.toNat : Int) - 48), 10 * (10 * 0 + ((b5.toNat : Int) - 48)) + ((b6.toNat : Int) - 48), 10 * (10 * 0 + ((b8.toNat : Int) - 48)) + ((b9.toNat : Int) - 48)) = _
  unfold v4 v2
  congr 1
  refine Prod.ext ?_ (Prod.ext ?_ ?_)
  · dsimp only; omega
  · dsimp only; omega
  · dsimp only; omega
/-- What is read at all is of ten bytes' shape. -/
theorem prs_no {b0 b1 b2 b3 b4 b5 b6 b7 b8 b9 : UInt8} (h : ¬ okB b0 b1 b2 b3 b4 b5 b6 b7 b8 b9) : prsE ⟨#[b0, b1, b2, b3, b4, b5, b6, b7, b8, b9]⟩ = none := by
  show prs ⟨#[b0, b1, b2, b3, b4, b5, b6, b7, b8, b9]⟩ 10 0 0 0 0 0 = _
  rw [prs_dig0 _ 9 0 _ _ _ (by show (0 : Nat) < 10; decide) (by decide) (by decide) (by omega) (by omega)]
  by_cases h0 : dig b0
  case neg => exact if_neg h0
  have g0 := h0; unfold dig at g0
  rw [if_pos (by exact h0), prs_dig0 _ 8 1 _ _ _ (by show (1 : Nat) < 10; decide) (by decide) (by decide) (by show 0 ≤ 10 * 0 + ((b0.toNat : Int) - 48); omega) (by show 10 * 0 + ((b0.toNat : Int) - 48) ≤ _; omega)]
  by_cases h1 : dig b1
  case neg => exact if_neg h1
  have g1 := h1; unfold dig at g1
  rw [if_pos (by exact h1), prs_dig0 _ 7 2 _ _ _ (by show (2 : Nat) < 10; decide) (by decide) (by decide) (by show 0 ≤ 10 * (10 * 0 + ((b0.toNat : Int) - 48)) + ((b1.toNat : Int) - 48); omega) (by show 10 * (10 * 0 + ((b0.toNat : Int) - 48)) + ((b1.toNat : Int) - 48) ≤ _; omega)]
  by_cases h2 : dig b2
  case neg => exact if_neg h2
  have g2 := h2; unfold dig at g2
  rw [if_pos (by exact h2), prs_dig0 _ 6 3 _ _ _ (by show (3 : Nat) < 10; decide) (by decide) (by decide) (by show 0 ≤ 10 * (10 * (10 * 0 + ((b0.toNat : Int) - 48)) + ((b1.toNat : Int) - 48)) + ((b2.toNat : Int) - 48); omega) (by show 10 * (10 * (10 * 0 + ((b0.toNat : Int) - 48)) + ((b1.toNat : Int) - 48)) + ((b2.toNat : Int) - 48) ≤ _; omega)]
  by_cases h3 : dig b3
  case neg => exact if_neg h3
  rw [if_pos (by exact h3), prs_dash _ 5 4 _ _ _ _ (by show (4 : Nat) < 10; decide) (.inl rfl)]
  by_cases h4 : b4 = 45
  case neg => exact if_neg h4
  rw [if_pos (by exact h4), prs_dig1 _ 4 5 _ _ _ (by show (5 : Nat) < 10; decide) (by decide) (by decide) (by omega) (by omega)]
  by_cases h5 : dig b5
  case neg => exact if_neg h5
  have g5 := h5; unfold dig at g5
  rw [if_pos (by exact h5), prs_dig1 _ 3 6 _ _ _ (by show (6 : Nat) < 10; decide) (by decide) (by decide) (by show 0 ≤ 10 * 0 + ((b5.toNat : Int) - 48); omega) (by show 10 * 0 + ((b5.toNat : Int) - 48) ≤ _; omega)]
  by_cases h6 : dig b6
  case neg => exact if_neg h6
  rw [if_pos (by exact h6), prs_dash _ 2 7 _ _ _ _ (by show (7 : Nat) < 10; decide) (.inr rfl)]
  by_cases h7 : b7 = 45
  case neg => exact if_neg h7
  rw [if_pos (by exact h7), prs_dig2 _ 1 8 _ _ _ (by show (8 : Nat) < 10; decide) (by decide) (by decide) (by omega) (by omega)]
  by_cases h8 : dig b8
  case neg => exact if_neg h8
  have g8 := h8; unfold dig at g8
  rw [if_pos (by exact h8), prs_dig2 _ 0 9 _ _ _ (by show (9 : Nat) < 10; decide) (by decide) (by decide) (by show 0 ≤ 10 * 0 + ((b8.toNat : Int) - 48); omega) (by show 10 * 0 + ((b8.toNat : Int) - 48) ≤ _; omega)]
  by_cases h9 : dig b9
  case neg => exact if_neg h9
  exact absurd ⟨h0, h1, h2, h3, h4, h5, h6, h7, h8, h9⟩ h
/-- The text of a date has that shape, and its numbers are the date's. -/
theorem txt_ok {y m d : Int} (h : isB y m d = true) {b0 b1 b2 b3 b4 b5 b6 b7 b8 b9 : UInt8} (e : txtN y.toNat m.toNat d.toNat = [b0, b1, b2, b3, b4, b5, b6, b7, b8, b9]) : okB b0 b1 b2 b3 b4 b5 b6 b7 b8 b9 ∧ v4 b0 b1 b2 b3 = y ∧ v2 b5 b6 = m ∧ v2 b8 b9 = d := by
  obtain ⟨h1, h2, h3, h4, h5, h6⟩ := isB_iff.1 h
  have l := len_hi y m
  unfold txtN at e
  simp only [List.cons.injEq, and_true] at e
  obtain ⟨rfl, rfl, rfl, rfl, rfl, rfl, rfl, rfl, rfl, rfl⟩ := e
  have a0 := dg_nat (n := y.toNat / 1000) (by omega)
  have a1 := dg_nat (n := y.toNat / 100 % 10) (by omega)
  have a2 := dg_nat (n := y.toNat / 10 % 10) (by omega)
  have a3 := dg_nat (n := y.toNat % 10) (by omega)
  have a5 := dg_nat (n := m.toNat / 10) (by omega)
  have a6 := dg_nat (n := m.toNat % 10) (by omega)
  have a8 := dg_nat (n := d.toNat / 10) (by omega)
  have a9 := dg_nat (n := d.toNat % 10) (by omega)
  refine ⟨?_, ?_, ?_, ?_⟩
  · have q : ∀ {n : Nat}, n < 10 → dig (dg n) := fun {n} hn => by unfold dig; rw [dg_nat hn]; omega
    exact ⟨q (by omega), q (by omega), q (by omega), q (by omega), rfl, q (by omega), q (by omega), rfl, q (by omega), q (by omega)⟩
  · unfold v4 v2; rw [a0, a1, a2, a3]; omega
  · unfold v2; rw [a5, a6]; omega
  · unfold v2; rw [a8, a9]; omega
/-- Ten bytes of that shape are the text of their numbers. -/
theorem ok_txt {b0 b1 b2 b3 b4 b5 b6 b7 b8 b9 : UInt8} (h : okB b0 b1 b2 b3 b4 b5 b6 b7 b8 b9) : txtN (v4 b0 b1 b2 b3).toNat (v2 b5 b6).toNat (v2 b8 b9).toNat = [b0, b1, b2, b3, b4, b5, b6, b7, b8, b9] := by
  obtain ⟨h0, h1, h2, h3, h4, h5, h6, h7, h8, h9⟩ := h
  unfold dig at h0 h1 h2 h3 h5 h6 h8 h9
  have q : ∀ (b : UInt8) (n : Nat), n < 10 → b.toNat = 48 + n → dg n = b := fun b n hn e => UInt8.toNat_inj.1 (by rw [dg_nat hn, e])
  unfold txtN v4 v2
  rw [q b0 _ (by omega) (by omega), q b1 _ (by omega) (by omega), q b2 _ (by omega) (by omega), q b3 _ (by omega) (by omega), q b5 _ (by omega) (by omega), q b6 _ (by omega) (by omega), q b8 _ (by omega) (by omega), q b9 _ (by omega) (by omega), h4, h7]
theorem ten {s : ByteArray} (h : s.size = 10) : ∃ b0 b1 b2 b3 b4 b5 b6 b7 b8 b9, s = ⟨#[b0, b1, b2, b3, b4, b5, b6, b7, b8, b9]⟩ := by
  obtain ⟨⟨l⟩⟩ := s
  have hl : l.length = 10 := h
  match l, hl with
  | [b0, b1, b2, b3, b4, b5, b6, b7, b8, b9], _ => exact ⟨b0, b1, b2, b3, b4, b5, b6, b7, b8, b9, rfl⟩
theorem parse_bad {s : ByteArray} (h : s.size ≤ 140737488351232) (h10 : s.size ≠ 10) : civil_Parse.f s = some (0, 0, 0, 4) := by
  unfold civil_Parse.f
  rw [if_pos h]
  cases prsE s with
  | none => rfl
  | some q => obtain ⟨x, y, z⟩ := q; exact if_neg h10
/-- The date of a text, if it is one. -/
theorem parse_txt {y m d : Int} (h : isB y m d = true) : civil_Parse.f (txt y m d) = some (y, m, d, 0) := by
  obtain ⟨b0, b1, b2, b3, b4, b5, b6, b7, b8, b9, e⟩ := ten (s := txt y m d) rfl
  have e2 : txtN y.toNat m.toNat d.toNat = [b0, b1, b2, b3, b4, b5, b6, b7, b8, b9] := by
    have := congrArg (fun s : ByteArray => s.data.toList) e
    exact this
  obtain ⟨hk, h1, h2, h3⟩ := txt_ok h e2
  rw [e]
  unfold civil_Parse.f
  rw [if_pos (by show (10 : Nat) ≤ 140737488351232; decide), prs_ok hk, h1, h2, h3]
  show (if 10 = 10 then _ else _) = _
  rw [if_pos rfl, is_eq, h]
  rfl
theorem parses_ev (s : ByteArray) (h : s.size ≤ 140737488351232) : ∃ r, civil_Parse.f s = some r ∧ Ev (fun k => sundialref03_Parse.f k s) r := by
  by_cases h10 : s.size = 10
  · obtain ⟨b0, b1, b2, b3, b4, b5, b6, b7, b8, b9, rfl⟩ := ten h10
    have hE : Ev (fun k => sundialref03_Parse.f k ⟨#[b0, b1, b2, b3, b4, b5, b6, b7, b8, b9]⟩) (if (textE (v4 b0 b1 b2 b3) (v2 b5 b6) (v2 b8 b9)).2 = 0 ∧ (textE (v4 b0 b1 b2 b3) (v2 b5 b6) (v2 b8 b9)).1.toList = [b0, b1, b2, b3, b4, b5, b6, b7, b8, b9] then (v4 b0 b1 b2 b3, v2 b5 b6, v2 b8 b9, 0) else (0, 0, 0, 4)) := by
      have ht : (⟨#[b0, b1, b2, b3, b4, b5, b6, b7, b8, b9]⟩ : ByteArray).toList = [b0, b1, b2, b3, b4, b5, b6, b7, b8, b9] := by simp
      have hz : (((⟨#[b0, b1, b2, b3, b4, b5, b6, b7, b8, b9]⟩ : ByteArray).size : Nat) : Int) = 10 := rfl
      unfold sundialref03_Parse.f
      simp only [hz, if_pos (show (4 : Int) ≤ 10 by decide), if_pos (show (7 : Int) ≤ 10 by decide), if_pos (show (8 : Int) ≤ 10 by decide)]
      refine Ev.bind (value4 b0 b1 b2 b3) ?_
      refine Ev.bind (value2 b5 b6) ?_
      refine Ev.bind (value2 b8 b9) ?_
      refine Ev.bind (textR_ev _ _ _) ?_
      refine Ev.congr (f := fun _ => some _) (fun k => ?_) (Ev.now _)
      rw [ht]
      by_cases c1 : (textE (v4 b0 b1 b2 b3) (v2 b5 b6) (v2 b8 b9)).2 = 0
      · rw [if_pos c1]
        by_cases c2 : (textE (v4 b0 b1 b2 b3) (v2 b5 b6) (v2 b8 b9)).1.toList = [b0, b1, b2, b3, b4, b5, b6, b7, b8, b9]
        · rw [if_pos c2, if_pos ⟨c1, c2⟩]
        · rw [if_neg c2, if_neg (fun e => c2 e.2)]
      · rw [if_neg c1, if_neg (fun e => c1 e.1)]
    refine ⟨_, ?_, hE⟩
    unfold civil_Parse.f
    rw [if_pos h]
    by_cases hk : okB b0 b1 b2 b3 b4 b5 b6 b7 b8 b9
    · rw [prs_ok hk]
      show (if 10 = 10 then _ else _) = _
      rw [if_pos rfl, is_eq]
      unfold textE
      by_cases hv : isB (v4 b0 b1 b2 b3) (v2 b5 b6) (v2 b8 b9) = true
      · have ht := ok_txt hk
        have hc : (txt (v4 b0 b1 b2 b3) (v2 b5 b6) (v2 b8 b9)).toList = [b0, b1, b2, b3, b4, b5, b6, b7, b8, b9] := by rw [← ht]; simp [txt]
        simp only [hv, Option.bind_some, if_true]
        rw [if_pos ⟨trivial, hc⟩]
      · simp only [if_neg hv, Option.bind_some]
        rw [if_neg (fun e => by have := e.1; exact absurd this (by decide))]
    · rw [prs_no hk]
      show some _ = some _
      rw [if_neg]
      rintro ⟨e1, e2⟩
      unfold textE at e1 e2
      by_cases hv : isB (v4 b0 b1 b2 b3) (v2 b5 b6) (v2 b8 b9) = true
      · rw [if_pos hv] at e2
        refine hk (txt_ok hv (y := v4 b0 b1 b2 b3) ?_).1
        rw [← e2]
        simp [txt]
      · rw [if_neg hv] at e1
        exact absurd e1 (by decide)
  · refine ⟨_, parse_bad h h10, Ev.congr (f := fun _ => some (0, 0, 0, 4)) (fun k => ?_) (Ev.now _)⟩
    unfold sundialref03_Parse.f
    rw [if_neg (by omega)]
end Go.Proofs.YtgpnmhlpcjmehaaDoor.RC
