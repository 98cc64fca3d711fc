/- The rates: what each needs, how long a frame takes; contracts of the program's functions, and plain facts. -/
import Derived.Test.YtkjkhlncdopndaaRateA
import Derived.Test.YtkjkhlncdopndaaLawM
namespace Go.Proofs.Ytkjkhlncdopndaa
open Go.RowKit
set_option linter.unusedVariables false
set_option linter.unusedSimpArgs false

def rq (k : Int) : Int := if k == 0 then 10 else if k == 1 then 30 else if k == 2 then 50 else if k == 3 then 80 else 0
def bps (k : Int) : Int := if k == 0 then 4 else if k == 1 then 8 else if k == 2 then 12 else if k == 3 then 24 else 0
def hrK (q : Int) : Nat → Int
  | 0 => -1
  | k + 1 => if rq k ≤ q then (k : Int) else hrK q k
def xsV (k n : Int) : Int := 1 + (n + bps k - 1) / bps k + 1
def pctV (k q : Int) : Int := if 100 ≤ 50 + 5 * (q - rq k) then 100 else 50 + 5 * (q - rq k)
def okE (k q : Int) : Bool := decide (0 ≤ q ∧ q ≤ 100 ∧ rq k ≤ q)
def esV (k n q : Int) : Int := if okE k q then (100 * xsV k n + pctV k q - 1) / pctV k q else -1
def fsK (n q : Int) : Nat → Int × Int
  | 0 => (-1, -1)
  | k + 1 => if okE k q && (decide ((fsK n q k).1 < 0) || decide (esV k n q < (fsK n q k).2)) then ((k : Int), esV k n q) else fsK n q k

theorem rq_bd {k : Int} (h0 : 0 ≤ k) (h1 : k ≤ 3) : 10 ≤ rq k ∧ rq k ≤ 80 := by
  have : k = 0 ∨ k = 1 ∨ k = 2 ∨ k = 3 := by omega
  rcases this with rfl | rfl | rfl | rfl <;> decide
theorem bps_bd {k : Int} (h0 : 0 ≤ k) (h1 : k ≤ 3) : 4 ≤ bps k ∧ bps k ≤ 24 := by
  have : k = 0 ∨ k = 1 ∨ k = 2 ∨ k = 3 := by omega
  rcases this with rfl | rfl | rfl | rfl <;> decide
theorem xs_bd {k n : Int} (h0 : 0 ≤ k) (h1 : k ≤ 3) (hn0 : 1 ≤ n) (hn : n ≤ 100) : 2 ≤ xsV k n ∧ xsV k n ≤ 200 := by
  have : k = 0 ∨ k = 1 ∨ k = 2 ∨ k = 3 := by omega
  unfold xsV
  rcases this with rfl | rfl | rfl | rfl
  · rw [show bps 0 = 4 from rfl]; omega
  · rw [show bps 1 = 8 from rfl]; omega
  · rw [show bps 2 = 12 from rfl]; omega
  · rw [show bps 3 = 24 from rfl]; omega
theorem pct_bd {k q : Int} (h : okE k q = true) : 50 ≤ pctV k q ∧ pctV k q ≤ 100 := by
  have := of_decide_eq_true h
  unfold pctV
  split <;> omega
theorem es_ge {k n q : Int} (h0 : 0 ≤ k) (h1 : k ≤ 3) (hn0 : 1 ≤ n) (hn : n ≤ 100) (h : okE k q = true) : xsV k n ≤ esV k n q ∧ esV k n q ≤ 20100 := by
  obtain ⟨a, b⟩ := pct_bd h
  obtain ⟨c, d⟩ := xs_bd h0 h1 hn0 hn
  rw [esV, if_pos h]
  generalize pctV k q = p at *
  generalize xsV k n = x at *
  constructor
  · rw [Int.le_ediv_iff_mul_le (by omega)]
    have : x * p ≤ x * 100 := Int.mul_le_mul_of_nonneg_left (by omega) (by omega)
    omega
  · apply Int.ediv_le_of_le_mul (by omega)
    have : 20100 * 50 ≤ 20100 * p := Int.mul_le_mul_of_nonneg_left (by omega) (by omega)
    omega
theorem hr_iff {q : Int} : ∀ (k j : Nat), j < k → k ≤ 4 → (rq j ≤ q ↔ (j : Int) ≤ hrK q k)
  | 0, j, h, _ => absurd h (by omega)
  | k + 1, j, h, hk => by
    have mono : ∀ a b : Nat, a ≤ b → b ≤ 3 → rq a ≤ rq b := by
      intro a b h1 h2
      have hb3 : b = 0 ∨ b = 1 ∨ b = 2 ∨ b = 3 := by omega
      have ha3 : a = 0 ∨ a = 1 ∨ a = 2 ∨ a = 3 := by omega
      rcases hb3 with rfl | rfl | rfl | rfl <;> rcases ha3 with rfl | rfl | rfl | rfl <;> first | decide | omega
    rw [hrK]
    by_cases hq : rq k ≤ q
    · rw [if_pos hq]
      have := mono j k (by omega) (by omega)
      constructor
      · intro _; omega
      · intro _; omega
    · rw [if_neg hq]
      rcases Nat.lt_or_ge j k with h1 | h1
      · exact hr_iff k j h1 (by omega)
      · obtain rfl : j = k := by omega
        have hlt : hrK q j < j := by
          clear h hk hq h1 mono
          induction j with
          | zero => simp [hrK]
          | succ m ih => rw [hrK]; split <;> omega
        constructor
        · intro h; omega
        · intro h; omega
theorem hr_bd (q : Int) : ∀ k : Nat, -1 ≤ hrK q k ∧ hrK q k < (k : Int)
  | 0 => by simp [hrK]
  | k + 1 => by
    have := hr_bd q k
    rw [hrK]; split <;> omega
/- what the search for the fastest has found -/
theorem fs_inv {n q : Int} (hn0 : 1 ≤ n) (hn : n ≤ 100) : ∀ k : Nat, k ≤ 4 → (-1 ≤ (fsK n q k).1 ∧ (fsK n q k).1 < (k : Int)) ∧ (-1 ≤ (fsK n q k).2 ∧ (fsK n q k).2 ≤ 20100) ∧
    (0 ≤ (fsK n q k).1 → okE (fsK n q k).1 q = true ∧ esV (fsK n q k).1 n q = (fsK n q k).2) ∧ (∀ j : Nat, j < k → okE j q = true → 0 ≤ (fsK n q k).1 ∧ (fsK n q k).2 ≤ esV j n q)
  | 0, _ => ⟨by simp [fsK], by simp [fsK], by simp [fsK], fun j h => absurd h (by omega)⟩
  | k + 1, hk => by
    obtain ⟨⟨a1, a2⟩, ⟨b1, b2⟩, c, d⟩ := fs_inv hn0 hn k (by omega)
    rw [fsK]
    split
    · rename_i h
      simp only [Bool.and_eq_true, Bool.or_eq_true, decide_eq_true_eq] at h
      have hg := es_ge (k := (k : Int)) (n := n) (by omega) (by omega) hn0 hn h.1
      have hx := xs_bd (k := (k : Int)) (n := n) (by omega) (by omega) hn0 hn
      refine ⟨⟨by dsimp only; omega, by dsimp only; omega⟩, ⟨by dsimp only; omega, by dsimp only; omega⟩, fun _ => ⟨h.1, rfl⟩, fun j hj hok => ⟨by dsimp only; omega, ?_⟩⟩
      rcases Nat.lt_or_ge j k with h1 | h1
      · have := d j h1 hok
        dsimp only; omega
      · obtain rfl : j = k := by omega
        exact Int.le_refl _
    · rename_i h
      simp only [Bool.and_eq_true, Bool.or_eq_true, decide_eq_true_eq, not_and, not_or] at h
      refine ⟨⟨a1, by omega⟩, ⟨b1, b2⟩, c, fun j hj hok => ?_⟩
      rcases Nat.lt_or_ge j k with h1 | h1
      · exact d j h1 hok
      · obtain rfl : j = k := by omega
        have := h hok
        omega
def fsV (n q : Int) : Int := (fsK n q 4).1
def hr (q : Int) : Int := hrK q 4
theorem hr_le {q : Int} (j : Nat) (hj : j ≤ 3) : rq j ≤ q ↔ (j : Int) ≤ hr q := hr_iff 4 j (by omega) (by omega)
theorem hr_rng (q : Int) : -1 ≤ hr q ∧ hr q ≤ 3 := by have := hr_bd q 4; unfold hr; omega
theorem fs_no {n q : Int} (hn0 : 1 ≤ n) (hn : n ≤ 100) (h : q < 0 ∨ 100 < q ∨ hr q < 0) : fsV n q = -1 := by
  obtain ⟨⟨a1, a2⟩, _, c, _⟩ := fs_inv (q := q) hn0 hn 4 (by omega)
  unfold fsV
  rcases Int.lt_or_le (fsK n q 4).1 0 with h1 | h1
  · omega
  · exfalso
    have h2 := of_decide_eq_true (c h1).1
    obtain ⟨k, hk⟩ := Int.eq_ofNat_of_zero_le h1
    rw [hk] at h2
    have h3 := (hr_le (q := q) k (by omega)).1 h2.2.2
    omega
theorem fs_yes {n q : Int} (hn0 : 1 ≤ n) (hn : n ≤ 100) (h0 : 0 ≤ q) (h1 : q ≤ 100) (h2 : 0 ≤ hr q) : 0 ≤ fsV n q ∧ fsV n q ≤ hr q ∧ okE (fsV n q) q = true ∧ (∀ j : Nat, (j : Int) ≤ hr q → esV (fsV n q) n q ≤ esV j n q) ∧ xsV (fsV n q) n ≤ esV (fsV n q) n q := by
  obtain ⟨⟨a1, a2⟩, _, c, d⟩ := fs_inv (q := q) hn0 hn 4 (by omega)
  have hb := hr_rng q
  have okj : ∀ j : Nat, (j : Int) ≤ hr q → okE j q = true := fun j hj => decide_eq_true ⟨h0, h1, (hr_le j (by omega)).2 hj⟩
  have p := d 0 (by omega) (okj 0 (by simpa using h2))
  have hc := c p.1
  have hok := of_decide_eq_true hc.1
  obtain ⟨k, hk⟩ := Int.eq_ofNat_of_zero_le p.1
  refine ⟨p.1, ?_, hc.1, ?_, ?_⟩
  · unfold fsV
    rw [hk] at hok ⊢
    exact (hr_le k (by omega)).1 hok.2.2
  · intro j hj
    unfold fsV
    rw [hc.2]
    exact (d j (by omega) (okj j hj)).2
  · exact (es_ge (k := fsV n q) p.1 (by unfold fsV; omega) hn0 hn hc.1).1

theorem rq_any (k : Int) (w : World) :
    Calls Try.prog 23 #[.int .i64 k] w fun e w' => e = .returned (.int .i64 (rq k)) ∧ w = w' := by
  by_cases k0 : k = 0
  · subst k0
    go_enter Try.func23, Try.ntmps23
    go_wp2
    go_ret
    exact ⟨rfl, rfl⟩
  by_cases k1 : k = 1
  · subst k1
    go_enter Try.func23, Try.ntmps23
    go_wp2
    go_ret
    exact ⟨rfl, rfl⟩
  by_cases k2 : k = 2
  · subst k2
    go_enter Try.func23, Try.ntmps23
    go_wp2
    go_ret
    exact ⟨rfl, rfl⟩
  by_cases k3 : k = 3
  · subst k3
    go_enter Try.func23, Try.ntmps23
    go_wp2
    go_ret
    exact ⟨rfl, rfl⟩
  have e0 : (k == 0) = false := by simpa using k0
  have e1 : (k == 1) = false := by simpa using k1
  have e2 : (k == 2) = false := by simpa using k2
  have e3 : (k == 3) = false := by simpa using k3
  go_enter Try.func23, Try.ntmps23
  go_wp2
  go_ret
  exact ⟨by simp [rq, e0, e1, e2, e3], rfl⟩

theorem bps_any (k : Int) (w : World) :
    Calls Try.prog 48 #[.int .i64 k] w fun e w' => e = .returned (.int .i64 (bps k)) ∧ w = w' := by
  by_cases k0 : k = 0
  · subst k0
    go_enter Try.func48, Try.ntmps48
    go_wp2
    go_ret
    exact ⟨rfl, rfl⟩
  by_cases k1 : k = 1
  · subst k1
    go_enter Try.func48, Try.ntmps48
    go_wp2
    go_ret
    exact ⟨rfl, rfl⟩
  by_cases k2 : k = 2
  · subst k2
    go_enter Try.func48, Try.ntmps48
    go_wp2
    go_ret
    exact ⟨rfl, rfl⟩
  by_cases k3 : k = 3
  · subst k3
    go_enter Try.func48, Try.ntmps48
    go_wp2
    go_ret
    exact ⟨rfl, rfl⟩
  have e0 : (k == 0) = false := by simpa using k0
  have e1 : (k == 1) = false := by simpa using k1
  have e2 : (k == 2) = false := by simpa using k2
  have e3 : (k == 3) = false := by simpa using k3
  go_enter Try.func48, Try.ntmps48
  go_wp2
  go_ret
  exact ⟨by simp [bps, e0, e1, e2, e3], rfl⟩

theorem cd_any (a b : Int) (w : World) (ha0 : 0 ≤ a) (ha : a ≤ 1000000) (hb0 : 1 ≤ b) (hb : b ≤ 1000) :
    Calls Try.prog 47 #[.int .i64 a, .int .i64 b] w fun e w' => e = .returned (.int .i64 ((a + b - 1) / b)) ∧ w = w' := by
  have h1 : inR a 0 1000000000000 = true := inR_of (by omega)
  have h2 : inR b 1 1000000000000 = true := inR_of (by omega)
  have h3 : (b == 0) = false := by simp; omega
  go_enter Try.func47, Try.ntmps47
  go_wp2_with (first | (go_at_call 37; refine (inRange_any _ _ _ _).mono ?_; rintro e w' ⟨rfl, rfl⟩))
  go_ret
  exact ⟨by try simp, rfl⟩
theorem fsl_any (k n : Int) (w : World) (hk0 : 0 ≤ k) (hk : k ≤ 3) (hn0 : 1 ≤ n) (hn : n ≤ 100) :
    Calls Try.prog 44 #[.int .i64 k, .int .i64 n] w fun e w' => e = .returned (.int .i64 (1 + (n + bps k - 1) / bps k)) ∧ w = w' := by
  have h1 : inR k 0 3 = true := inR_of ⟨hk0, hk⟩
  have h2 : inR n 0 1000000000000 = true := inR_of (by omega)
  obtain ⟨b0, b1⟩ := bps_bd hk0 hk
  have hq := xs_bd hk0 hk hn0 hn
  unfold xsV at hq
  have hq0 : 0 ≤ (n + bps k - 1) / bps k := by omega
  have hq1 : (n + bps k - 1) / bps k ≤ 200 := by omega
  generalize hb : bps k = b at *
  have HB := Lib.hid hb
  clear hb hq
  go_enter Try.func44, Try.ntmps44
  go_wp2_with (first | (go_at_call 37; refine (inRange_any _ _ _ _).mono ?_; rintro e w' ⟨rfl, rfl⟩) | (go_at_call 35; refine (implRI_any _ _).mono ?_; rintro e w' ⟨rfl, rfl⟩) | (go_at_call 48; refine (bps_any _ _).mono ?_; rw [HB.out]; rintro e w' ⟨rfl, rfl⟩))
  refine (cd_any n b _ (by omega) (by omega) (by omega) (by omega)).mono ?_
  rintro e w' ⟨rfl, rfl⟩
  generalize ht : (n + b - 1) / b = t at *
  have HT := Lib.hid ht; clear ht
  go_wp2
  go_ret
  exact ⟨ret_i (by rw [HT.out]), rfl⟩
theorem xsl_any (k n : Int) (w : World) (hk0 : 0 ≤ k) (hk : k ≤ 3) (hn0 : 1 ≤ n) (hn : n ≤ 100) :
    Calls Try.prog 28 #[.int .i64 k, .int .i64 n, .bool false] w fun e w' => e = .returned (.int .i64 (xsV k n)) ∧ w = w' := by
  have hq := xs_bd hk0 hk hn0 hn
  unfold xsV at hq ⊢
  have hq0 : 0 ≤ (n + bps k - 1) / bps k := by omega
  have hq1 : (n + bps k - 1) / bps k ≤ 200 := by omega
  clear hq
  go_enter Try.func28, Try.ntmps28
  go_wp2_with fail
  refine (fsl_any k n _ hk0 hk hn0 hn).mono ?_
  rintro e w' ⟨rfl, rfl⟩
  generalize ht : (n + bps k - 1) / bps k = t at *
  have HT := Lib.hid ht; clear ht
  have e0 : (1 + t == 0) = false := by simp; omega
  go_wp2
  go_ret
  exact ⟨ret_i (by rw [HT.out]), rfl⟩
theorem min_any (a b : Int) (w : World) :
    Calls Try.prog 39 #[.int .i64 a, .int .i64 b] w fun e w' => e = .returned (.int .i64 (if b < a then b else a)) ∧ w = w' := by
  by_cases h : b < a
  · go_enter Try.func39, Try.ntmps39
    go_wp2
    go_ret
    exact ⟨ret_i rfl, rfl⟩
  · go_enter Try.func39, Try.ntmps39
    go_wp2
    go_ret
    exact ⟨ret_i rfl, rfl⟩
set_option maxHeartbeats 1000000 in
theorem es_any (k n q : Int) (w : World) (hk0 : 0 ≤ k) (hk : k ≤ 3) (hn0 : 1 ≤ n) (hn : n ≤ 100) :
    Calls Try.prog 27 #[.int .i64 k, .int .i64 n, .int .i64 q] w fun e w' => e = .returned (.int .i64 (esV k n q)) ∧ w = w' := by
  obtain ⟨r0, r1⟩ := rq_bd hk0 hk
  obtain ⟨x0, x1⟩ := xs_bd hk0 hk hn0 hn
  have e0 : (xsV k n == 0) = false := by simp; omega
  have e1 : inR (xsV k n) 0 0 = false := by simp [inR]; omega
  by_cases hq : 0 ≤ q ∧ q ≤ 100
  · obtain ⟨q0, q1⟩ := hq
    have h1 : inR q 0 100 = true := inR_of ⟨q0, q1⟩
    by_cases hr : rq k ≤ q
    · have hok : okE k q = true := decide_eq_true ⟨q0, q1, hr⟩
      obtain ⟨p0, p1⟩ := pct_bd hok
      have hE : esV k n q = (100 * xsV k n + pctV k q - 1) / pctV k q := by rw [esV, if_pos hok]
      rw [hE]
      have hP : (if 50 + 5 * (q - rq k) < 100 then 50 + 5 * (q - rq k) else 100) = pctV k q := by
        unfold pctV
        by_cases h : 100 ≤ 50 + 5 * (q - rq k)
        · rw [if_pos h, if_neg (by omega)]
        · rw [if_neg h, if_pos (by omega)]
      generalize pctV k q = p at *
      generalize hrr : rq k = r at *
      have HR := Lib.hid hrr
      clear hrr
      have HP := Lib.hid hP
      have hp : (p == 0) = false := by simp; omega
      clear hP hE hok
      go_enter Try.func27, Try.ntmps27
      go_wp2_with fail
      refine (xsl_any k n _ hk0 hk hn0 hn).mono ?_
      rintro e w' ⟨rfl, rfl⟩
      generalize hx : xsV k n = x at *
      have HXX := Lib.hid hx; clear hx
      go_wp2_with (first | (go_at_call 37; refine (inRange_any _ _ _ _).mono ?_; rintro e w' ⟨rfl, rfl⟩))
      refine (rq_any k _).mono ?_
      rw [HR.out]
      rintro e w' ⟨rfl, rfl⟩
      go_wp2_with fail
      refine (min_any _ _ _).mono ?_
      rw [HP.out]
      rintro e w' ⟨rfl, rfl⟩
      go_wp2
      go_ret
      exact ⟨ret_i (by rw [HXX.out]), rfl⟩
    · have hE : esV k n q = -1 := by rw [esV, if_neg (fun h => hr (of_decide_eq_true h).2.2)]
      rw [hE]
      clear hE
      go_enter Try.func27, Try.ntmps27
      go_wp2_with fail
      refine (xsl_any k n _ hk0 hk hn0 hn).mono ?_
      rintro e w' ⟨rfl, rfl⟩
      generalize hx : xsV k n = x at *
      have HXX := Lib.hid hx; clear hx
      go_wp2_with (first | (go_at_call 37; refine (inRange_any _ _ _ _).mono ?_; rintro e w' ⟨rfl, rfl⟩))
      refine (rq_any k _).mono ?_
      rintro e w' ⟨rfl, rfl⟩
      generalize rq k = r at *
      go_wp2
      go_ret
      exact ⟨rfl, rfl⟩
  · have hE : esV k n q = -1 := by rw [esV, if_neg (fun h => hq ⟨(of_decide_eq_true h).1, (of_decide_eq_true h).2.1⟩)]
    rw [hE]
    have h1 : inR q 0 100 = false := inR_not hq
    clear hE hq
    go_enter Try.func27, Try.ntmps27
    go_wp2_with fail
    refine (xsl_any k n _ hk0 hk hn0 hn).mono ?_
    rintro e w' ⟨rfl, rfl⟩
    generalize hx : xsV k n = x at *
    have HXX := Lib.hid hx; clear hx
    go_wp2_with (first | (go_at_call 37; refine (inRange_any _ _ _ _).mono ?_; rintro e w' ⟨rfl, rfl⟩))
    go_ret
    exact ⟨rfl, rfl⟩

end Go.Proofs.Ytkjkhlncdopndaa
