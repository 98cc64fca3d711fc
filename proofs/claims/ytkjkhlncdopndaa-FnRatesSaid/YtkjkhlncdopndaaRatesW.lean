/- The walk of FnRates. -/
import Derived.Test.YtkjkhlncdopndaaRatesA
import Derived.Test.YtkjkhlncdopndaaDrawQ
namespace Go.Proofs.Ytkjkhlncdopndaa
open Go.RowKit
set_option linter.unusedVariables false
set_option linter.unusedSimpArgs false

set_option maxHeartbeats 1000000 in
theorem hr_any (q : Int) (w : World) :
    Calls Try.prog 22 #[.int .i64 q] w fun e w' => e = .returned (.int .i64 (hr q)) ∧ w = w' := by
  go_enter Try.func22, Try.ntmps22
  go_wp2
  go_loop [3, 4] (fun b i => ∃ k : Nat, k ≤ 4 ∧ i = .int .i64 (k : Int) ∧ b = .int .i64 (hrK q k)) (fun _ i => 4 - (intOf i).toNat)
  case atStart => exact ⟨0, by omega, rfl, rfl⟩
  case round =>
    obtain ⟨k, hk, rfl, rfl⟩ := hrel
    by_cases hlt : k < 4
    · have hlt2 : (k : Int) ≤ 3 := by omega
      have HN : Hid (hrK q (k + 1) = if rq k ≤ q then (k : Int) else hrK q k) := Lib.hid rfl
      by_cases hq : rq k ≤ q
      all_goals
        go_wp2_with (go_at_call 23; refine (rq_any _ _).mono ?_; rintro e w' ⟨rfl, rfl⟩)
        go_round
        case rel => exact ⟨k + 1, by omega, by go_num, by rw [HN.out]; first | rw [if_pos hq] | rw [if_neg (by omega)]⟩
        case measure => simp [intOf]; omega
    · obtain rfl : k = 4 := by omega
      go_wp2
      go_ret
      exact ⟨rfl, rfl⟩

set_option maxHeartbeats 1000000 in
theorem fd_any {k q : Int} {b : Bool} (h : decide (rq k ≤ q) = b) (w : World) (hk0 : 0 ≤ k) (hk : k ≤ 3) (hq0 : 0 ≤ q) (hq : q ≤ 100) :
    Calls Try.prog 24 #[.int .i64 k, .int .i64 q, .int .i64 0] w fun e w' => e = .returned (.bool b) ∧ w = w' := by
  obtain ⟨r0, r1⟩ := rq_bd hk0 hk
  have h1 : inR k 0 3 = true := inR_of ⟨hk0, hk⟩
  have h2 : inR q 0 100 = true := inR_of ⟨hq0, hq⟩
  have h3 : inR 0 0 99 = true := by decide
  generalize hrr : rq k = r at *
  have HR := Lib.hid hrr
  clear hrr
  cases b
  · have hlt : q < r := by simpa using h
    clear h
    go_enter Try.func24, Try.ntmps24
    go_wp2_with (first | (go_at_call 35; refine (implRI_any _ _).mono ?_; rintro e w' ⟨rfl, rfl⟩) | (go_at_call 37; refine (inRange_any _ _ _ _).mono ?_; rintro e w' ⟨rfl, rfl⟩) | (go_at_call 23; refine (rq_any _ _).mono ?_; rw [HR.out]; rintro e w' ⟨rfl, rfl⟩))
    go_ret
    exact ⟨by try simp, rfl⟩
  · have hge : r ≤ q := by simpa using h
    clear h
    go_enter Try.func24, Try.ntmps24
    go_wp2_with (first | (go_at_call 35; refine (implRI_any _ _).mono ?_; rintro e w' ⟨rfl, rfl⟩) | (go_at_call 37; refine (inRange_any _ _ _ _).mono ?_; rintro e w' ⟨rfl, rfl⟩) | (go_at_call 23; refine (rq_any _ _).mono ?_; rw [HR.out]; rintro e w' ⟨rfl, rfl⟩))
    go_ret
    exact ⟨by try (simp; try omega), rfl⟩

set_option maxHeartbeats 1000000 in
theorem fs_any (n q : Int) (w : World) (hn0 : 1 ≤ n) (hn : n ≤ 100) :
    Calls Try.prog 26 #[.int .i64 n, .int .i64 q] w fun e w' => e = .returned (.int .i64 (fsV n q)) ∧ w = w' := by
  go_enter Try.func26, Try.ntmps26
  go_wp2
  go_loop [5, 6, 7] (fun b l i => ∃ k : Nat, k ≤ 4 ∧ i = .int .i64 (k : Int) ∧ b = .int .i64 (fsK n q k).1 ∧ l = .int .i64 (fsK n q k).2) (fun _ _ i => 4 - (intOf i).toNat)
  case atStart => exact ⟨0, by omega, rfl, rfl, rfl⟩
  case round =>
    obtain ⟨k, hk, rfl, rfl, rfl⟩ := hrel
    by_cases hlt : k < 4
    · have hlt2 : (k : Int) ≤ 3 := by omega
      have HN : Hid (fsK n q (k + 1) = if okE k q && (decide ((fsK n q k).1 < 0) || decide (esV k n q < (fsK n q k).2)) then ((k : Int), esV k n q) else fsK n q k) := Lib.hid rfl
      have hes : (okE k q = true → 0 ≤ esV k n q ∧ esV k n q ≤ 20100) ∧ (okE k q = false → esV k n q = -1) := by
        refine ⟨fun h => ?_, fun h => by rw [esV, if_neg (by rw [h]; decide)]⟩
        have h1 := es_ge (k := (k : Int)) (n := n) (by omega) (by omega) hn0 hn h
        have h2 := xs_bd (k := (k : Int)) (n := n) (by omega) (by omega) hn0 hn
        omega
      generalize hp : fsK n q k = p at *
      obtain ⟨b, l⟩ := p
      generalize hE : esV k n q = E at *
      have HE := Lib.hid hE
      clear hp hE
      cases hok : okE k q
      · have hE1 : E = -1 := hes.2 hok
        subst hE1
        rw [hok] at HN
        simp only [Bool.false_and, Bool.false_eq_true, if_false] at HN
        clear hes hok
        go_wp2_with (go_at_call 27; refine (es_any _ _ _ _ (by omega) (by omega) hn0 hn).mono ?_; rw [HE.out]; rintro e w' ⟨rfl, rfl⟩)
        go_round
        case rel => exact ⟨k + 1, by omega, by go_num, by rw [HN.out], by rw [HN.out]⟩
        case measure => simp [intOf]; omega
      · obtain ⟨E0, E1⟩ := hes.1 hok
        have hne : (E == -1) = false := by simp; omega
        have hne2 : (E != -1) = true := by simp; omega
        rw [hok] at HN
        simp only [Bool.true_and, Bool.or_eq_true, decide_eq_true_eq] at HN
        clear hes hok
        by_cases hb : b < 0
        · go_wp2_with (go_at_call 27; refine (es_any _ _ _ _ (by omega) (by omega) hn0 hn).mono ?_; rw [HE.out]; rintro e w' ⟨rfl, rfl⟩)
          go_round
          case rel => exact ⟨k + 1, by omega, by go_num, by rw [HN.out, if_pos (.inl hb)], by rw [HN.out, if_pos (.inl hb)]⟩
          case measure => simp [intOf]; omega
        · by_cases hl : E < l
          · go_wp2_with (go_at_call 27; refine (es_any _ _ _ _ (by omega) (by omega) hn0 hn).mono ?_; rw [HE.out]; rintro e w' ⟨rfl, rfl⟩)
            go_round
            case rel => exact ⟨k + 1, by omega, by go_num, by rw [HN.out, if_pos (.inr hl)], by rw [HN.out, if_pos (.inr hl)]⟩
            case measure => simp [intOf]; omega
          · go_wp2_with (go_at_call 27; refine (es_any _ _ _ _ (by omega) (by omega) hn0 hn).mono ?_; rw [HE.out]; rintro e w' ⟨rfl, rfl⟩)
            go_round
            case rel => exact ⟨k + 1, by omega, by go_num, by rw [HN.out, if_neg (by omega)], by rw [HN.out, if_neg (by omega)]⟩
            case measure => simp [intOf]; omega
    · obtain rfl : k = 4 := by omega
      go_wp2
      go_ret
      exact ⟨rfl, rfl⟩

def SomeInt (w : World) (e : Ending) (w' : World) : Prop := ∃ q : Int, e = .returned (.int .i64 q) ∧ Below w.heap.size w w'
set_option maxRecDepth 8000 in
set_option maxHeartbeats 1000000 in
theorem drawHr_any {u : Bool} (A : Option Addr) (cap : Nat) (xs : List Int) (w : World) (hx : Rw u .u8 w (fun b => b < w.heap.size) A xs) (hm : xs.length ≤ 1000000000) (hb : ∀ x ∈ xs, 0 ≤ x ∧ x ≤ 255) :
    Calls Try.prog 21 #[.slice A xs.length cap] w fun e w' => SomeInt w e w' := by
  have HX := Lib.hid hx
  have HB := Lib.hid hb
  clear hx hb
  go_enter Try.func21, Try.ntmps21
  go_wp2_with fail
  refine (new_any A cap xs _ HX.out (by omega)).mono ?_
  rintro e w1 ⟨h0, rfl, rfl⟩
  have hc := (cu_new (cap := cap) h0 HX.out (by omega) HB.out).cuu
  have HC : Hid (Cuu (w.alloc (curO A xs.length cap 0 h0)) w.heap.size A xs.length cap) := Lib.hid (by simpa using hc)
  clear hc
  go_wp2_with fail
  refine (intX (A := A) (n := xs.length) (cap := cap) (by simp) HC.out (by exact ⟨[_, _, _, _, _, _, _, _, _, _], rfl, rfl, by simp, by simp⟩)).mono ?_
  rintro e w2 ⟨q, rfl, hd⟩
  have hbl : Below w.heap.size w w2 := hd.below (by simp; omega) (((Below.refl _ _).alloc (Nat.le_refl _) _).alloc (by simp) _) (by simp)
  obtain ⟨X, d, rfl⟩ := Below.ext_ hbl
  clear hd hbl
  go_wp2
  go_returns
  exact ⟨_, rfl, (by repeat (first | (with_reducible exact Below.refl _ _) | (with_reducible refine Below.ext ?_ (by go_size) _ _) | (with_reducible refine Below.alloc ?_ (by go_size) _) | (with_reducible refine Below.setCell ?_ (by go_size) _) | (with_reducible refine Below.drew ?_) | (with_reducible refine Below.drewN_ ?_ _)))⟩

set_option maxRecDepth 8000 in
set_option maxHeartbeats 4000000 in
theorem rates_walk (A : Option Addr) (c : Nat) (xs : List Int) (w : World) (hx : Rw false .u8 w (fun g => g < w.heap.size) A xs) (hlen : xs.length ≤ 9223372036854775807) (hb : ∀ x ∈ xs, 0 ≤ x ∧ x ≤ 255) :
    Calls Try.prog 7 #[.slice A xs.length c] w fun e w' => e = .returned (.bool true) ∧ Below w.heap.size w w' := by
  by_cases hbig : 1048576 < xs.length
  · have HBG : Hid (bigB xs.length = true) := Lib.hid (by simp [bigB, hbig])
    clear hx hb
    go_enter Try.func7, Try.ntmps7
    go_wp2_with (first | (go_at_call 20; refine (big_any _ _ _ _).mono ?_; rw [HBG.out]; rintro e w' ⟨rfl, rfl⟩))
    go_ret
    exact ⟨rfl, (by repeat (first | (with_reducible exact Below.refl _ _) | (with_reducible refine Below.ext ?_ (by go_size) _ _) | (with_reducible refine Below.alloc ?_ (by go_size) _) | (with_reducible refine Below.setCell ?_ (by go_size) _) | (with_reducible refine Below.drew ?_) | (with_reducible refine Below.drewN_ ?_ _)))⟩
  have HBG : Hid (bigB xs.length = false) := Lib.hid (by simp [bigB, hbig])
  have HX := Lib.hid hx
  have HB := Lib.hid hb
  have ha := atV_le hb 0
  generalize hA : atV xs 0 = a0 at ha
  have HA := Lib.hid hA
  obtain ⟨ha0, ha1⟩ := ha
  clear hx hlen hb hA
  go_enter Try.func7, Try.ntmps7
  go_wp2_with (first | (go_at_call 20; refine (big_any _ _ _ _).mono ?_; rw [HBG.out]; rintro e w' ⟨rfl, rfl⟩))
  refine (drawHr_any A c xs _ HX.out (by omega) HB.out).mono ?_
  rintro e w1 ⟨q, rfl, hb1⟩
  obtain ⟨X1, d1, rfl⟩ := Below.ext_ hb1
  have hRX : Rw false .u8 (World.ext w X1 d1) (fun g => g < w.heap.size) A xs := HX.out.below hb1
  have RX := Lib.hid hRX
  have HBW := Lib.hid hb1
  clear hb1 hRX
  have hr1 : ∀ j : Nat, j ≤ 3 → (rq j ≤ q ↔ (j : Int) ≤ hr q) := fun j hj => hr_le j hj
  have H1 := Lib.hid hr1
  obtain ⟨hrA, hrB⟩ := hr_rng q
  have hn0 : 1 ≤ 1 + a0 % 100 := by omega
  have hn1 : 1 + a0 % 100 ≤ 100 := by omega
  have HNO : Hid (q < 0 ∨ 100 < q ∨ hr q < 0 → fsV (1 + a0 % 100) q = -1) := Lib.hid (fs_no hn0 hn1)
  have HYES : Hid (0 ≤ q → q ≤ 100 → 0 ≤ hr q → 0 ≤ fsV (1 + a0 % 100) q ∧ fsV (1 + a0 % 100) q ≤ hr q ∧ okE (fsV (1 + a0 % 100) q) q = true ∧ (∀ j : Nat, (j : Int) ≤ hr q → esV (fsV (1 + a0 % 100) q) (1 + a0 % 100) q ≤ esV j (1 + a0 % 100) q) ∧ xsV (fsV (1 + a0 % 100) q) (1 + a0 % 100) ≤ esV (fsV (1 + a0 % 100) q) (1 + a0 % 100) q) := Lib.hid (fs_yes hn0 hn1)
  clear hr1
  go_wp2_with (go_at_call 22; refine (hr_any _ _).mono ?_; rintro e w' ⟨rfl, rfl⟩)
  generalize hr q = r at *
  go_loop [5] (fun i => ∃ k : Nat, k ≤ 4 ∧ i = .int .i64 (k : Int)) (fun i => 4 - (intOf i).toNat)
  case atStart => exact ⟨0, by omega, rfl⟩
  case round =>
    obtain ⟨k, hk, rfl⟩ := hrel
    by_cases hlt : k < 4
    · have hlt2 : (k : Int) ≤ 3 := by omega
      have h1 := H1.out k (by omega)
      have hcase : (rq k ≤ q ∧ (k : Int) ≤ r ∧ decide (rq k ≤ q) = true) ∨ (¬ rq k ≤ q ∧ ¬ (k : Int) ≤ r ∧ decide (rq k ≤ q) = false) := by
        by_cases h : rq k ≤ q
        · exact .inl ⟨h, h1.1 h, by simp [h]⟩
        · exact .inr ⟨h, fun h2 => h (h1.2 h2), by simp [h]⟩
      clear h1
      rcases hcase with ⟨c1, c2, c3⟩ | ⟨c1, c2, c3⟩
      all_goals
        have C3 := Lib.hid c3
        clear c3
        have c4 : decide (rq k ≤ q) = decide ((k : Int) ≤ r) := by simp [c1, c2]
        have c5 : (decide (rq k ≤ q) != decide ((k : Int) ≤ r)) = false := by simp [c1, c2]
        have c6 : decide (rq k ≤ q) = _ := C3.out
        have c7 : decide ((k : Int) ≤ r) = _ := c4.symm.trans C3.out
        clear c4
        by_cases q0 : 0 ≤ q
        · by_cases q1 : q ≤ 100
          all_goals
            go_wp2_with (first | (go_at_call 23; refine (rq_any _ _).mono ?_; rintro e w' ⟨rfl, rfl⟩) | (go_at_call 24; refine (fd_any C3.out _ (by omega) (by omega) (by omega) (by omega)).mono ?_; rintro e w' ⟨rfl, rfl⟩))
            go_round
            case rel => exact ⟨k + 1, by omega, by go_num⟩
            case measure => simp [intOf]; omega
        · go_wp2_with (first | (go_at_call 23; refine (rq_any _ _).mono ?_; rintro e w' ⟨rfl, rfl⟩))
          go_round
          case rel => exact ⟨k + 1, by omega, by go_num⟩
          case measure => simp [intOf]; omega
    · obtain rfl : k = 4 := by omega
      clear H1
      by_cases hin : 0 ≤ q ∧ q ≤ 100 ∧ 0 ≤ r
      · obtain ⟨q0, q1, r0⟩ := hin
        obtain ⟨y1, y2, y3, y4, y5⟩ := HYES.out q0 q1 r0
        have Y4 := Lib.hid y4
        clear HYES HNO y3 y4
        generalize hf : fsV (1 + a0 % 100) q = f at *
        have HF := Lib.hid hf
        clear hf
        go_wp2_with (first | (go_at_call 25; refine (at_any A c xs 0 _ RX.out (by omega) HB.out (by omega)).mono ?_; rw [HA.out]; rintro e w' ⟨rfl, rfl⟩))
        refine (fs_any _ _ _ hn0 hn1).mono ?_
        rw [HF.out]
        rintro e w' ⟨rfl, rfl⟩
        go_wp2
        go_loop [8] (fun i => ∃ k : Nat, (k : Int) ≤ r + 1 ∧ i = .int .i64 (k : Int)) (fun i => 5 - (intOf i).toNat)
        case atStart => exact ⟨0, by omega, rfl⟩
        case round =>
          obtain ⟨k, hk, rfl⟩ := hrel
          by_cases hlt : (k : Int) ≤ r
          · have g1 : esV f (1 + a0 % 100) q ≤ esV k (1 + a0 % 100) q := Y4.out k hlt
            have g2 : decide (esV k (1 + a0 % 100) q < esV f (1 + a0 % 100) q) = false := by simp; omega
            go_wp2_with (go_at_call 27; refine (es_any _ _ _ _ (by omega) (by omega) hn0 hn1).mono ?_; rintro e w' ⟨rfl, rfl⟩)
            go_round
            case rel => exact ⟨k + 1, by omega, by go_num⟩
            case measure => simp [intOf]; omega
          · clear Y4
            go_wp2_with (first | (go_at_call 27; refine (es_any _ _ _ _ (by omega) (by omega) hn0 hn1).mono ?_; rintro e w' ⟨rfl, rfl⟩) | (go_at_call 28; refine (xsl_any _ _ _ (by omega) (by omega) hn0 hn1).mono ?_; rintro e w' ⟨rfl, rfl⟩))
            go_ret
            exact ⟨by first | rfl | simp, HBW.out⟩
      · have hv := HNO.out (by omega)
        have HV := Lib.hid hv
        clear HYES HNO hv
        by_cases q0 : q < 0
        · have q2 := Lib.hid hin
          clear hin
          go_wp2_with (first | (go_at_call 25; refine (at_any A c xs 0 _ RX.out (by omega) HB.out (by omega)).mono ?_; rw [HA.out]; rintro e w' ⟨rfl, rfl⟩) | (go_at_call 26; refine (fs_any _ _ _ hn0 hn1).mono ?_; rw [HV.out]; rintro e w' ⟨rfl, rfl⟩))
          go_ret
          exact ⟨rfl, HBW.out⟩
        · by_cases q1 : 100 < q
          · clear hin
            go_wp2_with (first | (go_at_call 25; refine (at_any A c xs 0 _ RX.out (by omega) HB.out (by omega)).mono ?_; rw [HA.out]; rintro e w' ⟨rfl, rfl⟩) | (go_at_call 26; refine (fs_any _ _ _ hn0 hn1).mono ?_; rw [HV.out]; rintro e w' ⟨rfl, rfl⟩))
            go_ret
            exact ⟨rfl, HBW.out⟩
          · have r0 : r < 0 := by omega
            clear hin
            go_wp2_with (first | (go_at_call 25; refine (at_any A c xs 0 _ RX.out (by omega) HB.out (by omega)).mono ?_; rw [HA.out]; rintro e w' ⟨rfl, rfl⟩) | (go_at_call 26; refine (fs_any _ _ _ hn0 hn1).mono ?_; rw [HV.out]; rintro e w' ⟨rfl, rfl⟩))
            go_ret
            exact ⟨rfl, HBW.out⟩

end Go.Proofs.Ytkjkhlncdopndaa
