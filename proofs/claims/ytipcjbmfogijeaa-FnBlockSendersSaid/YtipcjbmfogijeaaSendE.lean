/- ReceiveBlockAck of the program and of the reference, and the walk of its exact law. -/
import Derived.Test.YtipcjbmfogijeaaSendC
import Derived.Deep.RegionHeld3
namespace Go.Proofs.Ytipcjbmfogijeaa
open Go.RowKit
set_option linter.unusedVariables false
set_option linter.unusedSimpArgs false

def ackB (bs : Int) (M : Nat) (x : Int) : Bool := inR (seqD x bs) 1 2047 || (decide (seqD bs x < 16) && M.testBit (seqD bs x).toNat)
def accU (st bs : Int) (M : Nat) (l : List Int) (A : Nat) : Nat := l.foldl (fun B x => if ackB bs M x then B ||| 2 ^ (seqD st x).toNat else B) A
theorem accU_snoc (st bs : Int) (M : Nat) (l : List Int) (x : Int) (A : Nat) : accU st bs M (l ++ [x]) A = if ackB bs M x then accU st bs M l A ||| 2 ^ (seqD st x).toNat else accU st bs M l A := by
  simp [accU, List.foldl_append]
theorem accU_lt (st bs : Int) (M : Nat) : ∀ (l : List Int) (A : Nat), A < 2 ^ 16 → (∀ x ∈ l, (seqD st x).toNat < 16) → accU st bs M l A < 2 ^ 16 := by
  intro l
  induction l with
  | nil => intro A h _; exact h
  | cons x l ih =>
    intro A h hx
    show accU st bs M l (if ackB bs M x then A ||| 2 ^ (seqD st x).toNat else A) < _
    refine ih _ ?_ (fun y hy => hx y (List.mem_cons_of_mem _ hy))
    cases ackB bs M x
    · simpa using h
    · simpa using Nat.or_lt_two_pow h (Nat.pow_lt_pow_right (by omega) (hx x (List.mem_cons_self ..)))
def okRecv (st nx ak bs bm : Int) : Bool := vSend st nx ak && vAck bs bm && inR (seqD bs nx) 0 2047
def recvA (st nx ak bs bm : Int) : Int × Int := if okRecv st nx ak bs bm then ((adv 16 st (accU st bs bm.toNat (outS st nx ak) ak.toNat)).1, ((adv 16 st (accU st bs bm.toNat (outS st nx ak) ak.toNat)).2 : Int)) else (st, ak)
theorem ext_ext (w : World) (X Y : List Obj) (d e : Nat) : World.ext (World.ext w X d) Y e = World.ext w (X ++ Y) e := by
  simp only [World.ext, World.mk.injEq, and_true]
  apply Array.ext'
  simp
theorem ext_nil (w : World) : World.ext w [] w.drawn = w := by simp [World.ext]

theorem acks_any (bs : Int) (M : Nat) (x : Int) (hb : 0 ≤ bs ∧ bs ≤ 4095) (hM : M ≤ 65535) (hx : 0 ≤ x ∧ x ≤ 4095) (w : World) :
    Calls Try.prog 47 #[.agg #[.int .i64 bs, .int .i64 (M : Int)], .int .i64 x] w fun e w' => e = .returned (.bool (ackB bs M x)) ∧ Below w.heap.size w w' := by
  have hd := seqD_of hb hx
  have hd0 : 0 ≤ seqD bs x ∧ seqD bs x ≤ 4095 := by omega
  obtain ⟨hd1, hd2⟩ := hd0
  clear hd
  cases h1 : inR (seqD x bs) 1 2047
  · by_cases h2 : seqD bs x < 16
    · have hbit := bit_and M (seqD bs x).toNat (by omega)
      cases h3 : M.testBit (seqD bs x).toNat
      all_goals
        rw [h3] at hbit
        simp only [Bool.false_eq_true, if_false, if_true] at hbit
        go_enter Try.func47, Try.ntmps47
        go_wp2_with (first | (go_at_call 38; refine (inRange_any _ _ _ _).mono ?_; rintro e w' ⟨rfl, rfl⟩) | (go_at_call 41; refine (implDist_any _ _ _).mono ?_; rintro e w' ⟨rfl, rfl⟩))
        go_ret
        exact ⟨by simp [ackB, h1, h2, h3], (by repeat (first | (with_reducible exact Below.refl _ _) | (with_reducible refine Below.ext ?_ (by go_size) _ _) | (with_reducible refine Below.alloc ?_ (by go_size) _) | (with_reducible refine Below.setCell ?_ (by go_size) _) | (with_reducible refine Below.drew ?_) | (with_reducible refine Below.drewN_ ?_ _)))⟩
    · go_enter Try.func47, Try.ntmps47
      go_wp2_with (first | (go_at_call 38; refine (inRange_any _ _ _ _).mono ?_; rintro e w' ⟨rfl, rfl⟩) | (go_at_call 41; refine (implDist_any _ _ _).mono ?_; rintro e w' ⟨rfl, rfl⟩))
      go_ret
      exact ⟨by simp [ackB, h1, h2]; omega, (by repeat (first | (with_reducible exact Below.refl _ _) | (with_reducible refine Below.ext ?_ (by go_size) _ _) | (with_reducible refine Below.alloc ?_ (by go_size) _) | (with_reducible refine Below.setCell ?_ (by go_size) _) | (with_reducible refine Below.drew ?_) | (with_reducible refine Below.drewN_ ?_ _)))⟩
  · go_enter Try.func47, Try.ntmps47
    go_wp2_with (first | (go_at_call 38; refine (inRange_any _ _ _ _).mono ?_; rintro e w' ⟨rfl, rfl⟩) | (go_at_call 41; refine (implDist_any _ _ _).mono ?_; rintro e w' ⟨rfl, rfl⟩))
    go_ret
    exact ⟨by simp [ackB, h1], (by repeat (first | (with_reducible exact Below.refl _ _) | (with_reducible refine Below.ext ?_ (by go_size) _ _) | (with_reducible refine Below.alloc ?_ (by go_size) _) | (with_reducible refine Below.setCell ?_ (by go_size) _) | (with_reducible refine Below.drew ?_) | (with_reducible refine Below.drewN_ ?_ _)))⟩

-- the program
set_option maxHeartbeats 8000000 in
theorem implRecvYes (st nx ak bs bm : Int) (hok : okRecv st nx ak bs bm = true) (h1 : vSend st nx ak = true) (h2 : vAck bs bm = true) (h3 : inR (seqD bs nx) 0 2047 = true) (w : World) :
    Calls Try.prog 33 #[.agg #[.int .i64 st, .int .i64 nx, .int .i64 ak], .agg #[.int .i64 bs, .int .i64 bm]] w fun e w' => e = .returned (.agg #[.int .i64 (recvA st nx ak bs bm).1, .int .i64 nx, .int .i64 (recvA st nx ak bs bm).2]) ∧ Below w.heap.size w w' := by
  have hle := outS_le st nx ak
  obtain ⟨D, A, hs1, hs2, hs3, hs4, hs5, hs6, hs7, hs8, hs9⟩ := vSend_true h1
  have h2' := h2
  simp only [vAck, Bool.and_eq_true] at h2'
  have ha := inR_true h2'.1
  have hm := inR_true h2'.2
  clear h2'
  obtain ⟨M, rfl⟩ := Int.eq_ofNat_of_zero_le hm.1
  have h3' := inR_true h3
  have h3b : ¬ 2047 < seqD bs nx := by omega
  have HALL : Hid (∀ k, accU st bs M ((outS st nx ak).take k) ak.toNat < 2 ^ 16) := by
    intro k
    have h16 : 2 ^ D ≤ 2 ^ 16 := Nat.pow_le_pow_right (by omega) hs3
    refine accU_lt _ _ _ _ _ (by rw [hs2]; simp; omega) (fun x hx => ?_)
    obtain ⟨D', A', i, q1, q2, q3, q4, q5, q6, q7, q8, q9, q10⟩ := outS_mem (List.mem_of_mem_take hx)
    rw [q10]; simp; omega
  have HF : Hid (recvA st nx ak bs (M : Int) = ((adv 16 st (accU st bs M (outS st nx ak) ak.toNat)).1, ((adv 16 st (accU st bs M (outS st nx ak) ak.toNat)).2 : Int))) := by
    show _ = _
    rw [recvA, if_pos hok]; rfl
  have hcast : ((ak.toNat : Nat) : Int) = ak := by rw [hs2]; simp
  have HCAST := Lib.hid hcast
  obtain ⟨hm0, hm1⟩ := hm
  clear hs1 hs2 hs4 hs5 hcast hok
  go_enter Try.func33, Try.ntmps33
  go_wp2_with (first | (go_at_call 20; refine (implVS_any _ _ _ _).mono ?_; rintro e w' ⟨rfl, hbw⟩; obtain ⟨Xa, da, rfl⟩ := Below.ext_ hbw; clear hbw) | (go_at_call 14; refine (implVA_any _ _ _).mono ?_; rintro e w' ⟨rfl, hbw⟩; obtain ⟨Xb, db, rfl⟩ := Below.ext_ hbw; clear hbw) | (go_at_call 41; refine (implDist_any _ _ _).mono ?_; rintro e w' ⟨rfl, rfl⟩) | (go_at_call 38; refine (inRange_any _ _ _ _).mono ?_; rintro e w' ⟨rfl, rfl⟩) | (go_at_call 26; refine (implOutS_any st nx ak _).mono ?_; rintro e w' ⟨g, cap, X, d, rfl, rfl, hg, hown⟩))
  go_loopw [6, 28] (fun _ i wr => ∃ (k d' : Nat) (Y : List Obj), k ≤ (outS st nx ak).length ∧ i = .int .i64 (k : Int) ∧
      wr = World.ext (World.ext (World.ext (World.ext (((w.alloc (.cells #[.int .i64 st, .int .i64 nx, .int .i64 ((accU st bs M ((outS st nx ak).take k) ak.toNat : Nat) : Int)] 29)).alloc (.cells #[.int .i64 bs, .int .i64 (M : Int)] 25)).alloc (.cells #[.int .i64 0, .int .i64 0, .int .i64 0] 29)) Xa da) Xb db) X d) Y d')
    (fun _ i _ => (outS st nx ak).length - (intOf i).toNat)
  case atStart =>
    refine ⟨0, d, [], Nat.zero_le _, rfl, ?_⟩
    simp only [List.take_zero, accU, List.foldl_nil, HCAST.out]
    exact (ext_nil _).symm
  case round =>
    obtain ⟨k, d', Y, hk, rfl, rfl⟩ := hrel
    by_cases hlt : k < (outS st nx ak).length
    · have hlt2 : (k : Int) < ((outS st nx ak).length : Int) := by omega
      obtain ⟨v, hv1, hv2⟩ := own_cell hown k hlt
      have hxk : (outS st nx ak)[k]? = some (outS st nx ak)[k] := List.getElem?_eq_getElem hlt
      have hmem : (outS st nx ak)[k] ∈ outS st nx ak := List.getElem_mem hlt
      generalize (outS st nx ak)[k] = x at hxk hmem
      rw [List.getElem?_map, hxk] at hv1
      simp only [Option.map_some, Option.some.injEq] at hv1
      subst hv1
      obtain ⟨D', A', i, q1, q2, q3, q4, q5, q6, q7, q8, q9, q10⟩ := outS_mem hmem
      have hx0 : 0 ≤ x ∧ x ≤ 4095 := by omega
      have hsd : (seqD st x).toNat ≤ 40 := by rw [q10]; simp; omega
      have hsd1 : 0 ≤ seqD st x ∧ seqD st x ≤ 16 := by omega
      have hAk : accU st bs M ((outS st nx ak).take k) ak.toNat < 2 ^ 16 := HALL.out k
      have hor := or_bit (accU st bs M ((outS st nx ak).take k) ak.toNat) (seqD st x).toNat (Nat.lt_trans hAk (by decide)) hsd
      have hor2 : bits .or .i64 ((accU st bs M ((outS st nx ak).take k) ak.toNat : Nat) : Int) (wrap64 (2 ^ (seqD st x).toNat)) = ((accU st bs M ((outS st nx ak).take k) ak.toNat ||| 2 ^ (seqD st x).toNat : Nat) : Int) := by rw [wrap64_eq]; exact hor
      have hsn : accU st bs M ((outS st nx ak).take (k + 1)) ak.toNat = if ackB bs M x then accU st bs M ((outS st nx ak).take k) ak.toNat ||| 2 ^ (seqD st x).toNat else accU st bs M ((outS st nx ak).take k) ak.toNat := by
        rw [List.take_add_one, hxk]; exact accU_snoc _ _ _ _ _ _
      have HSN := Lib.hid hsn
      clear hsn hxk hmem q1 q2 q3 q4 q5 q6 q7 q8 q9 q10 hAk
      generalize accU st bs M ((outS st nx ak).take k) ak.toNat = Ak at *
      have hgl := own_lt hown
      have hcell : ∀ (cs : Array Value) (Y : List Obj) (d' : Nat), (World.ext (World.ext (World.ext (World.ext (((w.alloc (.cells cs 29)).alloc (.cells #[.int .i64 bs, .int .i64 (M : Int)] 25)).alloc (.cells #[.int .i64 0, .int .i64 0, .int .i64 0] 29)) Xa da) Xb db) X d) Y d').cell? ⟨g, k, none⟩ = some (.int .i64 x) := by
        intro cs Y d'
        rw [World.cell?_ext _ _ _ _ _ (by simpa using hgl), ← hv2]
        exact ext_row _ _ _ _ _ _ _ (by simp) hg
      clear hv2 hown
      cases hak : ackB bs M x
      · go_wp2_with (first | (go_at_call 47; refine (acks_any bs M x ha (by omega) hx0 _).mono ?_; rintro e w' ⟨rfl, hbw⟩; obtain ⟨X2, d2, rfl⟩ := Below.ext_ hbw; clear hbw))
        go_roundw
        case rel => exact ⟨k + 1, _, Y ++ X2, by omega, by go_num, by rw [HSN.out, hak]; exact ext_ext _ _ _ _ _⟩
        case measure => simp [intOf]; omega
      · go_wp2_with (first | (go_at_call 47; refine (acks_any bs M x ha (by omega) hx0 _).mono ?_; rintro e w' ⟨rfl, hbw⟩; obtain ⟨X2, d2, rfl⟩ := Below.ext_ hbw; clear hbw))
        go_region_with ((go_at_call 41; refine (implDist_any _ _ _).mono ?_; rintro e w' ⟨rfl, rfl⟩))
        all_goals go_wp2
        all_goals go_roundw
        all_goals first
          | exact ⟨k + 1, _, Y ++ X2, by omega, by go_num, by rw [HSN.out, hak]; exact ext_ext _ _ _ _ _⟩
          | (simp [intOf]; omega)
    · obtain rfl : k = (outS st nx ak).length := by omega
      have hAl := HALL.out (outS st nx ak).length
      rw [List.take_length] at hAl ⊢
      go_wp2_with (go_at_call 46; refine (implAdv_any 16 (by omega) st nx _ hAl _).mono ?_; rintro e w' ⟨rfl, hbw⟩; obtain ⟨X2, d2, rfl⟩ := Below.ext_ hbw; clear hbw)
      go_returns
      rw [HF.out]
      exact ⟨by simp, (by repeat (first | (with_reducible exact Below.refl _ _) | (with_reducible refine Below.ext ?_ (by go_size) _ _) | (with_reducible refine Below.alloc ?_ (by go_size) _) | (with_reducible refine Below.setCell ?_ (by go_size) _) | (with_reducible refine Below.drew ?_) | (with_reducible refine Below.drewN_ ?_ _)))⟩

set_option maxHeartbeats 2000000 in
theorem implRecv_any (st nx ak bs bm : Int) (w : World) :
    Calls Try.prog 33 #[.agg #[.int .i64 st, .int .i64 nx, .int .i64 ak], .agg #[.int .i64 bs, .int .i64 bm]] w fun e w' => e = .returned (.agg #[.int .i64 (recvA st nx ak bs bm).1, .int .i64 nx, .int .i64 (recvA st nx ak bs bm).2]) ∧ Below w.heap.size w w' := by
  have hle := outS_le st nx ak
  cases h1 : vSend st nx ak
  · go_enter Try.func33, Try.ntmps33
    go_wp2_with (first | (go_at_call 20; refine (implVS_any _ _ _ _).mono ?_; rintro e w' ⟨rfl, hbw⟩; obtain ⟨X, d, rfl⟩ := Below.ext_ hbw; clear hbw) | (go_at_call 14; refine (implVA_any _ _ _).mono ?_; rintro e w' ⟨rfl, hbw⟩; obtain ⟨X, d, rfl⟩ := Below.ext_ hbw; clear hbw) | (go_at_call 41; refine (implDist_any _ _ _).mono ?_; rintro e w' ⟨rfl, rfl⟩) | (go_at_call 38; refine (inRange_any _ _ _ _).mono ?_; rintro e w' ⟨rfl, rfl⟩))
    go_returns
    exact ⟨by simp [recvA, okRecv, h1], (by repeat (first | (with_reducible exact Below.refl _ _) | (with_reducible refine Below.ext ?_ (by go_size) _ _) | (with_reducible refine Below.alloc ?_ (by go_size) _) | (with_reducible refine Below.setCell ?_ (by go_size) _) | (with_reducible refine Below.drew ?_) | (with_reducible refine Below.drewN_ ?_ _)))⟩
  · cases h2 : vAck bs bm
    · go_enter Try.func33, Try.ntmps33
      go_wp2_with (first | (go_at_call 20; refine (implVS_any _ _ _ _).mono ?_; rintro e w' ⟨rfl, hbw⟩; obtain ⟨X, d, rfl⟩ := Below.ext_ hbw; clear hbw) | (go_at_call 14; refine (implVA_any _ _ _).mono ?_; rintro e w' ⟨rfl, hbw⟩; obtain ⟨X, d, rfl⟩ := Below.ext_ hbw; clear hbw) | (go_at_call 41; refine (implDist_any _ _ _).mono ?_; rintro e w' ⟨rfl, rfl⟩) | (go_at_call 38; refine (inRange_any _ _ _ _).mono ?_; rintro e w' ⟨rfl, rfl⟩))
      go_returns
      exact ⟨by simp [recvA, okRecv, h1, h2], (by repeat (first | (with_reducible exact Below.refl _ _) | (with_reducible refine Below.ext ?_ (by go_size) _ _) | (with_reducible refine Below.alloc ?_ (by go_size) _) | (with_reducible refine Below.setCell ?_ (by go_size) _) | (with_reducible refine Below.drew ?_) | (with_reducible refine Below.drewN_ ?_ _)))⟩
    · obtain ⟨D, A, hs1, hs2, hs3, hs4, hs5, hs6, hs7, hs8, hs9⟩ := vSend_true h1
      have h2' := h2
      simp only [vAck, Bool.and_eq_true] at h2'
      have ha := inR_true h2'.1
      have hm := inR_true h2'.2
      clear h2'
      have hdn := seqD_of ha ⟨hs8, hs9⟩
      have hdn0 : 0 ≤ seqD bs nx := by omega
      clear hdn hs1 hs2 hs4 hs5
      cases h3 : inR (seqD bs nx) 0 2047
      · go_enter Try.func33, Try.ntmps33
        go_wp2_with (first | (go_at_call 20; refine (implVS_any _ _ _ _).mono ?_; rintro e w' ⟨rfl, hbw⟩; obtain ⟨X, d, rfl⟩ := Below.ext_ hbw; clear hbw) | (go_at_call 14; refine (implVA_any _ _ _).mono ?_; rintro e w' ⟨rfl, hbw⟩; obtain ⟨X, d, rfl⟩ := Below.ext_ hbw; clear hbw) | (go_at_call 41; refine (implDist_any _ _ _).mono ?_; rintro e w' ⟨rfl, rfl⟩) | (go_at_call 38; refine (inRange_any _ _ _ _).mono ?_; rintro e w' ⟨rfl, rfl⟩))
        go_returns
        exact ⟨by simp [recvA, okRecv, h1, h2, h3], (by repeat (first | (with_reducible exact Below.refl _ _) | (with_reducible refine Below.ext ?_ (by go_size) _ _) | (with_reducible refine Below.alloc ?_ (by go_size) _) | (with_reducible refine Below.setCell ?_ (by go_size) _) | (with_reducible refine Below.drew ?_) | (with_reducible refine Below.drewN_ ?_ _)))⟩
      · have h3' := inR_true h3
        have hok : okRecv st nx ak bs bm = true := by simp [okRecv, h1, h2, h3]
        exact implRecvYes st nx ak bs bm hok h1 h2 h3 w

theorem specDist_q (a b : Int) (w : World) :
    Calls Try.prog 40 #[.int .i64 a, .int .i64 b] w fun e w' => e = .returned (.int .i64 (seqD a b)) ∧ w' = w :=
  (specDist_any a b w).mono fun _ _ ⟨a, b⟩ => ⟨a, b.symm⟩

theorem quiet_ext_same {P : Program} {f : FuncId} {args : Array Value} {w : World} {X : List Obj} {d n : Nat} {v : Value}
    (h : Calls P f args (World.ext w X (d + n)) fun e w' => e = .returned v ∧ w' = World.ext w X (d + n)) :
    Calls P f args (World.ext w X (d + n)) fun e w'' => e = .returned v ∧ ∃ m, w'' = World.ext w X (d + m) :=
  h.mono fun _ _ ⟨he, hm⟩ => ⟨he, n, hm⟩

theorem l1In_qb (n lo hi : Int) (b : Bool) (h : inR n lo hi = b) (w : World) :
    Calls Try.prog 37 #[.int .i64 n, .int .i64 lo, .int .i64 hi] w fun e w' => e = .returned (.bool b) ∧ w' = w :=
  (l1In_any n lo hi w).mono fun _ _ ⟨a, b⟩ => ⟨by rw [a, h], b.symm⟩

-- the reference
set_option maxHeartbeats 8000000 in
theorem specRecvYes (st nx ak bs bm : Int) (hok : okRecv st nx ak bs bm = true) (h1 : vSend st nx ak = true) (h2 : vAck bs bm = true) (h3 : inR (seqD bs nx) 0 2047 = true) (w : World) :
    Calls Try.prog 32 #[.agg #[.int .i64 st, .int .i64 nx, .int .i64 ak], .agg #[.int .i64 bs, .int .i64 bm]] w fun e w' => e = .returned (.agg #[.int .i64 (recvA st nx ak bs bm).1, .int .i64 nx, .int .i64 (recvA st nx ak bs bm).2]) ∧ Below w.heap.size w w' := by
  have hle := outS_le st nx ak
  obtain ⟨D, A, hs1, hs2, hs3, hs4, hs5, hs6, hs7, hs8, hs9⟩ := vSend_true h1
  have h2' := h2
  simp only [vAck, Bool.and_eq_true] at h2'
  have ha := inR_true h2'.1
  have hm := inR_true h2'.2
  clear h2'
  obtain ⟨M, rfl⟩ := Int.eq_ofNat_of_zero_le hm.1
  have h3' := inR_true h3
  have h3b : ¬ 2047 < seqD bs nx := by omega
  have HALL : Hid (∀ k, accU st bs M ((outS st nx ak).take k) ak.toNat < 2 ^ 16) := by
    intro k
    have h16 : 2 ^ D ≤ 2 ^ 16 := Nat.pow_le_pow_right (by omega) hs3
    refine accU_lt _ _ _ _ _ (by rw [hs2]; simp; omega) (fun x hx => ?_)
    obtain ⟨D', A', i, q1, q2, q3, q4, q5, q6, q7, q8, q9, q10⟩ := outS_mem (List.mem_of_mem_take hx)
    rw [q10]; simp; omega
  have HF : Hid (recvA st nx ak bs (M : Int) = ((adv 16 st (accU st bs M (outS st nx ak) ak.toNat)).1, ((adv 16 st (accU st bs M (outS st nx ak) ak.toNat)).2 : Int))) := by
    show _ = _
    rw [recvA, if_pos hok]; rfl
  have hcast : ((ak.toNat : Nat) : Int) = ak := by rw [hs2]; simp
  have HCAST := Lib.hid hcast
  obtain ⟨hm0, hm1⟩ := hm
  clear hs1 hs2 hs4 hs5 hcast hok
  go_enter Try.func32, Try.ntmps32
  go_wp2_with (first | (go_at_call 18; refine (specVS_any _ _ _ _).mono ?_; rintro e w' ⟨rfl, hbw⟩; obtain ⟨Xa, da, rfl⟩ := Below.ext_ hbw; clear hbw) | (go_at_call 12; refine (specVA_any _ _ _).mono ?_; rintro e w' ⟨rfl, hbw⟩; obtain ⟨Xb, db, rfl⟩ := Below.ext_ hbw; clear hbw) | (go_at_call 40; refine (specDist_any _ _ _).mono ?_; rintro e w' ⟨rfl, rfl⟩) | (go_at_call 37; refine (l1In_any _ _ _ _).mono ?_; rintro e w' ⟨rfl, rfl⟩) | (go_at_call 25; refine (specOutS_any st nx ak _).mono ?_; rintro e w' ⟨g, cap, X, d, rfl, rfl, hg, hown⟩))
  go_loopw [7] (fun i wr => ∃ (k d' : Nat) (Y : List Obj), k ≤ (outS st nx ak).length ∧ i = .int .i64 (k : Int) ∧
      wr = World.ext (World.ext ((World.ext (World.ext (((w.alloc (.cells #[.int .i64 st, .int .i64 nx, .int .i64 ak] 29)).alloc (.cells #[.int .i64 bs, .int .i64 (M : Int)] 25)).alloc (.cells #[.int .i64 0, .int .i64 0, .int .i64 0] 29)) Xa da) Xb db).alloc (.cells #[.int .i64 st, .int .i64 nx, .int .i64 ((accU st bs M ((outS st nx ak).take k) ak.toNat : Nat) : Int)] 29)) X d) Y d')
    (fun i _ => (outS st nx ak).length - (intOf i).toNat)
  case atStart =>
    refine ⟨0, d, [], Nat.zero_le _, rfl, ?_⟩
    simp only [List.take_zero, accU, List.foldl_nil, HCAST.out]
    exact (ext_nil _).symm
  case round =>
    obtain ⟨k, d', Y, hk, rfl, rfl⟩ := hrel
    by_cases hlt : k < (outS st nx ak).length
    · have hlt2 : (k : Int) < ((outS st nx ak).length : Int) := by omega
      obtain ⟨v, hv1, hv2⟩ := own_cell hown k hlt
      have hxk : (outS st nx ak)[k]? = some (outS st nx ak)[k] := List.getElem?_eq_getElem hlt
      have hmem : (outS st nx ak)[k] ∈ outS st nx ak := List.getElem_mem hlt
      generalize (outS st nx ak)[k] = x at hxk hmem
      rw [List.getElem?_map, hxk] at hv1
      simp only [Option.map_some, Option.some.injEq] at hv1
      subst hv1
      obtain ⟨D', A', i, q1, q2, q3, q4, q5, q6, q7, q8, q9, q10⟩ := outS_mem hmem
      have hx0 : 0 ≤ x ∧ x ≤ 4095 := by omega
      have hsd : (seqD st x).toNat ≤ 40 := by rw [q10]; simp; omega
      have hsd1 : 0 ≤ seqD st x ∧ seqD st x ≤ 16 := by omega
      have hAk : accU st bs M ((outS st nx ak).take k) ak.toNat < 2 ^ 16 := HALL.out k
      have hor := or_bit (accU st bs M ((outS st nx ak).take k) ak.toNat) (seqD st x).toNat (Nat.lt_trans hAk (by decide)) hsd
      have hor2 : bits .or .i64 ((accU st bs M ((outS st nx ak).take k) ak.toNat : Nat) : Int) (wrap64 (2 ^ (seqD st x).toNat)) = ((accU st bs M ((outS st nx ak).take k) ak.toNat ||| 2 ^ (seqD st x).toNat : Nat) : Int) := by rw [wrap64_eq]; exact hor
      have hsn : accU st bs M ((outS st nx ak).take (k + 1)) ak.toNat = if ackB bs M x then accU st bs M ((outS st nx ak).take k) ak.toNat ||| 2 ^ (seqD st x).toNat else accU st bs M ((outS st nx ak).take k) ak.toNat := by
        rw [List.take_add_one, hxk]; exact accU_snoc _ _ _ _ _ _
      have HSN := Lib.hid hsn
      clear hsn hxk hmem q1 q2 q3 q4 q5 q6 q7 q8 q9 q10 hAk
      generalize accU st bs M ((outS st nx ak).take k) ak.toNat = Ak at *
      have hgl := own_lt hown
      have hcell : ∀ (cs : Array Value) (Y : List Obj) (d' : Nat), (World.ext (World.ext ((World.ext (World.ext (((w.alloc (.cells #[.int .i64 st, .int .i64 nx, .int .i64 ak] 29)).alloc (.cells #[.int .i64 bs, .int .i64 (M : Int)] 25)).alloc (.cells #[.int .i64 0, .int .i64 0, .int .i64 0] 29)) Xa da) Xb db).alloc (.cells cs 29)) X d) Y d').cell? ⟨g, k, none⟩ = some (.int .i64 x) := by
        intro cs Y d'
        rw [World.cell?_ext _ _ _ _ _ (by simpa using hgl), ← hv2]
        exact ext_row _ _ _ _ _ _ _ (by simp) hg
      clear hv2 hown
      have hd := seqD_of ha hx0
      have hd0 : 0 ≤ seqD bs x ∧ seqD bs x ≤ 4095 := by omega
      obtain ⟨hd1, hd2⟩ := hd0
      clear hd
      have hbit := bit_and M (seqD bs x).toNat (by omega)
      cases q1 : inR (seqD x bs) 1 2047
      · by_cases q2 : seqD bs x < 16
        · cases q3 : M.testBit (seqD bs x).toNat
          · have hak : ackB bs M x = false := by simp [ackB, q1, q3]
            rw [q3] at hbit
            simp only [Bool.false_eq_true, if_false] at hbit
            go_wp2
            go_quiet ((first | (go_at_call 40; first | with_reducible exact Calls.quiet_of_same (specDist_q _ _ _) | with_reducible exact quiet_ext_same (specDist_q _ _ _)) | (go_at_call 37; first | with_reducible exact Calls.quiet_of_same (l1In_qb _ _ _ _ q1 _) | with_reducible exact quiet_ext_same (l1In_qb _ _ _ _ q1 _))))
            go_wp2
            go_quiet ((first | (go_at_call 40; first | with_reducible exact Calls.quiet_of_same (specDist_q _ _ _) | with_reducible exact quiet_ext_same (specDist_q _ _ _)) | (go_at_call 37; first | with_reducible exact Calls.quiet_of_same (l1In_qb _ _ _ _ q1 _) | with_reducible exact quiet_ext_same (l1In_qb _ _ _ _ q1 _))))
            go_wp2
            go_roundw
            case rel => exact ⟨k + 1, _, Y, by omega, by go_num, by rw [HSN.out, hak]; rfl⟩
            case measure => simp [intOf]; omega
          · have hak : ackB bs M x = true := by simp [ackB, q2, q3]
            rw [q3] at hbit
            simp only [if_true] at hbit
            go_wp2
            go_quiet ((first | (go_at_call 40; first | with_reducible exact Calls.quiet_of_same (specDist_q _ _ _) | with_reducible exact quiet_ext_same (specDist_q _ _ _)) | (go_at_call 37; first | with_reducible exact Calls.quiet_of_same (l1In_qb _ _ _ _ q1 _) | with_reducible exact quiet_ext_same (l1In_qb _ _ _ _ q1 _))))
            go_wp2
            go_quiet ((first | (go_at_call 40; first | with_reducible exact Calls.quiet_of_same (specDist_q _ _ _) | with_reducible exact quiet_ext_same (specDist_q _ _ _)) | (go_at_call 37; first | with_reducible exact Calls.quiet_of_same (l1In_qb _ _ _ _ q1 _) | with_reducible exact quiet_ext_same (l1In_qb _ _ _ _ q1 _))))
            go_wp2
            go_region_with ((go_at_call 40; refine (specDist_any _ _ _).mono ?_; rintro e w' ⟨rfl, rfl⟩))
            all_goals go_wp2
            all_goals go_roundw
            all_goals first
              | exact ⟨k + 1, _, Y, by omega, by go_num, by rw [HSN.out, hak]; rfl⟩
              | (simp [intOf]; omega)
        · have q2b : decide (seqD bs x < 16) = false := by simpa using q2
          have hak : ackB bs M x = false := by simp [ackB, q1, q2b]
          clear hbit
          go_wp2
          go_quiet ((first | (go_at_call 40; first | with_reducible exact Calls.quiet_of_same (specDist_q _ _ _) | with_reducible exact quiet_ext_same (specDist_q _ _ _)) | (go_at_call 37; first | with_reducible exact Calls.quiet_of_same (l1In_qb _ _ _ _ q1 _) | with_reducible exact quiet_ext_same (l1In_qb _ _ _ _ q1 _))))
          go_wp2
          go_quiet ((first | (go_at_call 40; first | with_reducible exact Calls.quiet_of_same (specDist_q _ _ _) | with_reducible exact quiet_ext_same (specDist_q _ _ _)) | (go_at_call 37; first | with_reducible exact Calls.quiet_of_same (l1In_qb _ _ _ _ q1 _) | with_reducible exact quiet_ext_same (l1In_qb _ _ _ _ q1 _))))
          go_wp2
          go_roundw
          case rel => exact ⟨k + 1, _, Y, by omega, by go_num, by rw [HSN.out, hak]; rfl⟩
          case measure => simp [intOf]; omega
      · have hak : ackB bs M x = true := by simp [ackB, q1]
        clear hbit
        go_wp2
        go_quiet ((first | (go_at_call 40; first | with_reducible exact Calls.quiet_of_same (specDist_q _ _ _) | with_reducible exact quiet_ext_same (specDist_q _ _ _)) | (go_at_call 37; first | with_reducible exact Calls.quiet_of_same (l1In_qb _ _ _ _ q1 _) | with_reducible exact quiet_ext_same (l1In_qb _ _ _ _ q1 _))))
        go_wp2
        go_quiet ((first | (go_at_call 40; first | with_reducible exact Calls.quiet_of_same (specDist_q _ _ _) | with_reducible exact quiet_ext_same (specDist_q _ _ _)) | (go_at_call 37; first | with_reducible exact Calls.quiet_of_same (l1In_qb _ _ _ _ q1 _) | with_reducible exact quiet_ext_same (l1In_qb _ _ _ _ q1 _))))
        go_wp2
        go_region_with ((go_at_call 40; refine (specDist_any _ _ _).mono ?_; rintro e w' ⟨rfl, rfl⟩))
        all_goals go_wp2
        all_goals go_roundw
        all_goals first
          | exact ⟨k + 1, _, Y, by omega, by go_num, by rw [HSN.out, hak]; rfl⟩
          | (simp [intOf]; omega)
    · obtain rfl : k = (outS st nx ak).length := by omega
      have hAl := HALL.out (outS st nx ak).length
      rw [List.take_length] at hAl ⊢
      go_wp2_with (go_at_call 45; refine (specAdv_any 16 (by omega) st nx _ hAl _).mono ?_; rintro e w' ⟨rfl, hbw⟩; obtain ⟨X2, d2, rfl⟩ := Below.ext_ hbw; clear hbw)
      go_returns
      rw [HF.out]
      exact ⟨by simp, (by repeat (first | (with_reducible exact Below.refl _ _) | (with_reducible refine Below.ext ?_ (by go_size) _ _) | (with_reducible refine Below.alloc ?_ (by go_size) _) | (with_reducible refine Below.setCell ?_ (by go_size) _) | (with_reducible refine Below.drew ?_) | (with_reducible refine Below.drewN_ ?_ _)))⟩

set_option maxHeartbeats 2000000 in
theorem specRecv_any (st nx ak bs bm : Int) (w : World) :
    Calls Try.prog 32 #[.agg #[.int .i64 st, .int .i64 nx, .int .i64 ak], .agg #[.int .i64 bs, .int .i64 bm]] w fun e w' => e = .returned (.agg #[.int .i64 (recvA st nx ak bs bm).1, .int .i64 nx, .int .i64 (recvA st nx ak bs bm).2]) ∧ Below w.heap.size w w' := by
  have hle := outS_le st nx ak
  cases h1 : vSend st nx ak
  · go_enter Try.func32, Try.ntmps32
    go_wp2_with (first | (go_at_call 18; refine (specVS_any _ _ _ _).mono ?_; rintro e w' ⟨rfl, hbw⟩; obtain ⟨X, d, rfl⟩ := Below.ext_ hbw; clear hbw) | (go_at_call 12; refine (specVA_any _ _ _).mono ?_; rintro e w' ⟨rfl, hbw⟩; obtain ⟨X, d, rfl⟩ := Below.ext_ hbw; clear hbw) | (go_at_call 40; refine (specDist_any _ _ _).mono ?_; rintro e w' ⟨rfl, rfl⟩) | (go_at_call 37; refine (l1In_any _ _ _ _).mono ?_; rintro e w' ⟨rfl, rfl⟩))
    go_returns
    exact ⟨by simp [recvA, okRecv, h1], (by repeat (first | (with_reducible exact Below.refl _ _) | (with_reducible refine Below.ext ?_ (by go_size) _ _) | (with_reducible refine Below.alloc ?_ (by go_size) _) | (with_reducible refine Below.setCell ?_ (by go_size) _) | (with_reducible refine Below.drew ?_) | (with_reducible refine Below.drewN_ ?_ _)))⟩
  · cases h2 : vAck bs bm
    · go_enter Try.func32, Try.ntmps32
      go_wp2_with (first | (go_at_call 18; refine (specVS_any _ _ _ _).mono ?_; rintro e w' ⟨rfl, hbw⟩; obtain ⟨X, d, rfl⟩ := Below.ext_ hbw; clear hbw) | (go_at_call 12; refine (specVA_any _ _ _).mono ?_; rintro e w' ⟨rfl, hbw⟩; obtain ⟨X, d, rfl⟩ := Below.ext_ hbw; clear hbw) | (go_at_call 40; refine (specDist_any _ _ _).mono ?_; rintro e w' ⟨rfl, rfl⟩) | (go_at_call 37; refine (l1In_any _ _ _ _).mono ?_; rintro e w' ⟨rfl, rfl⟩))
      go_returns
      exact ⟨by simp [recvA, okRecv, h1, h2], (by repeat (first | (with_reducible exact Below.refl _ _) | (with_reducible refine Below.ext ?_ (by go_size) _ _) | (with_reducible refine Below.alloc ?_ (by go_size) _) | (with_reducible refine Below.setCell ?_ (by go_size) _) | (with_reducible refine Below.drew ?_) | (with_reducible refine Below.drewN_ ?_ _)))⟩
    · obtain ⟨D, A, hs1, hs2, hs3, hs4, hs5, hs6, hs7, hs8, hs9⟩ := vSend_true h1
      have h2' := h2
      simp only [vAck, Bool.and_eq_true] at h2'
      have ha := inR_true h2'.1
      have hm := inR_true h2'.2
      clear h2'
      have hdn := seqD_of ha ⟨hs8, hs9⟩
      have hdn0 : 0 ≤ seqD bs nx := by omega
      clear hdn hs1 hs2 hs4 hs5
      cases h3 : inR (seqD bs nx) 0 2047
      · have h3' : 2047 < seqD bs nx := by have := inR_false h3; omega
        go_enter Try.func32, Try.ntmps32
        go_wp2_with (first | (go_at_call 18; refine (specVS_any _ _ _ _).mono ?_; rintro e w' ⟨rfl, hbw⟩; obtain ⟨X, d, rfl⟩ := Below.ext_ hbw; clear hbw) | (go_at_call 12; refine (specVA_any _ _ _).mono ?_; rintro e w' ⟨rfl, hbw⟩; obtain ⟨X, d, rfl⟩ := Below.ext_ hbw; clear hbw) | (go_at_call 40; refine (specDist_any _ _ _).mono ?_; rintro e w' ⟨rfl, rfl⟩) | (go_at_call 37; refine (l1In_any _ _ _ _).mono ?_; rintro e w' ⟨rfl, rfl⟩))
        go_returns
        exact ⟨by simp [recvA, okRecv, h1, h2, h3], (by repeat (first | (with_reducible exact Below.refl _ _) | (with_reducible refine Below.ext ?_ (by go_size) _ _) | (with_reducible refine Below.alloc ?_ (by go_size) _) | (with_reducible refine Below.setCell ?_ (by go_size) _) | (with_reducible refine Below.drew ?_) | (with_reducible refine Below.drewN_ ?_ _)))⟩
      · have h3' := inR_true h3
        have h3b : ¬ 2047 < seqD bs nx := by omega
        have hok : okRecv st nx ak bs bm = true := by simp [okRecv, h1, h2, h3]
        exact specRecvYes st nx ak bs bm hok h1 h2 h3 w

-- the law
set_option maxHeartbeats 4000000 in
theorem receiveBlockAck_walk (st nx ak bs bm : Int) (hst : I64 st) (hnx : I64 nx) (hak : I64 ak) (hbs : I64 bs) (hbm : I64 bm) (w : World) :
    Calls Try.prog 10 #[.agg #[.int .i64 st, .int .i64 nx, .int .i64 ak], .agg #[.int .i64 bs, .int .i64 bm]] w fun e w' => e = .returned (.bool true) ∧ Below w.heap.size w w' := by
  go_enter Try.func10, Try.ntmps10
  go_wp2
  go_region_held3 (fun w' => w'.cell? ⟨w.heap.size, 0, none⟩ = some (.int .i64 st) ∧ w'.cell? ⟨w.heap.size, 1, none⟩ = some (.int .i64 nx) ∧ w'.cell? ⟨w.heap.size, 2, none⟩ = some (.int .i64 ak) ∧ w'.cell? ⟨w.heap.size + 1, 0, none⟩ = some (.int .i64 bs) ∧ w'.cell? ⟨w.heap.size + 1, 1, none⟩ = some (.int .i64 bm)) (simp [go_sem]) (first | (go_at_call 19; refine (toSend_any _ _ _ _).mono ?_; rintro e w' ⟨rfl, hbw⟩; obtain ⟨X, d, rfl⟩ := Below.ext_ hbw; clear hbw) | (go_at_call 13; refine (toAck_any _ _ _).mono ?_; rintro e w' ⟨rfl, hbw⟩; obtain ⟨X, d, rfl⟩ := Below.ext_ hbw; clear hbw) | (go_at_call 32; refine (specRecv_any _ _ _ _ _ _).mono ?_; rintro e w' ⟨rfl, hbw⟩; obtain ⟨X, d, rfl⟩ := Below.ext_ hbw; clear hbw) | (go_at_call 33; refine (implRecv_any _ _ _ _ _ _).mono ?_; rintro e w' ⟨rfl, hbw⟩; obtain ⟨X, d, rfl⟩ := Below.ext_ hbw; clear hbw) | (go_at_call 17; refine (eqSend_any _ _ _ _).mono ?_; rintro e w' ⟨rfl, hbw⟩; obtain ⟨X, d, rfl⟩ := Below.ext_ hbw; clear hbw))
  all_goals go_wp2
  all_goals (go_region_held3 (fun w' => w'.cell? ⟨w.heap.size, 0, none⟩ = some (.int .i64 st) ∧ w'.cell? ⟨w.heap.size, 1, none⟩ = some (.int .i64 nx) ∧ w'.cell? ⟨w.heap.size, 2, none⟩ = some (.int .i64 ak) ∧ w'.cell? ⟨w.heap.size + 1, 0, none⟩ = some (.int .i64 bs) ∧ w'.cell? ⟨w.heap.size + 1, 1, none⟩ = some (.int .i64 bm)) (simp [go_sem]) (first | (go_at_call 19; refine (toSend_any _ _ _ _).mono ?_; rintro e w' ⟨rfl, hbw⟩; obtain ⟨X, d, rfl⟩ := Below.ext_ hbw; clear hbw) | (go_at_call 13; refine (toAck_any _ _ _).mono ?_; rintro e w' ⟨rfl, hbw⟩; obtain ⟨X, d, rfl⟩ := Below.ext_ hbw; clear hbw) | (go_at_call 32; refine (specRecv_any _ _ _ _ _ _).mono ?_; rintro e w' ⟨rfl, hbw⟩; obtain ⟨X, d, rfl⟩ := Below.ext_ hbw; clear hbw) | (go_at_call 33; refine (implRecv_any _ _ _ _ _ _).mono ?_; rintro e w' ⟨rfl, hbw⟩; obtain ⟨X, d, rfl⟩ := Below.ext_ hbw; clear hbw) | (go_at_call 17; refine (eqSend_any _ _ _ _).mono ?_; rintro e w' ⟨rfl, hbw⟩; obtain ⟨X, d, rfl⟩ := Below.ext_ hbw; clear hbw)))
  all_goals (go_wp2_with (first | (go_at_call 19; refine (toSend_any _ _ _ _).mono ?_; rintro e w' ⟨rfl, hbw⟩; obtain ⟨X, d, rfl⟩ := Below.ext_ hbw; clear hbw) | (go_at_call 13; refine (toAck_any _ _ _).mono ?_; rintro e w' ⟨rfl, hbw⟩; obtain ⟨X, d, rfl⟩ := Below.ext_ hbw; clear hbw) | (go_at_call 32; refine (specRecv_any _ _ _ _ _ _).mono ?_; rintro e w' ⟨rfl, hbw⟩; obtain ⟨X, d, rfl⟩ := Below.ext_ hbw; clear hbw) | (go_at_call 33; refine (implRecv_any _ _ _ _ _ _).mono ?_; rintro e w' ⟨rfl, hbw⟩; obtain ⟨X, d, rfl⟩ := Below.ext_ hbw; clear hbw) | (go_at_call 17; refine (eqSend_any _ _ _ _).mono ?_; rintro e w' ⟨rfl, hbw⟩; obtain ⟨X, d, rfl⟩ := Below.ext_ hbw; clear hbw)))
  all_goals go_ret
  all_goals exact ⟨rfl, (by repeat (first | (with_reducible exact Below.refl _ _) | (with_reducible refine Below.ext ?_ (by go_size) _ _) | (with_reducible refine Below.alloc ?_ (by go_size) _) | (with_reducible refine Below.setCell ?_ (by go_size) _) | (with_reducible refine Below.drew ?_) | (with_reducible refine Below.drewN_ ?_ _)))⟩

end Go.Proofs.Ytipcjbmfogijeaa
