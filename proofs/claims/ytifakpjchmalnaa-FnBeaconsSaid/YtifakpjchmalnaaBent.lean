/- l1Bent hands back some bytes in new memory. -/
import Derived.Test.YtifakpjchmalnaaCur
import Derived.Test.YtifakpjchmalnaaCopy
namespace Go.Proofs.Ytifakpjchmalnaa
open Go.RowKit
set_option linter.unusedVariables false
set_option linter.unusedSimpArgs false

def SomeBytes (w : World) (e : Ending) (w' : World) (N : Nat) : Prop := ∃ A' ys c', e = .returned (.slice A' ys.length c') ∧ ys.length ≤ N ∧ (∀ y ∈ ys, 0 ≤ y ∧ y ≤ 255) ∧ Rw false .u8 w' (fun b => w.heap.size ≤ b) A' ys
theorem own_block {w w' : World} {base e size n cap : Nat} {go : Nat} {xs : List Value} (h : w.ownsRow base e size (.slice (some ⟨go, 0, none⟩) n cap) n xs) (hb : w'.heap[go]? = w.heap[go]?) : w'.ownsRow base e size (.slice (some ⟨go, 0, none⟩) n cap) n xs := by
  refine ⟨h.1, h.2.imp id ?_⟩
  rintro ⟨g', cap', cur, hv, h1, h2, h3⟩
  have hg : go = g' := by injection hv with hA; injection hA with hA; injection hA
  subst hg
  exact ⟨go, cap', cur, hv, h1, hb.trans h2, h3⟩
theorem Drew.block {w w' : World} {g n cap : Nat} {A : Option Addr} (h : Drew w g A n cap w') (k : Nat) (hk : k < w.heap.size) (hg : k ≠ g) : w'.heap[k]? = w.heap[k]? := by
  obtain ⟨i, h, X, d, rfl, h0, h1⟩ := h
  rw [World.heap_ext _ _ _ _ (by simpa using hk), World.heap_put_ne _ _ _ _ hg]
theorem Drew.size {w w' : World} {g n cap : Nat} {A : Option Addr} (h : Drew w g A n cap w') : w.heap.size ≤ w'.heap.size := by
  obtain ⟨i, h, X, d, rfl, h0, h1⟩ := h
  simp
theorem bytes_map_mem {xs : List Int} : ∀ v ∈ xs.map (Value.int .u8), v.oneCell' = true := by
  intro v hv; simp at hv; obtain ⟨x, _, rfl⟩ := hv; rfl
theorem Drew.of_grown {w w1 w2 : World} {g n cap : Nat} {A : Option Addr} (hc : Cuu w g A n cap) (hb : Below w.heap.size w w1) (h : Drew w1 g A n cap w2) : Drew w g A n cap w2 := by
  have h1 := hc.drew_below hb
  exact Drew.trans hc.lt h1 h
theorem Drew.and_below {w w1 w2 : World} {g n cap : Nat} {A : Option Addr} (hc : Cuu w g A n cap) (h : Drew w g A n cap w1) (hb : Below w1.heap.size w1 w2) : Drew w g A n cap w2 :=
  Drew.trans hc.lt h ((hc.next h).drew_below hb)
theorem some_of_own {w w' : World} {ys : List Int} {N go oc : Nat} (h : w'.ownsRow w.heap.size 5 1 (.slice (some ⟨go, 0, none⟩) ys.length oc) ys.length (ys.map (Value.int .u8))) (hn : ys.length ≤ N) (hb : ∀ y ∈ ys, 0 ≤ y ∧ y ≤ 255) : SomeBytes w (.returned (.slice (some ⟨go, 0, none⟩) ys.length oc)) w' N :=
  ⟨_, ys, oc, rfl, hn, hb, (Rw.of_own h).read.wider (fun k hk => hk.1)⟩
theorem own_take {w : World} {base e g n cap k : Nat} {xs : List Value} (h : w.ownsRow base e 1 (.slice (some ⟨g, 0, none⟩) n cap) n xs) (hk : k ≤ n) : w.ownsRow base e 1 (.slice (some ⟨g, 0, none⟩) k cap) k (xs.take k) := by
  have hl : xs.length = n := by have := h.1; omega
  refine ⟨by rw [List.length_take]; omega, ?_⟩
  rcases h.2 with ⟨h0, _⟩ | ⟨g', cap', cur, hv, hg, hh, hn, hcap, hsz, htake⟩
  · cases h0
  · injection hv with hA _ hcp
    injection hA with hA
    injection hA with hA
    subst hA hcp
    refine .inr ⟨g, cap, cur, rfl, hg, hh, by omega, hcap, hsz, ?_⟩
    rw [← htake, List.take_take]
    congr 1
    omega
theorem own_cap {w : World} {base e g n cap : Nat} {xs : List Value} (h : w.ownsRow base e 1 (.slice (some ⟨g, 0, none⟩) n cap) n xs) : n ≤ cap ∧ cap ≤ maxLen := by
  rcases h.2 with ⟨h0, _⟩ | ⟨g', cap', cur, hv, hg, hh, hn, hcap, hsz, htake⟩
  · cases h0
  · injection hv with _ _ hcp
    subst hcp
    exact ⟨hn, hcap⟩
theorem u8_wrap (x : Int) : 0 ≤ IntKind.u8.wrap x ∧ IntKind.u8.wrap x ≤ 255 := by rw [IntKind.wrap_u8]; omega

set_option maxRecDepth 8000 in
set_option maxHeartbeats 2000000 in
theorem bent_any {u : Bool} {T : Nat → Prop} (g : Nat) (A : Option Addr) (n cap : Nat) (B : Option Addr) (bc : Nat) (xs : List Int) (w : World) (hcu : Cuu w g A n cap) (hx : Rw u .u8 w T B xs) (hm : xs.length ≤ 1000000) (hb : ∀ x ∈ xs, 0 ≤ x ∧ x ≤ 255) :
    Calls Try.prog 44 #[.pointer (some ⟨g, 0, none⟩), .slice B xs.length bc] w fun e w' => SomeBytes w e w' (xs.length + 1) ∧ Drew w g A n cap w' := by
  obtain ⟨i0, hi, hz0, hz1, hz2⟩ := info_parts infoU8
  have hR := hx.rwF.reads
  have HR := Lib.hid hR
  have HC := Lib.hid hcu
  have HB := Lib.hid hb
  clear hx hR hcu hb
  go_enter Try.func44, Try.ntmps44
  go_wp2_with (first | (at_builtin; refine wpList_append_any _ rfl _ _ 32 rfl w.heap.size 5 i0 (.int .u8 0) 1 1 Try.underlying32 hi hz0 hz1 hz2 rfl (by decide) (.slice (some ⟨w.heap.size, 0, none⟩) 0 0) 0 [] rfl (own_new (Nat.le_refl _) (World.heap_new _ _ _ rfl)) w.heap.size B xs.length bc (xs.map (Value.int .u8)) rfl (HR.out.alloc (Nat.le_refl _) _) ?c1 ?c2 ?c3 ?c4 ?_))
  case c1 => exact bytes_map_mem
  case c2 => unfold maxLen; omega
  case c3 => omega
  case c4 => simp
  intro v' w1 hown' hgrow hnil
  obtain ⟨go, oc, rfl, hgo⟩ := own_some hown' (by intro h; simp [h, Value.ownBlock] at hnil)
  have hbe : Below w.heap.size w w1 := ((Below.refl _ _).alloc (Nat.le_refl _) _).grown hgrow (by simp) (by intro k hk; simp [Value.ownBlock] at hk; omega)
  have HBE := Lib.hid hbe
  have hown1 : w1.ownsRow w.heap.size 5 1 (.slice (some ⟨go, 0, none⟩) xs.length oc) xs.length (xs.map (Value.int .u8)) := by simpa using hown'
  have HO := Lib.hid hown1
  clear hown' hgrow hnil hbe hown1
  have HC1 : Hid (Cuu w1 g A n cap) := Lib.hid (HC.out.of_below HBE.out)
  go_wp2_with fail
  refine (belowC g A n cap _ _ (by omega) HC1.out).mono ?_
  rintro e w2 ⟨x, rfl, hx0, hx1, hx2, hd⟩
  have hx3 := hx2 (by omega)
  clear hx2
  have HD := Lib.hid hd
  have hgl := own_lt HO.out
  have hgne : go ≠ g := by have := HC.out.lt; omega
  have HO2 : Hid (w2.ownsRow w.heap.size 5 1 (.slice (some ⟨go, 0, none⟩) xs.length oc) xs.length (xs.map (Value.int .u8))) := Lib.hid (own_block HO.out (hd.block go hgl hgne))
  have HC2 : Hid (Cuu w2 g A n cap) := Lib.hid (HC1.out.next hd)
  have HD2 : Hid (Drew w g A n cap w2) := Lib.hid (Drew.of_grown HC.out HBE.out hd)
  have hgl2 : go < w2.heap.size := Nat.lt_of_lt_of_le hgl hd.size
  have hws := HBE.out.size
  clear hd
  by_cases hx1 : x = 0
  · subst hx1
    by_cases hpos : 0 < xs.length
    · go_wp2_with fail
      refine (belowC g A n cap _ _ (by omega) HC2.out).mono ?_
      rintro e w3 ⟨y, rfl, hy0, _, hy2, hd⟩
      have hy3 := hy2 (by omega)
      clear hy2
      have HO3 : Hid (w3.ownsRow w.heap.size 5 1 (.slice (some ⟨go, 0, none⟩) xs.length oc) xs.length (xs.map (Value.int .u8))) := Lib.hid (own_block HO2.out (hd.block go hgl2 hgne))
      have HC3 : Hid (Cuu w3 g A n cap) := Lib.hid (HC2.out.next hd)
      have HD3 : Hid (Drew w g A n cap w3) := Lib.hid (Drew.trans HC.out.lt HD2.out hd)
      have hgl3 : go < w3.heap.size := Nat.lt_of_lt_of_le hgl2 hd.size
      clear hd
      go_wp2_with fail
      refine (belowC g A n cap _ _ (by omega) HC3.out).mono ?_
      rintro e w4 ⟨z, rfl, hz0, _, hz2, hd⟩
      have hz3 := hz2 (by omega)
      clear hz2
      have HO4 : Hid (w4.ownsRow w.heap.size 5 1 (.slice (some ⟨go, 0, none⟩) xs.length oc) xs.length (xs.map (Value.int .u8))) := Lib.hid (own_block HO3.out (hd.block go hgl3 hgne))
      have HC4 : Hid (Cuu w4 g A n cap) := Lib.hid (HC3.out.next hd)
      have HD4 : Hid (Drew w g A n cap w4) := Lib.hid (Drew.trans HC.out.lt HD3.out hd)
      clear hd
      obtain ⟨k, rfl⟩ := Int.eq_ofNat_of_zero_le hy0
      have hk : k < xs.length := by omega
      have hcell : w4.cell? ⟨go, k, none⟩ = some (.int .u8 xs[k]) := by
        rw [HO4.out.cellAt k (by omega), List.getElem?_map, List.getElem?_eq_getElem hk]; rfl
      have hfr : w4.frozen? ⟨go, k, none⟩ = false := HO4.out.frozenAt k
      generalize xs[k] = xk at hcell
      go_wp2
      go_ret
      have hst := HO4.out.stored k (.int .u8 (IntKind.u8.wrap z))
      have hset : (xs.map (Value.int .u8)).set k (.int .u8 (IntKind.u8.wrap z)) = (xs.set k (IntKind.u8.wrap z)).map (Value.int .u8) := by rw [List.map_set]
      have hl : (xs.set k (IntKind.u8.wrap z)).length = xs.length := List.length_set
      rw [hset] at hst
      have hz4 : IntKind.u8.wrap z = z := by rw [IntKind.wrap_u8]; omega
      rw [hz4] at hst hl
      refine ⟨?_, ?_⟩
      · have h5 := some_of_own (N := xs.length + 1) (ys := xs.set k z) (go := go) (oc := oc) (by rw [hl]; exact hst.1) (by omega) (fun y hy => by
          rcases List.mem_or_eq_of_mem_set hy with h | rfl
          · exact HB.out y h
          · omega)
        rw [hl] at h5
        exact h5
      · obtain ⟨i', h', X, d, rfl, a0, a1⟩ := HD4.out
        refine ⟨i', h', ?_⟩
        have hge : (World.put w g (curO A n cap i' h')).heap.size ≤ go := by simpa using hgo
        have hbb : Below (World.put w g (curO A n cap i' h')).heap.size (World.put w g (curO A n cap i' h')) ((World.ext (World.put w g (curO A n cap i' h')) X d).setCell ⟨go, k, none⟩ (.int .u8 z)) :=
          (Below.ext (Below.refl _ _) (Nat.le_refl _) X d).setCell hge _
        obtain ⟨X', d', e'⟩ := Below.ext_ hbb
        exact ⟨X', d', e', a0, a1⟩
    · obtain rfl : xs = [] := List.eq_nil_of_length_eq_zero (by omega)
      go_wp2
      go_ret
      exact ⟨some_of_own (ys := []) HO2.out (by simp) (by simp), HD2.out⟩
  · by_cases hx2 : x = 1
    · subst hx2
      go_wp2_with fail
      refine (belowC g A n cap _ _ (by omega) HC2.out).mono ?_
      rintro e w3 ⟨y, rfl, hy0, _, hy2, hd⟩
      have hy3 := hy2 (by omega)
      clear hy2
      have HO3 : Hid (w3.ownsRow w.heap.size 5 1 (.slice (some ⟨go, 0, none⟩) xs.length oc) xs.length (xs.map (Value.int .u8))) := Lib.hid (own_block HO2.out (hd.block go hgl2 hgne))
      have HD3 : Hid (Drew w g A n cap w3) := Lib.hid (Drew.trans HC.out.lt HD2.out hd)
      clear hd
      obtain ⟨k, rfl⟩ := Int.eq_ofNat_of_zero_le hy0
      have hk : k ≤ xs.length := by omega
      have hcp := (own_cap HO3.out).1
      have hkc : (k : Int) ≤ (oc : Int) := by omega
      go_wp2
      go_ret
      have hl : (xs.take k).length = k := by rw [List.length_take]; omega
      have h5 := own_take HO3.out hk
      rw [← List.map_take] at h5
      have h6 := some_of_own (N := xs.length + 1) (ys := xs.take k) (go := go) (oc := oc) (by rw [hl]; exact h5) (by omega) (fun y hy => HB.out y (List.mem_of_mem_take hy))
      rw [hl] at h6
      exact ⟨h6, HD3.out⟩
    · by_cases hx3 : x = 2
      · subst hx3
        go_wp2_with fail
        refine (intX (A := A) (n := n) (cap := cap) (by simp) HC2.out ⟨[_, _, _, _], rfl, rfl, by simp, by simp⟩).mono ?_
        rintro e w3 ⟨y, rfl, hd⟩
        have HO2' : Hid ((w2.alloc (.cells #[.int .i64 0, .int .i64 1, .int .i64 128, .int .i64 255] 3)).ownsRow w.heap.size 5 1 (.slice (some ⟨go, 0, none⟩) xs.length oc) xs.length (xs.map (Value.int .u8))) := Lib.hid (HO2.out.alloc _)
        have HO3 : Hid (w3.ownsRow w.heap.size 5 1 (.slice (some ⟨go, 0, none⟩) xs.length oc) xs.length (xs.map (Value.int .u8))) := Lib.hid (own_block HO2'.out (hd.block go (by simp; omega) hgne))
        have HD3 : Hid (Drew w g A n cap w3) := Lib.hid (Drew.trans HC.out.lt (Drew.and_below HC.out HD2.out ((Below.refl _ _).alloc (Nat.le_refl _) _)) hd)
        clear hd
        have hw3 : w.heap.size ≤ w3.heap.size := by have := HD3.out.size; exact this
        have hown := HO3.out
        have hyb := u8_wrap y
        go_wp2_with (first | (at_builtin; refine wpList_append_own _ rfl _ _ 32 rfl w.heap.size 5 i0 (.int .u8 0) 1 1 Try.underlying32 hi hz0 hz1 hz2 rfl (by decide) _ _ _ rfl (hown.alloc _) ⟨w3.heap.size, 0, none⟩ 1 1 [.int .u8 (IntKind.u8.wrap y)] rfl rfl ?f1 ?f2 ?f3 ?f4 ?f5 ?_))
        case f1 =>
          intro j u hj
          match j, hj with
          | 0, hj => simp at hj; subst hj; simp [Addr.add, go_sem, IntKind.wrap_u8]
        case f2 => intro u hu; simp at hu; subst hu; rfl
        case f3 => unfold maxLen; omega
        case f4 => omega
        case f5 => simp; omega
        · intro v' w4 hown' hgrow hnil
          obtain ⟨go', oc', rfl, hgo'⟩ := own_some hown' (by intro h; simp [h, Value.ownBlock] at hnil)
          have hD4 : Drew w g A n cap w4 := by
            obtain ⟨i', h', X, d, e3, a0, a1⟩ := HD3.out
            have hbb : Below (World.put w g (curO A n cap i' h')).heap.size (World.put w g (curO A n cap i' h')) w4 := by
              rw [e3] at hgrow
              exact ((Below.ext (Below.refl _ _) (Nat.le_refl _) X d).alloc (by simp) _).grown hgrow (by simp; omega) (by intro k hk; have := own_ge hown k hk; simpa using this)
            obtain ⟨X', d', e'⟩ := Below.ext_ hbb
            exact ⟨i', h', X', d', e', a0, a1⟩
          go_wp2
          go_ret
          refine ⟨?_, hD4⟩
          have h5 := some_of_own (N := xs.length + 1) (ys := xs ++ [IntKind.u8.wrap y]) (go := go') (oc := oc') (by simpa using hown') (by simp) (fun z hz => by
            rcases List.mem_append.1 hz with h | h
            · exact HB.out z h
            · simp at h; subst h; exact u8_wrap y)
          simpa using h5
      · go_wp2
        go_ret
        exact ⟨some_of_own HO2.out (by omega) HB.out, HD2.out⟩

end Go.Proofs.Ytifakpjchmalnaa
