/- The reference's reader: Text. -/
import Derived.Test.YtgmienlifnpniaaRRd2
namespace Go.Proofs.Ytgmienlifnpniaa
open Go.RowKit
set_option linter.unusedSimpArgs false

theorem ReadsB.sub {w : World} {B : Nat} {ad : Addr} {l : List UInt8} (h : ReadsB w B (some ad) l) (lo n : Nat) (hn : lo + n ≤ l.length) : ReadsB w B (some (ad.add lo)) ((l.drop lo).take n) := by
  refine ⟨by simp, fun h0 => ?_⟩
  rw [List.length_take, List.length_drop] at h0
  obtain ⟨ad', e, hb, hc⟩ := h.2 (by omega)
  obtain rfl := Option.some.inj e
  refine ⟨_, rfl, by rw [block_of_add]; exact hb, fun j u hu => ?_⟩
  rw [add_of_add]
  refine hc _ u ?_
  rw [List.map_take, List.map_drop, List.getElem?_take] at hu
  split at hu
  · rw [← hu, List.getElem?_drop]
  · cases hu
theorem sub_str {w : World} {B c : Nat} {ad : Addr} {l : List UInt8} (h : ReadsB w B (some ad) l) (lo n : Nat) (hn : lo + n ≤ l.length) : (convert 23 9 (.slice (some (ad.add lo)) n c)).run Try.prog w = .ok (.string ⟨((l.drop lo).take n).toArray⟩) w :=
  run_str (by simp; omega) (h.sub lo n hn)
theorem none_str {w : World} {A : Option Addr} {c : Nat} : (convert 23 9 (.slice A 0 c)).run Try.prog w = .ok (.string ⟨#[]⟩) w :=
  run_str (B := 0) (l := []) rfl ⟨rfl, fun h => absurd h (by decide)⟩

set_option maxRecDepth 100000 in
set_option maxHeartbeats 4000000 in
theorem rtextR_any {w : World} {B g c a : Nat} {A : Option Addr} {l : List UInt8} {M : Nat} (h : RR w B g A c l a) (hM : M < 9223372036854775808) :
    Calls Try.prog 94 #[.pointer (some ⟨g, 0, none⟩), .int .i64 (M : Int)] w (RReads strV (strV []) (Wire.text (M : Int) (l.drop a)) w B g A c l a) := by
  have c1 := h.c1
  have hle := h.le
  have hll := h.len
  have hcap := h.cap2
  have hcap1 := h.cap
  unfold maxLen at hcap
  have hk : (l.drop a).length = l.length - a := List.length_drop
  have Hh := Lib.hid h
  cases hn : Wire.num (l.drop a) with
  | err k =>
    have Hs := Lib.hid (show Wire.text (M : Int) (l.drop a) = .err k by unfold Wire.text; rw [if_neg (by omega), hn])
    have H1 := Lib.hid ((rnumber_any h).mono fun e w' hh => rreads_err' hn hh)
    have hc := Wire.numGo_err _ _ _ _ _ hn
    clear hn h
    rcases hc with rfl | rfl
    all_goals
      go_enter Try.func94, Try.ntmps94
      go_wp2_with (go_at_call 73; refine H1.out.mono ?_; rintro e w1 ⟨rfl, hr1, hg1⟩; have f1' := hr1.f1; have c1' := hr1.c1)
      go_ret2
      exact rreads_err Hs.out ⟨rfl, hr1.go a hle, only_setCell (p := ⟨g, 1, none⟩) hg1 (.inl rfl) _⟩
  | ok n k =>
    obtain ⟨hn1, hn2, hn3⟩ := Wire.num_bd hn
    have H1 := Lib.hid ((rnumber_any h).mono fun e w' hh => rreads_ok' hn hh)
    by_cases h3 : M < n
    · have Hs := Lib.hid (show Wire.text (M : Int) (l.drop a) = .err 3 by unfold Wire.text; rw [if_neg (by omega), hn]; exact if_pos (by omega))
      have h3' : (M : Int) < (n : Int) := by omega
      clear hn h
      go_enter Try.func94, Try.ntmps94
      go_wp2_with (go_at_call 73; refine H1.out.mono ?_; rintro e w1 ⟨rfl, hr1, hg1⟩; have f1' := hr1.f1; have c1' := hr1.c1)
      go_ret2
      exact rreads_err Hs.out ⟨rfl, hr1.go a hle, only_setCell (p := ⟨g, 1, none⟩) hg1 (.inl rfl) _⟩
    · by_cases h4 : l.length - (a + k) < n
      · have Hs := Lib.hid (show Wire.text (M : Int) (l.drop a) = .err 110 by unfold Wire.text; rw [if_neg (by omega), hn]; simp only; rw [if_neg (by omega), if_pos (by omega)])
        have h3' : (n : Int) ≤ (M : Int) := by omega
        have h4' : ((l.length - (a + k) : Nat) : Int) < (n : Int) := by omega
        have h5 : ((l.length - (a + k) : Nat) : Int) ≤ 140737488355328 := by omega
        have HL := Lib.hid fun w' (h' : RR w' B g A c l (a + k)) => rleft_any h'
        generalize l.length - (a + k) = m at *
        clear hn h hn3 hk h4
        go_enter Try.func94, Try.ntmps94
        go_wp2_with (first | (go_at_call 73; refine H1.out.mono ?_; rintro e w1 ⟨rfl, hr1, hg1⟩; have f1' := hr1.f1; have c1' := hr1.c1) | (go_at_call 48; refine (HL.out _ hr1).mono ?_; rintro e w2 ⟨rfl, kq, rfl⟩))
        go_ret2
        exact rreads_err Hs.out ⟨rfl, (hr1.drewN kq).go a hle, only_setCell (p := ⟨g, 1, none⟩) (only_drewN hg1 kq) (.inl rfl) _⟩
      · have Hs := Lib.hid (show Wire.text (M : Int) (l.drop a) = .ok (((l.drop a).drop k).take n) (k + n) by unfold Wire.text; rw [if_neg (by omega), hn]; simp only; rw [if_neg (by omega), if_neg (by omega)])
        have h3' : (n : Int) ≤ (M : Int) := by omega
        have h4' : (n : Int) ≤ ((l.length - (a + k) : Nat) : Int) := by omega
        have h5 : ((l.length - (a + k) : Nat) : Int) ≤ 140737488355328 := by omega
        have HL := Lib.hid fun w' (h' : RR w' B g A c l (a + k)) => rleft_any h'
        obtain ⟨ad, rfl, hb⟩ := h.bytes (by omega)
        have hpn : a + k + n ≤ l.length := by omega
        have Hdd := Lib.hid (show (l.drop a).drop k = l.drop (a + k) by rw [List.drop_drop])
        have hak := Lib.hid (show a + (k + n) = a + k + n by omega)
        generalize l.length - (a + k) = m at *
        clear hn h hn3 hk h4 hb h3 hn2
        generalize a + k = p at *
        have hpn2 : (p : Int) + n ≤ 140737488355328 := by omega
        go_enter Try.func94, Try.ntmps94
        go_wp2_with fail
        refine H1.out.mono ?_
        rintro e w1 ⟨rfl, hr1, hg1⟩
        have f1' := hr1.f1
        have c1' := hr1.c1
        go_wp2_with fail
        refine (HL.out _ hr1).mono ?_
        rintro e w2 ⟨rfl, kq, rfl⟩
        go_wp2_with fail
        have hr2 := (hr1.drewN kq).go (p + n) hpn
        rw [show (((p + n : Nat) : Nat) : Int) = (p : Int) + n by omega] at hr2
        have c0' := hr1.c0
        have s1 : IntKind.i64.wrap ((p : Int) + n - n) = (p : Int) := by rw [IntKind.wrap_i64]; omega
        have s6 : IntKind.i64.wrap (n : Int) = (n : Int) := by rw [IntKind.wrap_i64]; omega
        have s9 : IntKind.i64.wrap (p : Int) = (p : Int) := by rw [IntKind.wrap_i64]; omega
        have s10 : p + n - p = n := by omega
        have s2 : (0 : Int) ≤ p := by omega
        have s3 : (p : Int) ≤ (p : Int) + n := by omega
        have s4 : (p : Int) + n ≤ c := by omega
        have s5 : ((p : Int) + n).toNat = p + n := by omega
        by_cases hcp : c = p
        · have hn0 : n = 0 := by omega
          subst hn0 hcp
          have hs := fun m => none_str (w := ((w1.drewN kq).setCell ⟨g, 1, none⟩ (.int .i64 (c : Int))).drewN m) (A := some ad) (c := 0)
          have hr3 : RR ((w1.drewN kq).setCell ⟨g, 1, none⟩ (.int .i64 (c : Int))) B g (some ad) c l c := by
            have := (hr1.drewN kq).go c (by omega)
            exact this
          clear hr2
          go_quiet (fail)
          go_wp2
          go_ret2
          refine rreads_ok Hs.out ⟨rfl, ?_, ?_⟩
          · rw [hak.out]; exact hr3.drewN _
          · exact only_drewN (only_setCell (p := ⟨g, 1, none⟩) (only_drewN hg1 kq) (.inl rfl) _) _
        · have hs := fun m => sub_str (w := ((w1.drewN kq).setCell ⟨g, 1, none⟩ (.int .i64 ((p : Int) + n))).drewN m) (c := c - p) hr2.read p n hpn
          go_quiet (fail)
          go_wp2
          go_ret2
          refine rreads_ok Hs.out ⟨?_, ?_, ?_⟩
          · rw [Hdd.out]; rfl
          · rw [hak.out]; exact hr2.drewN _
          · exact only_drewN (only_setCell (p := ⟨g, 1, none⟩) (only_drewN hg1 kq) (.inl rfl) _) _
end Go.Proofs.Ytgmienlifnpniaa
