/- wire.Take of numbers. -/
import Derived.Test.YtgmienlifnpniaaRdText
namespace Go.Proofs.Ytgmienlifnpniaa
open Go.RowKit
set_option linter.unusedSimpArgs false
namespace Wire
/-- so many numbers, one behind the other -/
def nums : Nat → List UInt8 → List Nat → Nat → Res (List Nat)
  | 0, _, acc, k => .ok acc k
  | m + 1, r, acc, k => match num r with
    | .err c => .err c
    | .ok x j => nums m (r.drop j) (acc ++ [x]) (k + j)
/-- a list of numbers, of at most so many -/
def take_ (most : Int) (r : List UInt8) : Res (List Nat) :=
  if most < 0 then .err 2 else
  match num r with
  | .err c => .err c
  | .ok n k => if most < (n : Int) then .err 3 else nums n (r.drop k) [] k
theorem nums_err : ∀ (m : Nat) {r : List UInt8} {acc : List Nat} {k c : Nat}, nums m r acc k = .err c → c = 110 ∨ c = 111
  | 0, _, _, _, _, h => by simp [nums] at h
  | m + 1, r, acc, k, c, h => by
    unfold nums at h
    split at h
    · rename_i hn
      injection h with h
      subst h
      exact numGo_err _ _ _ _ _ hn
    · exact nums_err m h
theorem take_err {most : Int} {r : List UInt8} {c : Nat} (h : take_ most r = .err c) : c ≠ 0 := by
  unfold take_ at h
  split at h
  · injection h with h; omega
  · split at h
    · rename_i hn
      injection h with h
      subst h
      rcases numGo_err _ _ _ _ _ hn with rfl | rfl <;> omega
    · split at h
      · injection h with h; omega
      · rcases nums_err _ h with rfl | rfl <;> omega
end Wire

def uv (n : Nat) : Value := .int .u64 (n : Int)
theorem uv_one (l : List Nat) : ∀ u ∈ l.map uv, u.oneCell' = true := by
  intro u hu
  obtain ⟨b, _, rfl⟩ := List.mem_map.1 hu
  rfl
/-- new numbers -/
def OwnU (w : World) (B : Nat) (v : Value) (l : List Nat) : Prop := w.ownsRow B 22 1 v l.length (l.map uv)
theorem infoU : (Try.prog.info? 22).map (fun i => (i.zero, i.size, i.bytes)) = some (some (.int .u64 0), 1, 8) := by kernel_rfl
theorem OwnU.form {w : World} {B : Nat} {v : Value} {l : List Nat} (h : OwnU w B v l) : ∃ A c, v = .slice A l.length c ∧ l.length ≤ c := by
  rcases h.2 with ⟨rfl, h0⟩ | ⟨g, cap, cur, rfl, _, _, hc, _⟩
  · exact ⟨none, 0, by rw [h0], by omega⟩
  · exact ⟨_, cap, rfl, hc⟩
theorem OwnU.len {w : World} {B n c : Nat} {A : Option Addr} {l : List Nat} (h : OwnU w B (.slice A n c) l) : n = l.length := by
  obtain ⟨A', c', e, _⟩ := h.form
  injection e
theorem OwnU.base {w : World} {B : Nat} {v : Value} {l : List Nat} (h : OwnU w B v l) {k : Nat} (hk : v.ownBlock = some k) : B ≤ k := by
  rcases h.2 with ⟨rfl, _⟩ | ⟨g, cap, cur, rfl, hb, _⟩
  · cases hk
  · have : g = k := Option.some.inj hk
    omega
theorem OwnU.grown {w w' : World} {B g : Nat} {v : Value} {l : List Nat} (h : OwnU w B v l) (hg : w.grownBy w' (some g)) (hB : g < B) : OwnU w' B v l :=
  World.ownsRow.kept h hg (by
    rcases hv : v.ownBlock with _ | k
    · exact .inl rfl
    · refine .inr fun e => ?_
      have := h.base hv
      have : k = g := Option.some.inj e
      omega)
theorem OwnU.kept {w w' : World} {B : Nat} {v : Value} {l : List Nat} (h : OwnU w B v l) (hb : Below w.heap.size w w') : OwnU w' B v l := by
  refine ⟨h.1, ?_⟩
  rcases h.2 with h' | ⟨g, cap, cur, hv, hg, hh, r⟩
  · exact .inl h'
  · exact .inr ⟨g, cap, cur, hv, hg, (hb.block g (lt_of_block hh)).trans hh, r⟩
theorem OwnU.alloc {w : World} {B : Nat} {v : Value} {l : List Nat} (h : OwnU w B v l) (o : Obj) : OwnU (w.alloc o) B v l := World.ownsRow.alloc h o
theorem OwnU.at_ {w : World} {B n c : Nat} {A : Option Addr} {l : List Nat} (h : OwnU w B (.slice A n c) l) (h0 : 0 < n) : ∃ bb, A = some ⟨bb, 0, none⟩ ∧ ∀ j (hj : j < l.length), w.cell? ⟨bb, j, none⟩ = some (uv l[j]) := by
  rcases h.2 with ⟨hv, h1⟩ | ⟨bb, cap, cur, hv, _⟩
  · injection hv with h2 h3
    omega
  · injection hv with h2 h3 h4
    subst h2 h4
    have hn := h.len
    subst hn
    refine ⟨bb, rfl, fun j hj => ?_⟩
    rw [World.ownsRow.cellAt h j (by omega)]
    simp [hj]
theorem ownU_lit (w : World) (x : Nat) : Reads (w.alloc (.cells #[uv x] 22)) (w.heap.size + 1) 1 (some ⟨w.heap.size, 0, none⟩) 1 [uv x] := by
  refine ⟨rfl, fun _ => ⟨_, rfl, Nat.lt_succ_self _, fun j u hu => ?_⟩⟩
  have hj : j = 0 := by
    have := (List.getElem?_eq_some_iff.1 hu).1
    simp at this
    exact this
  subst hj
  rw [Addr.add_lit, ← hu]
  exact (Blk.new w 22 #[uv x]).cell 0

theorem wpU_append {w : World} {ops : Array Oper} {rest : List Oper} {o : Oper} {a : Act} {Q : Exit → Act → World → Prop} (hgd : o.guard = none) (s x : Operand)
    (ho : o.op = .call { callee := .builtin .append, args := #[s, x], argTypes := #[153, 153] }) (B : Nat) (v : Value) (l : List Nat) (hown : OwnU w B v l) (hs : a.eval s = v)
    (B' : Nat) (A : Option Addr) (y : Nat) (hr : Reads w B' 1 A 1 [uv y]) (c : Nat) (hx : a.eval x = .slice A 1 c) (hlen : l.length + 1 ≤ 17592186044416) (hbase : B ≤ w.heap.size)
    (h : ∀ A' n' c' w', OwnU w' B (.slice A' n' c') (l ++ [y]) → w.grownBy w' v.ownBlock → wpList Try.prog ops Q rest (a.put o.dst (.slice A' n' c')) w') :
    wpList Try.prog ops Q (o :: rest) a w := by
  obtain ⟨i0, hi, hz0, hz1, hz2⟩ := info_parts infoU
  refine wpList_append_any w hgd s x 153 ho B 22 i0 (.int .u64 0) 1 8 Try.underlying153 hi hz0 hz1 hz2 rfl (by decide) v l.length (l.map uv) hs hown B' A 1 c [uv y] hx hr (by intro u hu; simp at hu; subst hu; rfl) (by unfold maxLen; omega) (by omega) hbase ?_
  intro v' w' h1 h2 _
  have h4 : OwnU w' B v' (l ++ [y]) := by
    unfold OwnU
    rw [List.length_append, List.map_append]
    exact h1
  obtain ⟨A', c', rfl, _⟩ := h4.form
  exact h A' _ c' w' h4 h2

theorem only_own {a w w' : World} {g : Nat} {r : Option Nat} (h : a.grownBy w (some g)) (hb : ∀ k, r = some k → a.heap.size ≤ k) (hg : w.grownBy w' r) : a.grownBy w' (some g) :=
  ⟨hg.os.trans h.os, hg.tape.trans h.tape, hg.output.trans h.output, Nat.le_trans h.size hg.size, fun i hi hne => (hg.block i (Nat.lt_of_lt_of_le hi h.size) (fun e => by have := hb i e.symm; omega)).trans (h.block i hi hne)⟩
theorem Rd.far_row {w w' : World} {B g : Nat} {v : Value} {l : List UInt8} {a a' : Nat} {w0 : World} {r : Option Nat} (h0 : Rd w0 B g v l a) (h : Rd w B g v l a') (hb : ∀ k, r = some k → w0.heap.size ≤ k) (hg : w.grownBy w' r) : Rd w' B g v l a' := by
  have hgl := h0.blk.lt
  refine ⟨h.base, h.blk.grown hg (fun e => ?_), h.own.grown hg ?_, h.yes, h.le, h.len⟩
  · have := hb g e.symm
    omega
  · rcases hv : v.ownBlock with _ | k
    · exact .inr rfl
    · refine .inl fun e => ?_
      have h1 := World.ownsRow.lt h0.own k hv
      have h2 := hb k e.symm
      omega

/-- what Take (and the function within) leaves -/
def TakeIn (res : Wire.Res (List Nat)) (w : World) (B g : Nat) (v : Value) (l : List UInt8) (a : Nat) (e : Ending) (w' : World) : Prop :=
  match res with
  | .err c => ∃ a', e = .returned (.tuple #[.slice none 0 0, .int .i64 (c : Int)]) ∧ Rd w' B g v l a' ∧ w.grownBy w' (some g)
  | .ok xs k => ∃ A n c, e = .returned (.tuple #[.slice A n c, .int .i64 0]) ∧ OwnU w' w.heap.size (.slice A n c) xs ∧ Rd w' B g v l (a + k) ∧ w.grownBy w' (some g)
def TakeR (res : Wire.Res (List Nat)) (w : World) (B g : Nat) (v : Value) (l : List UInt8) (a : Nat) (e : Ending) (w' : World) : Prop :=
  match res with
  | .err c => e = .returned (.tuple #[.slice none 0 0, .int .i64 (c : Int)]) ∧ Rd w' B g v l a ∧ w.grownBy w' (some g)
  | .ok xs k => ∃ A n c, e = .returned (.tuple #[.slice A n c, .int .i64 0]) ∧ OwnU w' w.heap.size (.slice A n c) xs ∧ Rd w' B g v l (a + k) ∧ w.grownBy w' (some g)
section
variable {res : Wire.Res (List Nat)} {w w' : World} {B g c a : Nat} {v : Value} {l : List UInt8} {e : Ending}
theorem takein_err {k : Nat} (h : res = .err k) (h2 : ∃ a', e = .returned (.tuple #[.slice none 0 0, .int .i64 (k : Int)]) ∧ Rd w' B g v l a' ∧ w.grownBy w' (some g)) : TakeIn res w B g v l a e w' := by subst h; exact h2
theorem takein_ok {xs : List Nat} {k : Nat} (h : res = .ok xs k) (h2 : ∃ A n c, e = .returned (.tuple #[.slice A n c, .int .i64 0]) ∧ OwnU w' w.heap.size (.slice A n c) xs ∧ Rd w' B g v l (a + k) ∧ w.grownBy w' (some g)) : TakeIn res w B g v l a e w' := by subst h; exact h2
theorem takein_err' {k : Nat} (h : res = .err k) (h2 : TakeIn res w B g v l a e w') : ∃ a', e = .returned (.tuple #[.slice none 0 0, .int .i64 (k : Int)]) ∧ Rd w' B g v l a' ∧ w.grownBy w' (some g) := by subst h; exact h2
theorem takein_ok' {xs : List Nat} {k : Nat} (h : res = .ok xs k) (h2 : TakeIn res w B g v l a e w') : ∃ A n c, e = .returned (.tuple #[.slice A n c, .int .i64 0]) ∧ OwnU w' w.heap.size (.slice A n c) xs ∧ Rd w' B g v l (a + k) ∧ w.grownBy w' (some g) := by subst h; exact h2
theorem taker_err {k : Nat} (h : res = .err k) (h2 : e = .returned (.tuple #[.slice none 0 0, .int .i64 (k : Int)]) ∧ Rd w' B g v l a ∧ w.grownBy w' (some g)) : TakeR res w B g v l a e w' := by subst h; exact h2
theorem taker_ok {xs : List Nat} {k : Nat} (h : res = .ok xs k) (h2 : ∃ A n c, e = .returned (.tuple #[.slice A n c, .int .i64 0]) ∧ OwnU w' w.heap.size (.slice A n c) xs ∧ Rd w' B g v l (a + k) ∧ w.grownBy w' (some g)) : TakeR res w B g v l a e w' := by subst h; exact h2
theorem taker_err' {k : Nat} (h : res = .err k) (h2 : TakeR res w B g v l a e w') : e = .returned (.tuple #[.slice none 0 0, .int .i64 (k : Int)]) ∧ Rd w' B g v l a ∧ w.grownBy w' (some g) := by subst h; exact h2
theorem taker_ok' {xs : List Nat} {k : Nat} (h : res = .ok xs k) (h2 : TakeR res w B g v l a e w') : ∃ A n c, e = .returned (.tuple #[.slice A n c, .int .i64 0]) ∧ OwnU w' w.heap.size (.slice A n c) xs ∧ Rd w' B g v l (a + k) ∧ w.grownBy w' (some g) := by subst h; exact h2
end

theorem Blk.keep1g {w w' : World} {b g : Nat} {t : TypeId} {u : Value} (h : Blk w b t #[u]) (hg : w.grownBy w' (some g)) (hne : b ≠ g) : w'.cell? ⟨b, 0, none⟩ = some u :=
  (h.grown hg (fun e => hne (Option.some.inj e))).cell 0

set_option maxRecDepth 100000 in
set_option maxHeartbeats 4000000 in
theorem take1_any {w : World} {B g bm bx bf : Nat} {v : Value} {l : List UInt8} {a : Nat} {most : Int} (h : Rd w B g v l a) (hbm : Blk w bm 3 #[.int .i64 most]) (hbx : Blk w bx 61 #[.pointer (some ⟨g, 0, none⟩)]) (hbf : Blk w bf 156 #[.func (.func 39) #[] #[]])
    (hm : most < 9223372036854775808) (hll : l.length ≤ 1048577) :
    Calls Try.prog 100 #[.pointer (some ⟨bm, 0, none⟩), .pointer (some ⟨bx, 0, none⟩), .pointer (some ⟨bf, 0, none⟩)] w (TakeIn (Wire.take_ most (l.drop a)) w B g v l a) := by
  have cx := hbx.cell 0
  have cm := hbm.cell 0
  have cf := hbf.cell 0
  by_cases hneg : most < 0
  · have Hs := Lib.hid (show Wire.take_ most (l.drop a) = .err 2 from if_pos hneg)
    go_enter Try.func100, Try.ntmps100
    go_wp2
    go_ret2
    exact takein_err Hs.out ⟨_, rfl, h, World.grownBy.refl w _⟩
  obtain ⟨M, rfl⟩ := Int.eq_ofNat_of_zero_le (show 0 ≤ most by omega)
  have hm2 : (M : Int) ≤ 9223372036854775807 := by omega
  clear hm
  have hxg := Lib.hid (hbx.ne_ h.blk (by decide))
  have hmg := Lib.hid (hbm.ne_ h.blk (by decide))
  have hfg := Lib.hid (hbf.ne_ h.blk (by decide))
  have Hx := Lib.hid hbx
  have Hm := Lib.hid hbm
  have Hf := Lib.hid hbf
  have hgl := h.blk.lt
  have Hh := Lib.hid h
  cases hn : Wire.num (l.drop a) with
  | err c =>
    have Hs := Lib.hid (show Wire.take_ (M : Int) (l.drop a) = .err c by unfold Wire.take_; rw [if_neg hneg, hn])
    have H1 := Lib.hid (number_err h hn)
    have hc := Wire.numGo_err _ _ _ _ _ hn
    clear hn hbx hbm hbf h
    rcases hc with rfl | rfl
    all_goals
      go_enter Try.func100, Try.ntmps100
      go_wp2_with (go_at_call 39; refine H1.out.mono ?_; rintro e w1 ⟨rfl, hr1, hg1⟩)
      go_ret2
      exact takein_err Hs.out ⟨_, rfl, hr1, hg1⟩
  | ok n k =>
    have H1 := Lib.hid (number_ok h hn)
    obtain ⟨hn1, hn2, hn3⟩ := Wire.num_bd hn
    have hk : (l.drop a).length = l.length - a := List.length_drop
    have hle := h.le
    by_cases h3 : (M : Int) < (n : Int)
    · have Hs := Lib.hid (show Wire.take_ (M : Int) (l.drop a) = .err 3 by unfold Wire.take_; rw [if_neg hneg, hn]; exact if_pos h3)
      clear hn hbx hbm hbf hn3 h
      go_enter Try.func100, Try.ntmps100
      go_wp2_with (go_at_call 39; refine H1.out.mono ?_; rintro e w1 ⟨rfl, hr1, hg1⟩; have cm1 := Hm.out.keep1g hg1 hmg.out)
      go_ret2
      exact takein_err Hs.out ⟨_, rfl, hr1, hg1⟩
    · have Hs := Lib.hid (show Wire.take_ (M : Int) (l.drop a) = Wire.nums n (l.drop (a + k)) [] k by unfold Wire.take_; rw [if_neg hneg, hn]; simp only; rw [if_neg h3, List.drop_drop])
      have h3' : (n : Int) ≤ (M : Int) := by omega
      have hak : a + k ≤ l.length := by omega
      have hn63 : (n : Int) ≤ 9223372036854775807 := by omega
      have h3b : decide (M < n) = false := by simp; omega
      clear hn hbx hbm hbf hn3 h h3 hk hn1 hneg
      go_enter Try.func100, Try.ntmps100
      go_wp2_with (go_at_call 39; refine H1.out.mono ?_; rintro e w1 ⟨rfl, hr1, hg1⟩; have cm1 := Hm.out.keep1g hg1 hmg.out)
      have hz1 := hg1.size
      have o0 : OwnU (w1.alloc (.cells #[] 22)) w.heap.size (.slice (some ⟨w1.heap.size, 0, none⟩) 0 0) [] := World.ownsRow_made w1 #[] 0 hz1 (by unfold maxLen; omega) rfl
      go_loopg [7, 28] n (fun q sl i wr => ∃ (j at_ : Nat) (acc : List Nat) (A' : Option Addr) (n' c' : Nat), i = .int .u64 (j : Int) ∧ sl = .slice A' n' c' ∧ j + q = n ∧ Hid (acc.length + a ≤ at_ ∧ at_ ≤ l.length) ∧ Rd wr B g v l at_ ∧ OwnU wr w.heap.size (.slice A' n' c') acc ∧ w.grownBy wr (some g) ∧
        Hid (Wire.nums n (l.drop (a + k)) [] k = Wire.nums q (l.drop at_) acc (at_ - a)) ∧ Hid (a ≤ at_))
      case atStart =>
        refine ⟨0, a + k, [], _, 0, 0, rfl, rfl, by omega, ⟨by simp, by omega⟩, hr1.alloc _, o0, only_alloc hg1 _, ?_, show a ≤ a + k by omega⟩
        show _ = _
        rw [show a + k - a = k by omega]
      case round =>
        obtain ⟨j, at_, acc, A', n', c', rfl, rfl, hj, hat, hr, ho, hg, hs, haat⟩ := hrel
        have Hj := Lib.hid hj
        have cx2 := Hx.out.keep1g hg hxg.out
        have cf2 := Hf.out.keep1g hg hfg.out
        by_cases hlt : j < n
        · obtain ⟨q, rfl⟩ : ∃ q, gk = q + 1 := ⟨gk - 1, by omega⟩
          clear hj
          cases hx : Wire.num (l.drop at_) with
          | err c =>
            have H2 := Lib.hid (number_err hr hx)
            have hc := Wire.numGo_err _ _ _ _ _ hx
            have Hs2 := Lib.hid (Hs.out.trans (hs.out.trans (show Wire.nums (q + 1) (l.drop at_) acc (at_ - a) = .err c by unfold Wire.nums; rw [hx])))
            clear hx
            rcases hc with rfl | rfl
            all_goals
              go_wp2_with fail
              refine H2.out.mono ?_
              rintro e w2 ⟨rfl, hr2, hg2⟩
              go_wp2_with fail
              go_ret2
              exact takein_err Hs2.out ⟨_, rfl, hr2, hg.trans hg2⟩
          | ok x m =>
            have H2 := Lib.hid (number_ok hr hx)
            obtain ⟨hx1, hx2, hx3⟩ := Wire.num_bd hx
            have hs2 := Lib.hid (hs.out.trans (show Wire.nums (q + 1) (l.drop at_) acc (at_ - a) = Wire.nums q (l.drop (at_ + m)) (acc ++ [x]) (at_ - a + m) by rw [Wire.nums, hx]; simp only; rw [List.drop_drop]))
            have hx4 := Lib.hid (show at_ + m ≤ l.length by rw [List.length_drop] at hx3; have := hat.out; omega)
            have hm1 := Lib.hid hx2
            clear hx hx1 hx2 hx3
            go_wp2_with fail
            refine H2.out.mono ?_
            rintro e w2 ⟨rfl, hr2, hg2⟩
            have z2 : w.heap.size ≤ w2.heap.size := Nat.le_trans hg.size hg2.size
            have ho2 := (ho.grown hg2 hgl).alloc (.cells #[uv x] 22)
            have hgg := only_alloc (hg.trans hg2) (.cells #[uv x] 22)
            have hr3 := hr2.alloc (.cells #[uv x] 22)
            go_wp2_with (at_builtin; refine wpU_append rfl (.tmp 39) (.tmp 41) rfl w.heap.size _ acc ho2 rfl _ _ x (ownU_lit w2 x) _ rfl (by have := hat.out; have := Hh.out.le; omega) (by rw [World.size_alloc]; omega) ?_; intro A3 n3 c3 w3 ho3 hg3)
            go_roundg q
            case measure => omega
            case rel =>
              refine ⟨j + 1, at_ + m, acc ++ [x], A3, n3, c3, by go_num, rfl, by have := Hj.out; omega, ⟨?_, hx4.out⟩, ?_, ho3, ?_, ?_, ?_⟩
              · have := hat.out.1; have := hm1.out; rw [List.length_append, List.length_singleton]; omega
              · exact Rd.far_row Hh.out hr3 (fun k hk => ho2.base hk) hg3
              · exact only_own hgg (fun k hk => ho2.base hk) hg3
              · show _ = _
                rw [hs2.out, show at_ + m - a = at_ - a + m by have := haat.out; omega]
              · show _ ≤ _
                have := haat.out
                omega
        · have hq : gk = 0 := by omega
          subst hq
          have hjn : j = n := by omega
          subst hjn
          have Hs2 := Lib.hid (Hs.out.trans (hs.out.trans (show Wire.nums 0 (l.drop at_) acc (at_ - a) = .ok acc (at_ - a) from rfl)))
          clear hj
          go_wp2_with fail
          go_ret2
          refine takein_ok Hs2.out ⟨_, _, _, rfl, ho, ?_, hg⟩
          rw [show a + (at_ - a) = at_ by have := haat.out; omega]
          exact hr
end Go.Proofs.Ytgmienlifnpniaa
