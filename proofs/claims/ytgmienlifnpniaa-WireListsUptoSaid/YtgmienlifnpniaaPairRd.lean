/- Lists of pairs in memory; tracerylaw01.pair; wire.Take of pairs (printed by gen_pairrd.py). -/
import Derived.Test.YtgmienlifnpniaaPairs
import Derived.Test.YtgmienlifnpniaaTake2
import Derived.Test.YtgmienlifnpniaaAgg
import Derived.Test.YtgmienlifnpniaaRdGauss
namespace Go.Proofs.Ytgmienlifnpniaa
open Go.RowKit
set_option linter.unusedSimpArgs false

theorem Wire.both_num_bd {r : List UInt8} {x : Nat × Nat} {k : Nat} (h : Wire.both Wire.num r = .ok x k) : 1 ≤ k ∧ k ≤ r.length := by
  unfold Wire.both at h
  split at h
  · cases h
  · rename_i h1
    split at h
    · cases h
    · rename_i h2
      injection h with h h'
      subst h'
      have := Wire.num_bd h1
      have := Wire.num_bd h2
      rw [List.length_drop] at this
      omega

/-- new pairs -/
def OwnP (w : World) (B : Nat) (v : Value) (l : List (Nat × Nat)) : Prop := w.ownsRow B 57 2 v l.length (pcells l)
theorem infoP : (Try.prog.info? 57).map (fun i => (i.zero, i.size, i.bytes)) = some (some (.agg #[.int .u64 0, .int .u64 0]), 2, 16) := by kernel_rfl
theorem OwnP.form {w : World} {B : Nat} {v : Value} {l : List (Nat × Nat)} (h : OwnP w B v l) : ∃ A c, v = .slice A l.length c ∧ l.length ≤ c := by
  rcases h.2 with ⟨rfl, h0⟩ | ⟨g, cap, cur, rfl, _, _, hc, _⟩
  · exact ⟨none, 0, by rw [h0], by omega⟩
  · exact ⟨_, cap, rfl, hc⟩
theorem OwnP.len {w : World} {B n c : Nat} {A : Option Addr} {l : List (Nat × Nat)} (h : OwnP w B (.slice A n c) l) : n = l.length := by
  obtain ⟨A', c', e, _⟩ := h.form
  injection e
theorem OwnP.cap {w : World} {B n c : Nat} {A : Option Addr} {l : List (Nat × Nat)} (h : OwnP w B (.slice A n c) l) : l.length ≤ c := by
  obtain ⟨A', c', e, hc⟩ := h.form
  injection e with _ _ e
  omega
theorem OwnP.base {w : World} {B : Nat} {v : Value} {l : List (Nat × Nat)} (h : OwnP w B v l) {k : Nat} (hk : v.ownBlock = some k) : B ≤ k := by
  rcases h.2 with ⟨rfl, _⟩ | ⟨g, cap, cur, rfl, hb, _⟩
  · cases hk
  · have : g = k := Option.some.inj hk
    omega
theorem OwnP.grown {w w' : World} {B g : Nat} {v : Value} {l : List (Nat × Nat)} (h : OwnP w B v l) (hg : w.grownBy w' (some g)) (hB : g < B) : OwnP w' B v l :=
  World.ownsRow.kept h hg (by
    rcases hv : v.ownBlock with _ | k
    · exact .inl rfl
    · refine .inr fun e => ?_
      have := h.base hv
      have : k = g := Option.some.inj e
      omega)
theorem OwnP.kept {w w' : World} {B : Nat} {v : Value} {l : List (Nat × Nat)} (h : OwnP w B v l) (hb : Below w.heap.size w w') : OwnP w' B v l := by
  refine ⟨h.1, ?_⟩
  rcases h.2 with h' | ⟨g, cap, cur, hv, hg, hh, r⟩
  · exact .inl h'
  · exact .inr ⟨g, cap, cur, hv, hg, (hb.block g (lt_of_block hh)).trans hh, r⟩
theorem OwnP.alloc {w : World} {B : Nat} {v : Value} {l : List (Nat × Nat)} (h : OwnP w B v l) (o : Obj) : OwnP (w.alloc o) B v l := World.ownsRow.alloc h o
theorem OwnP.drewN {w : World} {B : Nat} {v : Value} {l : List (Nat × Nat)} (h : OwnP w B v l) (n : Nat) : OwnP (w.drewN n) B v l := h
theorem OwnP.nil (w : World) (B : Nat) : OwnP w B (.slice none 0 0) [] := World.ownsRow_nil w B _ 2
theorem OwnP.mono {w : World} {B B' : Nat} {v : Value} {l : List (Nat × Nat)} (h : OwnP w B v l) (hB : B' ≤ B) : OwnP w B' v l := by
  refine ⟨h.1, ?_⟩
  rcases h.2 with h' | ⟨g, cap, cur, hv, hg, r⟩
  · exact .inl h'
  · exact .inr ⟨g, cap, cur, hv, by omega, r⟩
/-- pairs that are read, below block B -/
def ReadsP (w : World) (B : Nat) (A : Option Addr) (l : List (Nat × Nat)) : Prop := Reads w B 2 A l.length (pcells l)
theorem OwnP.reads {w : World} {B n c : Nat} {A : Option Addr} {l : List (Nat × Nat)} (h : OwnP w B (.slice A n c) l) : ReadsP w w.heap.size A l := by
  obtain rfl := h.len
  exact Reads.of_own h
theorem OwnP.at_ {w : World} {B n c : Nat} {A : Option Addr} {l : List (Nat × Nat)} (h : OwnP w B (.slice A n c) l) (h0 : 0 < l.length) : ∃ bb, A = some ⟨bb, 0, none⟩ ∧ ∀ j (hj : j < l.length), w.cell? ⟨bb, j * 2, none⟩ = some (uv l[j].1) ∧ w.cell? ⟨bb, j * 2 + 1, none⟩ = some (uv l[j].2) := by
  have hn := h.len
  rcases h.2 with ⟨hv, h1⟩ | ⟨bb, cap, cur, hv, _⟩
  · injection hv with h2 h3
    omega
  · injection hv with h2 h3 h4
    subst h2 h4
    subst hn
    refine ⟨bb, rfl, fun j hj => ?_⟩
    obtain ⟨e1, e2⟩ := pcells_at l j hj
    exact ⟨(World.ownsRow.cellAt h _ (by omega)).trans e1, (World.ownsRow.cellAt h _ (by omega)).trans e2⟩
theorem ReadsP.at_ {w : World} {B : Nat} {A : Option Addr} {l : List (Nat × Nat)} (h : ReadsP w B A l) (h0 : 0 < l.length) : ∃ ad, A = some ad ∧ ad.block < B ∧ ∀ j (hj : j < l.length), w.cell? (ad.add (j * 2)) = some (uv l[j].1) ∧ w.cell? (ad.add (j * 2 + 1)) = some (uv l[j].2) := by
  obtain ⟨ad, e, hb, hc⟩ := h.2 h0
  refine ⟨ad, e, hb, fun j hj => ?_⟩
  obtain ⟨e1, e2⟩ := pcells_at l j hj
  exact ⟨hc _ _ e1, hc _ _ e2⟩
theorem ownP_lit (w : World) (x : Nat × Nat) : Reads (w.alloc (.cells #[uv x.1, uv x.2] 57)) (w.heap.size + 1) 2 (some ⟨w.heap.size, 0, none⟩) 1 (pcells [x]) := by
  refine ⟨rfl, fun _ => ⟨_, rfl, Nat.lt_succ_self _, fun j u hu => ?_⟩⟩
  rw [Addr.add_lit, (Blk.new w 57 #[uv x.1, uv x.2]).cell, ← hu, Nat.zero_add, ← Array.getElem?_toList]
  rfl

theorem wpP_append {w : World} {ops : Array Oper} {rest : List Oper} {o : Oper} {a : Act} {Q : Exit → Act → World → Prop} (hgd : o.guard = none) (s x : Operand)
    (ho : o.op = .call { callee := .builtin .append, args := #[s, x], argTypes := #[56, 56] }) (B : Nat) (v : Value) (l : List (Nat × Nat)) (hown : OwnP w B v l) (hs : a.eval s = v)
    (B' : Nat) (A : Option Addr) (ys : List (Nat × Nat)) (m : Nat) (hm : m = ys.length) (hr : Reads w B' 2 A m (pcells ys)) (c : Nat) (hx : a.eval x = .slice A m c) (hlen : l.length + ys.length ≤ 8796093022208) (hbase : B ≤ w.heap.size)
    (h : ∀ A' n' c' w', OwnP w' B (.slice A' n' c') (l ++ ys) → w.grownBy w' v.ownBlock → wpList Try.prog ops Q rest (a.put o.dst (.slice A' n' c')) w') :
    wpList Try.prog ops Q (o :: rest) a w := by
  obtain ⟨i0, hi, hz0, hz1, hz2⟩ := info_parts infoP
  subst hm
  refine wpList_append_any w hgd s x 56 ho B 57 i0 (.agg #[.int .u64 0, .int .u64 0]) 2 16 Try.underlying56 hi hz0 hz1 hz2 rfl (by decide) v l.length (pcells l) hs hown B' A ys.length c (pcells ys) hx hr (pcells_one _) (by unfold maxLen; omega) (by omega) hbase ?_
  intro v' w' h1 h2 _
  have h4 : OwnP w' B v' (l ++ ys) := by
    unfold OwnP
    rw [List.length_append, pcells_append]
    exact h1
  obtain ⟨A', c', rfl, _⟩ := h4.form
  exact h A' _ c' w' h4 h2

/-- what pair leaves -/
def PairIn (res : Wire.Res (Nat × Nat)) (w : World) (B g : Nat) (v : Value) (l : List UInt8) (a : Nat) (e : Ending) (w' : World) : Prop :=
  match res with
  | .err c => ∃ x y a', e = .returned (.tuple #[.agg #[.int .u64 x, .int .u64 y], .int .i64 (c : Int)]) ∧ Rd w' B g v l a' ∧ w.grownBy w' (some g)
  | .ok p k => e = .returned (.tuple #[.agg #[uv p.1, uv p.2], .int .i64 0]) ∧ Rd w' B g v l (a + k) ∧ w.grownBy w' (some g)
section
variable {res : Wire.Res (Nat × Nat)} {w w' : World} {B g a : Nat} {v : Value} {l : List UInt8} {e : Ending}
theorem pairin_err {k : Nat} (h : res = .err k) (h2 : ∃ x y a', e = .returned (.tuple #[.agg #[.int .u64 x, .int .u64 y], .int .i64 (k : Int)]) ∧ Rd w' B g v l a' ∧ w.grownBy w' (some g)) : PairIn res w B g v l a e w' := by subst h; exact h2
theorem pairin_ok {p : Nat × Nat} {k : Nat} (h : res = .ok p k) (h2 : e = .returned (.tuple #[.agg #[uv p.1, uv p.2], .int .i64 0]) ∧ Rd w' B g v l (a + k) ∧ w.grownBy w' (some g)) : PairIn res w B g v l a e w' := by subst h; exact h2
theorem pairin_err' {k : Nat} (h : res = .err k) (h2 : PairIn res w B g v l a e w') : ∃ x y a', e = .returned (.tuple #[.agg #[.int .u64 x, .int .u64 y], .int .i64 (k : Int)]) ∧ Rd w' B g v l a' ∧ w.grownBy w' (some g) := by subst h; exact h2
theorem pairin_ok' {p : Nat × Nat} {k : Nat} (h : res = .ok p k) (h2 : PairIn res w B g v l a e w') : e = .returned (.tuple #[.agg #[uv p.1, uv p.2], .int .i64 0]) ∧ Rd w' B g v l (a + k) ∧ w.grownBy w' (some g) := by subst h; exact h2
end

set_option maxRecDepth 100000 in
set_option maxHeartbeats 4000000 in
theorem pair_any {w : World} {B g : Nat} {v : Value} {l : List UInt8} {a : Nat} (h : Rd w B g v l a) :
    Calls Try.prog 36 #[.pointer (some ⟨g, 0, none⟩)] w (PairIn (Wire.both Wire.num (l.drop a)) w B g v l a) := by
  have h2 := h.alloc (.cells #[.int .u64 0, .int .u64 0] 57)
  have hB0 := Blk.new w 57 #[.int .u64 0, .int .u64 0]
  have hgl := h.blk.lt
  have hne0 : some w.heap.size ≠ some g := fun e => by have := Option.some.inj e; omega
  have HB0 := Lib.hid hB0
  have Hh := Lib.hid h
  cases hn : Wire.num (l.drop a) with
  | err c =>
    have Hs := Lib.hid (Wire.both1 hn)
    have H1 := Lib.hid (number_err h2 hn)
    have hc := ne_code (Wire.num_err hn)
    clear hn h h2 hB0
    go_enter Try.func36, Try.ntmps36
    go_wp2_with fail
    refine H1.out.mono ?_
    rintro e w1 ⟨rfl, hr1, hg1⟩
    have k0 := HB0.out.grown hg1 hne0
    go_wp2_with (refine wpList_store_part (by rfl) 57 (.tmp 2) (.tmp 14) (by rfl) w.heap.size 0 #[.int .u64 0, .int .u64 0] (by rfl) (by rfl) 57 #[.int .u64 0, .int .u64 0] #[.int .u64 0, .int .u64 0] k0 (by simp) (by rfl) (by kernel_rfl) (by simp [Value.oneCell']) ?_; intro w9 k9 hg9 hs9)
    refine bodyPost_ret (results_row_tmp rfl _ _ _ _ _ (by rfl) k9 Try.underlying57 rfl (by kernel_rfl)) rfl ?_
    exact pairin_err Hs.out ⟨_, _, _, rfl, Rd.wipe Hh.out hr1 (Nat.le_refl _) hg9, only_wipe (only_of_alloc hg1) (Nat.le_refl _) hg9⟩
  | ok x k =>
    have hdd : (l.drop a).drop k = l.drop (a + k) := by rw [List.drop_drop]
    have H1 := Lib.hid (number_ok h2 hn)
    cases hn2 : Wire.num (l.drop (a + k)) with
    | err c =>
      have Hs := Lib.hid (Wire.both2 hn (by rw [hdd]; exact hn2))
      have H2 := Lib.hid fun w' (h' : Rd w' B g v l (a + k)) => number_err h' hn2
      clear hn hn2 h h2 hB0 hdd
      go_enter Try.func36, Try.ntmps36
      go_wp2_with fail
      refine H1.out.mono ?_
      rintro e w1 ⟨rfl, hr1, hg1⟩
      have k0 := HB0.out.grown hg1 hne0
      go_wp2_with fail
      refine (H2.out _ hr1).mono ?_
      rintro e w2 ⟨rfl, hr2, hg2⟩
      have k1 := k0.grown hg2 hne0
      have hgg := (only_of_alloc hg1).trans hg2
      go_wp2_with (refine wpList_store_part (by rfl) 57 (.tmp 2) (.tmp 23) (by rfl) w.heap.size 0 #[.int .u64 (x : Int), .int .u64 0] (by rfl) (by rfl) 57 #[.int .u64 0, .int .u64 0] #[.int .u64 (x : Int), .int .u64 0] k1 (by simp) (by rfl) (by kernel_rfl) (by simp [Value.oneCell']) ?_; intro w9 k9 hg9 hs9)
      refine bodyPost_ret (results_row_tmp rfl _ _ _ _ _ (by rfl) k9 Try.underlying57 rfl (by kernel_rfl)) rfl ?_
      exact pairin_err Hs.out ⟨_, _, _, rfl, Rd.wipe Hh.out hr2 (Nat.le_refl _) hg9, only_wipe hgg (Nat.le_refl _) hg9⟩
    | ok y m =>
      have Hs := Lib.hid (Wire.both3 hn (by rw [hdd]; exact hn2))
      have H2 := Lib.hid fun w' (h' : Rd w' B g v l (a + k)) => number_ok h' hn2
      clear hn hn2 h h2 hB0 hdd
      go_enter Try.func36, Try.ntmps36
      go_wp2_with fail
      refine H1.out.mono ?_
      rintro e w1 ⟨rfl, hr1, hg1⟩
      have k0 := HB0.out.grown hg1 hne0
      go_wp2_with fail
      refine (H2.out _ hr1).mono ?_
      rintro e w2 ⟨rfl, hr2, hg2⟩
      have k1 := k0.grown hg2 hne0
      have hgg := (only_of_alloc hg1).trans hg2
      go_wp2_with (refine wpList_store_part (by rfl) 57 (.tmp 2) (.tmp 23) (by rfl) w.heap.size 0 #[.int .u64 (x : Int), .int .u64 (y : Int)] (by rfl) (by rfl) 57 #[.int .u64 0, .int .u64 0] #[.int .u64 (x : Int), .int .u64 (y : Int)] k1 (by simp) (by rfl) (by kernel_rfl) (by simp [Value.oneCell']) ?_; intro w9 k9 hg9 hs9)
      refine bodyPost_ret (results_row_tmp rfl _ _ _ _ _ (by rfl) k9 Try.underlying57 rfl (by kernel_rfl)) rfl ?_
      refine pairin_ok Hs.out ⟨rfl, ?_, only_wipe hgg (Nat.le_refl _) hg9⟩
      rw [← Nat.add_assoc]
      exact Rd.wipe Hh.out hr2 (Nat.le_refl _) hg9

/-- what Take (and the function within) leaves -/
def TakePIn (res : Wire.Res (List (Nat × Nat))) (w : World) (B g : Nat) (v : Value) (l : List UInt8) (a : Nat) (e : Ending) (w' : World) : Prop :=
  match res with
  | .err c => ∃ a', e = .returned (.tuple #[.slice none 0 0, .int .i64 (c : Int)]) ∧ Rd w' B g v l a' ∧ w.grownBy w' (some g)
  | .ok xs k => ∃ A n c, e = .returned (.tuple #[.slice A n c, .int .i64 0]) ∧ OwnP w' w.heap.size (.slice A n c) xs ∧ Rd w' B g v l (a + k) ∧ w.grownBy w' (some g)
def TakePR (res : Wire.Res (List (Nat × Nat))) (w : World) (B g : Nat) (v : Value) (l : List UInt8) (a : Nat) (e : Ending) (w' : World) : Prop :=
  match res with
  | .err c => e = .returned (.tuple #[.slice none 0 0, .int .i64 (c : Int)]) ∧ Rd w' B g v l a ∧ w.grownBy w' (some g)
  | .ok xs k => ∃ A n c, e = .returned (.tuple #[.slice A n c, .int .i64 0]) ∧ OwnP w' w.heap.size (.slice A n c) xs ∧ Rd w' B g v l (a + k) ∧ w.grownBy w' (some g)
section
variable {res : Wire.Res (List (Nat × Nat))} {w w' : World} {B g c a : Nat} {v : Value} {l : List UInt8} {e : Ending}
theorem takepin_err {k : Nat} (h : res = .err k) (h2 : ∃ a', e = .returned (.tuple #[.slice none 0 0, .int .i64 (k : Int)]) ∧ Rd w' B g v l a' ∧ w.grownBy w' (some g)) : TakePIn res w B g v l a e w' := by subst h; exact h2
theorem takepin_ok {xs : List (Nat × Nat)} {k : Nat} (h : res = .ok xs k) (h2 : ∃ A n c, e = .returned (.tuple #[.slice A n c, .int .i64 0]) ∧ OwnP w' w.heap.size (.slice A n c) xs ∧ Rd w' B g v l (a + k) ∧ w.grownBy w' (some g)) : TakePIn res w B g v l a e w' := by subst h; exact h2
theorem takepin_err' {k : Nat} (h : res = .err k) (h2 : TakePIn res w B g v l a e w') : ∃ a', e = .returned (.tuple #[.slice none 0 0, .int .i64 (k : Int)]) ∧ Rd w' B g v l a' ∧ w.grownBy w' (some g) := by subst h; exact h2
theorem takepin_ok' {xs : List (Nat × Nat)} {k : Nat} (h : res = .ok xs k) (h2 : TakePIn res w B g v l a e w') : ∃ A n c, e = .returned (.tuple #[.slice A n c, .int .i64 0]) ∧ OwnP w' w.heap.size (.slice A n c) xs ∧ Rd w' B g v l (a + k) ∧ w.grownBy w' (some g) := by subst h; exact h2
theorem takepr_err {k : Nat} (h : res = .err k) (h2 : e = .returned (.tuple #[.slice none 0 0, .int .i64 (k : Int)]) ∧ Rd w' B g v l a ∧ w.grownBy w' (some g)) : TakePR res w B g v l a e w' := by subst h; exact h2
theorem takepr_ok {xs : List (Nat × Nat)} {k : Nat} (h : res = .ok xs k) (h2 : ∃ A n c, e = .returned (.tuple #[.slice A n c, .int .i64 0]) ∧ OwnP w' w.heap.size (.slice A n c) xs ∧ Rd w' B g v l (a + k) ∧ w.grownBy w' (some g)) : TakePR res w B g v l a e w' := by subst h; exact h2
theorem takepr_err' {k : Nat} (h : res = .err k) (h2 : TakePR res w B g v l a e w') : e = .returned (.tuple #[.slice none 0 0, .int .i64 (k : Int)]) ∧ Rd w' B g v l a ∧ w.grownBy w' (some g) := by subst h; exact h2
theorem takepr_ok' {xs : List (Nat × Nat)} {k : Nat} (h : res = .ok xs k) (h2 : TakePR res w B g v l a e w') : ∃ A n c, e = .returned (.tuple #[.slice A n c, .int .i64 0]) ∧ OwnP w' w.heap.size (.slice A n c) xs ∧ Rd w' B g v l (a + k) ∧ w.grownBy w' (some g) := by subst h; exact h2
end

set_option maxRecDepth 100000 in
set_option maxHeartbeats 4000000 in
theorem take1P_any {w : World} {B g bm bx bf : Nat} {v : Value} {l : List UInt8} {a : Nat} {most : Int} (h : Rd w B g v l a) (hbm : Blk w bm 3 #[.int .i64 most]) (hbx : Blk w bx 61 #[.pointer (some ⟨g, 0, none⟩)]) (hbf : Blk w bf 65 #[.func (.func 36) #[] #[]])
    (hm : most < 9223372036854775808) (hll : l.length ≤ 100000000) :
    Calls Try.prog 62 #[.pointer (some ⟨bm, 0, none⟩), .pointer (some ⟨bx, 0, none⟩), .pointer (some ⟨bf, 0, none⟩)] w (TakePIn (Wire.takeP most (l.drop a)) w B g v l a) := by
  have cx := hbx.cell 0
  have cm := hbm.cell 0
  have cf := hbf.cell 0
  by_cases hneg : most < 0
  · have Hs := Lib.hid (show Wire.takeP most (l.drop a) = .err 2 from if_pos hneg)
    go_enter Try.func62, Try.ntmps62
    go_wp2
    go_ret2
    exact takepin_err Hs.out ⟨_, rfl, h, World.grownBy.refl w _⟩
  obtain ⟨M, rfl⟩ := Int.eq_ofNat_of_zero_le (show 0 ≤ most by omega)
  have hm2 : (M : Int) ≤ 9223372036854775807 := by omega
  clear hm
  have hxg := Lib.hid (hbx.ne_ h.blk (by decide))
  have hmg := Lib.hid (hbm.ne_ h.blk (by decide))
  have hfg := Lib.hid (hbf.ne_ h.blk (by decide))
  have Hx := Lib.hid hbx
  have Hm := Lib.hid hbm
  have Hf := Lib.hid hbf
  have hgl := h.blk.lt
  have Hh := Lib.hid h
  cases hn : Wire.num (l.drop a) with
  | err c =>
    have Hs := Lib.hid (show Wire.takeP (M : Int) (l.drop a) = .err c by unfold Wire.takeP; rw [if_neg hneg, hn])
    have H1 := Lib.hid (number_err h hn)
    have hc := Wire.numGo_err _ _ _ _ _ hn
    clear hn hbx hbm hbf h
    rcases hc with rfl | rfl
    all_goals
      go_enter Try.func62, Try.ntmps62
      go_wp2_with (go_at_call 39; refine H1.out.mono ?_; rintro e w1 ⟨rfl, hr1, hg1⟩)
      go_ret2
      exact takepin_err Hs.out ⟨_, rfl, hr1, hg1⟩
  | ok n k =>
    have H1 := Lib.hid (number_ok h hn)
    obtain ⟨hn1, hn2, hn3⟩ := Wire.num_bd hn
    have hk : (l.drop a).length = l.length - a := List.length_drop
    have hle := h.le
    by_cases h3 : (M : Int) < (n : Int)
    · have Hs := Lib.hid (show Wire.takeP (M : Int) (l.drop a) = .err 3 by unfold Wire.takeP; rw [if_neg hneg, hn]; exact if_pos h3)
      clear hn hbx hbm hbf hn3 h
      go_enter Try.func62, Try.ntmps62
      go_wp2_with (go_at_call 39; refine H1.out.mono ?_; rintro e w1 ⟨rfl, hr1, hg1⟩; have cm1 := Hm.out.keep1g hg1 hmg.out)
      go_ret2
      exact takepin_err Hs.out ⟨_, rfl, hr1, hg1⟩
    · have Hs := Lib.hid (show Wire.takeP (M : Int) (l.drop a) = Wire.pairs n (l.drop (a + k)) [] k by unfold Wire.takeP; rw [if_neg hneg, hn]; simp only; rw [if_neg h3, List.drop_drop])
      have h3' : (n : Int) ≤ (M : Int) := by omega
      have hak : a + k ≤ l.length := by omega
      have hn63 : (n : Int) ≤ 9223372036854775807 := by omega
      have h3b : decide (M < n) = false := by simp; omega
      clear hn hbx hbm hbf hn3 h h3 hk hn1 hneg
      go_enter Try.func62, Try.ntmps62
      go_wp2_with (go_at_call 39; refine H1.out.mono ?_; rintro e w1 ⟨rfl, hr1, hg1⟩; have cm1 := Hm.out.keep1g hg1 hmg.out)
      have hz1 := hg1.size
      have o0 : OwnP (w1.alloc (.cells #[] 57)) w.heap.size (.slice (some ⟨w1.heap.size, 0, none⟩) 0 0) [] := World.ownsRow_made w1 #[] 0 hz1 (by unfold maxLen; omega) rfl
      go_loopg [7, 28] n (fun q sl i wr => ∃ (j at_ : Nat) (acc : List (Nat × Nat)) (A' : Option Addr) (n' c' : Nat), i = .int .u64 (j : Int) ∧ sl = .slice A' n' c' ∧ j + q = n ∧ Hid (acc.length + a ≤ at_ ∧ at_ ≤ l.length) ∧ Rd wr B g v l at_ ∧ OwnP wr w.heap.size (.slice A' n' c') acc ∧ w.grownBy wr (some g) ∧
        Hid (Wire.pairs n (l.drop (a + k)) [] k = Wire.pairs q (l.drop at_) acc (at_ - a)) ∧ Hid (a ≤ at_))
      case atStart =>
        refine ⟨0, a + k, [], _, 0, 0, rfl, rfl, by omega, ⟨by simp, by omega⟩, hr1.alloc _, o0, only_alloc hg1 _, ?_, show a ≤ a + k by omega⟩
        show _ = _
        rw [show a + k - a = k by omega]
      case round =>
        obtain ⟨j, at_, acc, A', n', c', rfl, rfl, hj, hat, hr, ho, hg, hs, haat⟩ := hrel
        have Hj := Lib.hid hj
        have cx2 := Hx.out.keep1g hg hxg.out
        have cf2 := Hf.out.keep1g hg hfg.out
        by_cases hlt : j < n
        · obtain ⟨q, rfl⟩ : ∃ q, gk = q + 1 := ⟨gk - 1, by omega⟩
          clear hj
          cases hx : Wire.both Wire.num (l.drop at_) with
          | err c =>
            have H2 := Lib.hid ((pair_any hr).mono fun e w' hh => pairin_err' hx hh)
            have hc := ne_code (Wire.both_err Wire.num_err hx)
            have Hs2 := Lib.hid (Hs.out.trans (hs.out.trans (show Wire.pairs (q + 1) (l.drop at_) acc (at_ - a) = .err c by unfold Wire.pairs; rw [hx])))
            clear hx
            go_wp2_with fail
            refine H2.out.mono ?_
            rintro e w2 ⟨x1, y1, a1, rfl, hr2, hg2⟩
            go_wp2_with fail
            go_ret2
            exact takepin_err Hs2.out ⟨_, rfl, hr2.alloc _, only_alloc (hg.trans hg2) _⟩
          | ok x m =>
            have H2 := Lib.hid ((pair_any hr).mono fun e w' hh => pairin_ok' hx hh)
            obtain ⟨hx2, hx3⟩ := Wire.both_num_bd hx
            have hs2 := Lib.hid (hs.out.trans (show Wire.pairs (q + 1) (l.drop at_) acc (at_ - a) = Wire.pairs q (l.drop (at_ + m)) (acc ++ [x]) (at_ - a + m) by rw [Wire.pairs, hx]; simp only; rw [List.drop_drop]))
            have hx4 := Lib.hid (show at_ + m ≤ l.length by rw [List.length_drop] at hx3; have := hat.out; omega)
            have hm1 := Lib.hid hx2
            clear hx hx2 hx3
            go_wp2_with fail
            refine H2.out.mono ?_
            rintro e w2 ⟨rfl, hr2, hg2⟩
            have z2 : w.heap.size ≤ w2.heap.size := Nat.le_trans hg.size hg2.size
            have ho2 := ((ho.grown hg2 hgl).alloc (.cells #[uv x.1, uv x.2] 57)).alloc (.cells #[uv x.1, uv x.2] 57)
            have hgg := only_alloc (only_alloc (hg.trans hg2) (.cells #[uv x.1, uv x.2] 57)) (.cells #[uv x.1, uv x.2] 57)
            have hr3 := (hr2.alloc (.cells #[uv x.1, uv x.2] 57)).alloc (.cells #[uv x.1, uv x.2] 57)
            have hlit := ownP_lit (w2.alloc (.cells #[uv x.1, uv x.2] 57)) x
            rw [World.size_alloc] at hlit
            unfold uv at ho2 hgg hr3 hlit ⊢
            go_wp2_with (at_builtin; refine wpP_append (by rfl) (.tmp 39) (.tmp 41) (by rfl) w.heap.size _ acc ho2 (by rfl) _ _ [x] 1 rfl hlit _ (by rfl) (by rw [List.length_singleton]; have := hat.out; have := Hh.out.le; omega) (by rw [World.size_alloc, World.size_alloc]; omega) ?_; intro A3 n3 c3 w3 ho3 hg3)
            go_roundg q
            case measure => omega
            case rel =>
              refine ⟨j + 1, at_ + m, acc ++ [x], A3, n3, c3, by go_num, rfl, by have := Hj.out; omega, ⟨?_, hx4.out⟩, ?_, ho3, ?_, ?_, ?_⟩
              · have := hat.out.1; have := hm1.out; rw [List.length_append, List.length_singleton]; omega
              · exact Rd.far_row Hh.out hr3 (fun k hk => ho2.base hk) hg3
              · exact only_own hgg (fun k hk => ho2.base hk) hg3
              · show _ = _
                rw [hs2.out, show at_ + m - a = at_ - a + m by have := haat.out; omega]
              · show _ ≤ _
                have := haat.out
                omega
        · have hq : gk = 0 := by omega
          subst hq
          have hjn : j = n := by omega
          subst hjn
          have Hs2 := Lib.hid (Hs.out.trans (hs.out.trans (show Wire.pairs 0 (l.drop at_) acc (at_ - a) = .ok acc (at_ - a) from rfl)))
          clear hj
          go_wp2_with fail
          go_ret2
          refine takepin_ok Hs2.out ⟨_, _, _, rfl, ho, ?_, hg⟩
          rw [show a + (at_ - a) = at_ by have := haat.out; omega]
          exact hr
set_option maxRecDepth 100000 in
set_option maxHeartbeats 1000000 in
theorem tried_P {w : World} {B g : Nat} {v : Value} {l : List UInt8} {a : Nat} {cv : Array Value} {res : Wire.Res (List (Nat × Nat))} (hres : ∀ {c}, res = .err c → c ≠ 0) (h : Rd w B g v l a)
    (H : Calls Try.prog 62 cv w (TakePIn res w B g v l a)) :
    Calls Try.prog 61 #[.pointer (some ⟨g, 0, none⟩), .func (.func 62) #[] cv] w (TakePR res w B g v l a) := by
  have Ht := Lib.hid (there_any h)
  have c1 := h.c1
  have hle := h.le
  cases hn : res with
  | err c =>
    have hc := ne_code (hres hn)
    have H1 := Lib.hid (H.mono fun e w' hh => takepin_err' hn hh)
    clear hn h H hres
    go_enter Try.func61, Try.ntmps61
    go_wp2_with (go_at_call 60; refine Ht.out.mono ?_; rintro e w' ⟨rfl, rfl⟩)
    refine H1.out.mono ?_
    rintro e w1 ⟨a', rfl, hr1, hg1⟩
    have f1' := hr1.f1
    have c1' := hr1.c1
    go_wp2_with fail
    go_ret2
    exact takepr_err rfl ⟨rfl, hr1.go a hle, only_setCell (p := ⟨g, 1, none⟩) hg1 (.inl rfl) _⟩
  | ok xs k =>
    have H1 := Lib.hid (H.mono fun e w' hh => takepin_ok' hn hh)
    clear hn h H hres
    go_enter Try.func61, Try.ntmps61
    go_wp2_with (go_at_call 60; refine Ht.out.mono ?_; rintro e w' ⟨rfl, rfl⟩)
    refine H1.out.mono ?_
    rintro e w1 ⟨A, n, c, rfl, ho, hr1, hg1⟩
    go_wp2_with fail
    go_ret2
    exact takepr_ok rfl ⟨_, _, _, rfl, ho, hr1, hg1⟩

set_option maxRecDepth 100000 in
set_option maxHeartbeats 1000000 in
theorem takeP_any {w : World} {B g : Nat} {v : Value} {l : List UInt8} {a : Nat} {most : Int} (h : Rd w B g v l a) (hm : most < 9223372036854775808) (hll : l.length ≤ 100000000) :
    Calls Try.prog 35 #[.pointer (some ⟨g, 0, none⟩), .int .i64 most, .func (.func 36) #[] #[]] w (TakePR (Wire.takeP most (l.drop a)) w B g v l a) := by
  have hmf : ∀ (fn : Fn) (first cap : Array Value) (w : World), (Instr.makeFunc fn first cap).run Try.prog w = .ok (.func fn first cap) w := fun _ _ _ _ => rfl
  have hfn : ∀ w : World, (binOp .eql 65 (.func (.func 36) #[] #[]) .nilFunc).run Try.prog w = .ok (.bool false) w := fun _ => by kernel_rfl
  have h3 := ((h.alloc (.cells #[.pointer (some ⟨g, 0, none⟩)] 61)).alloc (.cells #[.int .i64 most] 3)).alloc (.cells #[.func (.func 36) #[] #[]] 65)
  have hbx := ((Blk.new w 61 #[.pointer (some ⟨g, 0, none⟩)]).alloc (.cells #[.int .i64 most] 3)).alloc (.cells #[.func (.func 36) #[] #[]] 65)
  have hbm := (Blk.new (w.alloc (.cells #[.pointer (some ⟨g, 0, none⟩)] 61)) 3 #[.int .i64 most]).alloc (.cells #[.func (.func 36) #[] #[]] 65)
  have hbf := Blk.new ((w.alloc (.cells #[.pointer (some ⟨g, 0, none⟩)] 61)).alloc (.cells #[.int .i64 most] 3)) 65 #[.func (.func 36) #[] #[]]
  have HT := tried_P (fun h => Wire.takeP_err h) h3 (take1P_any h3 hbm hbx hbf hm hll)
  simp only [World.size_alloc] at HT
  have Ht := Lib.hid (there_any h3)
  cases hn : Wire.takeP most (l.drop a) with
  | err c =>
    have H1 := Lib.hid (HT.mono fun e w' hh => takepr_err' hn hh)
    clear hn h h3 hbx hbm hbf HT
    go_enter Try.func35, Try.ntmps35
    go_wp2_with (go_at_call 60; refine Ht.out.mono ?_; rintro e w' ⟨rfl, rfl⟩)
    refine H1.out.mono ?_
    rintro e w1 ⟨rfl, hr1, hg1⟩
    go_wp2_with fail
    go_ret2
    exact takepr_err rfl ⟨rfl, hr1, only_of_alloc (only_of_alloc (only_of_alloc hg1))⟩
  | ok xs k =>
    have H1 := Lib.hid (HT.mono fun e w' hh => takepr_ok' hn hh)
    clear hn h h3 hbx hbm hbf HT
    go_enter Try.func35, Try.ntmps35
    go_wp2_with (go_at_call 60; refine Ht.out.mono ?_; rintro e w' ⟨rfl, rfl⟩)
    refine H1.out.mono ?_
    rintro e w1 ⟨A, n, c, rfl, ho, hr1, hg1⟩
    go_wp2_with fail
    go_ret2
    exact takepr_ok rfl ⟨_, _, _, rfl, ho.mono (by simp only [World.size_alloc]; omega), hr1, only_of_alloc (only_of_alloc (only_of_alloc hg1))⟩
end Go.Proofs.Ytgmienlifnpniaa
