/- wire.Take of numbers: tried, Take. -/
import Derived.Test.YtgmienlifnpniaaTake
namespace Go.Proofs.Ytgmienlifnpniaa
open Go.RowKit
set_option linter.unusedSimpArgs false

set_option maxRecDepth 100000 in
set_option maxHeartbeats 1000000 in
theorem tried_U {w : World} {B g : Nat} {v : Value} {l : List UInt8} {a : Nat} {cv : Array Value} {res : Wire.Res (List Nat)} (hres : ∀ {c}, res = .err c → c ≠ 0) (h : Rd w B g v l a)
    (H : Calls Try.prog 100 cv w (TakeIn res w B g v l a)) :
    Calls Try.prog 99 #[.pointer (some ⟨g, 0, none⟩), .func (.func 100) #[] cv] w (TakeR res w B g v l a) := by
  have Ht := Lib.hid (there_any h)
  have c1 := h.c1
  have hle := h.le
  cases hn : res with
  | err c =>
    have hc := ne_code (hres hn)
    have H1 := Lib.hid (H.mono fun e w' hh => takein_err' hn hh)
    clear hn h H hres
    go_enter Try.func99, Try.ntmps99
    go_wp2_with (go_at_call 60; refine Ht.out.mono ?_; rintro e w' ⟨rfl, rfl⟩)
    refine H1.out.mono ?_
    rintro e w1 ⟨a', rfl, hr1, hg1⟩
    have f1' := hr1.f1
    have c1' := hr1.c1
    go_wp2_with fail
    go_ret2
    exact taker_err rfl ⟨rfl, hr1.go a hle, only_setCell (p := ⟨g, 1, none⟩) hg1 (.inl rfl) _⟩
  | ok xs k =>
    have H1 := Lib.hid (H.mono fun e w' hh => takein_ok' hn hh)
    clear hn h H hres
    go_enter Try.func99, Try.ntmps99
    go_wp2_with (go_at_call 60; refine Ht.out.mono ?_; rintro e w' ⟨rfl, rfl⟩)
    refine H1.out.mono ?_
    rintro e w1 ⟨A, n, c, rfl, ho, hr1, hg1⟩
    go_wp2_with fail
    go_ret2
    exact taker_ok rfl ⟨_, _, _, rfl, ho, hr1, hg1⟩

theorem OwnU.mono {w : World} {B B' : Nat} {v : Value} {l : List Nat} (h : OwnU w B v l) (hB : B' ≤ B) : OwnU w B' v l := by
  refine ⟨h.1, ?_⟩
  rcases h.2 with h' | ⟨g, cap, cur, hv, hg, r⟩
  · exact .inl h'
  · exact .inr ⟨g, cap, cur, hv, by omega, r⟩

set_option maxRecDepth 100000 in
set_option maxHeartbeats 1000000 in
theorem takeU_any {w : World} {B g : Nat} {v : Value} {l : List UInt8} {a : Nat} {most : Int} (h : Rd w B g v l a) (hm : most < 9223372036854775808) (hll : l.length ≤ 1048577) :
    Calls Try.prog 95 #[.pointer (some ⟨g, 0, none⟩), .int .i64 most, .func (.func 39) #[] #[]] w (TakeR (Wire.take_ most (l.drop a)) w B g v l a) := by
  have hmf : ∀ (fn : Fn) (first cap : Array Value) (w : World), (Instr.makeFunc fn first cap).run Try.prog w = .ok (.func fn first cap) w := fun _ _ _ _ => rfl
  have hfn : ∀ w : World, (binOp .eql 156 (.func (.func 39) #[] #[]) .nilFunc).run Try.prog w = .ok (.bool false) w := fun _ => by kernel_rfl
  have h3 := ((h.alloc (.cells #[.pointer (some ⟨g, 0, none⟩)] 61)).alloc (.cells #[.int .i64 most] 3)).alloc (.cells #[.func (.func 39) #[] #[]] 156)
  have hbx := ((Blk.new w 61 #[.pointer (some ⟨g, 0, none⟩)]).alloc (.cells #[.int .i64 most] 3)).alloc (.cells #[.func (.func 39) #[] #[]] 156)
  have hbm := (Blk.new (w.alloc (.cells #[.pointer (some ⟨g, 0, none⟩)] 61)) 3 #[.int .i64 most]).alloc (.cells #[.func (.func 39) #[] #[]] 156)
  have hbf := Blk.new ((w.alloc (.cells #[.pointer (some ⟨g, 0, none⟩)] 61)).alloc (.cells #[.int .i64 most] 3)) 156 #[.func (.func 39) #[] #[]]
  have HT := tried_U (fun h => Wire.take_err h) h3 (take1_any h3 hbm hbx hbf hm hll)
  simp only [World.size_alloc] at HT
  have Ht := Lib.hid (there_any h3)
  cases hn : Wire.take_ most (l.drop a) with
  | err c =>
    have H1 := Lib.hid (HT.mono fun e w' hh => taker_err' hn hh)
    clear hn h h3 hbx hbm hbf HT
    go_enter Try.func95, Try.ntmps95
    go_wp2_with (go_at_call 60; refine Ht.out.mono ?_; rintro e w' ⟨rfl, rfl⟩)
    refine H1.out.mono ?_
    rintro e w1 ⟨rfl, hr1, hg1⟩
    go_wp2_with fail
    go_ret2
    exact taker_err rfl ⟨rfl, hr1, only_of_alloc (only_of_alloc (only_of_alloc hg1))⟩
  | ok xs k =>
    have H1 := Lib.hid (HT.mono fun e w' hh => taker_ok' hn hh)
    clear hn h h3 hbx hbm hbf HT
    go_enter Try.func95, Try.ntmps95
    go_wp2_with (go_at_call 60; refine Ht.out.mono ?_; rintro e w' ⟨rfl, rfl⟩)
    refine H1.out.mono ?_
    rintro e w1 ⟨A, n, c, rfl, ho, hr1, hg1⟩
    go_wp2_with fail
    go_ret2
    exact taker_ok rfl ⟨_, _, _, rfl, ho.mono (by simp only [World.size_alloc]; omega), hr1, only_of_alloc (only_of_alloc (only_of_alloc hg1))⟩
end Go.Proofs.Ytgmienlifnpniaa
