import Derived.Test.YtmjnhpagoboejaaDoorC5
import Derived.Test.YtmjnhpagoboejaaDoorC3
import Derived.Deep.CutRange
/- law.WordsAll: both turns (printed by gen_lall.py). -/
namespace Go.Proofs.YtmjnhpagoboejaaDoor
open Go.RowKit Go.Shelf
open Wd
set_option linter.unusedSimpArgs false
set_option linter.unusedVariables false
attribute [local go_sem] Oper.semAt_some

def codeRest : Nat → Code → Code
  | n + 1, .seq _ b => codeRest n b
  | _, c => c
def bodyOf (f : Func) : Code := f.body.getD .skip
def Fr0 (w : World) (bl bm : Nat) (v : Nat → Value) : Array Value := #[v 0, v 1, v 2, .pointer (some ⟨w.heap.size, 0, none⟩), .pointer (some ⟨w.heap.size + 1, 0, none⟩), .pointer (some ⟨w.heap.size + 1 + 1, 0, none⟩), .pointer (some ⟨w.heap.size + 1 + 1 + 1, 0, none⟩), v 7, v 8, v 9, v 10, .func (.func 73) #[] #[.pointer (some ⟨bm, 0, none⟩), .pointer (some ⟨bl, 0, none⟩)], v 12, v 13, v 14, v 15, v 16, v 17, v 18, v 19, v 20, v 21, v 22, v 23, v 24, v 25, v 26, v 27, v 28, v 29, v 30, v 31, v 32, v 33, v 34, v 35, v 36, v 37, v 38, v 39, v 40, v 41, v 42, v 43, v 44, v 45, v 46, v 47, v 48, v 49, v 50, v 51, v 52, v 53, v 54, v 55, v 56, v 57, v 58, v 59, v 60, v 61, v 62, v 63, v 64, v 65, v 66, v 67, v 68, v 69, v 70, v 71, v 72, v 73, v 74, v 75, v 76, v 77, v 78, v 79, v 80, v 81, v 82, v 83, v 84, v 85, v 86, v 87, v 88, v 89, v 90, v 91, v 92, v 93, v 94, v 95, v 96, v 97, v 98, v 99, v 100, v 101, v 102, v 103, v 104, v 105, v 106, v 107, v 108, v 109, v 110, v 111, v 112, v 113, v 114, v 115, v 116, v 117, v 118, v 119, v 120, v 121, v 122, v 123, v 124, v 125]
def Fr (w : World) (bl bm t : Nat) (v : Nat → Value) : Array Value := #[v 0, v 1, v 2, .pointer (some ⟨w.heap.size, 0, none⟩), .pointer (some ⟨w.heap.size + 1, 0, none⟩), .pointer (some ⟨w.heap.size + 1 + 1, 0, none⟩), .pointer (some ⟨w.heap.size + 1 + 1 + 1, 0, none⟩), v 7, v 8, v 9, v 10, .func (.func 73) #[] #[.pointer (some ⟨bm, 0, none⟩), .pointer (some ⟨bl, 0, none⟩)], v 12, .int .i64 (t : Int), v 14, v 15, v 16, v 17, v 18, v 19, v 20, v 21, v 22, v 23, v 24, v 25, v 26, v 27, v 28, v 29, v 30, v 31, v 32, v 33, v 34, v 35, v 36, v 37, v 38, v 39, v 40, v 41, v 42, v 43, v 44, v 45, v 46, v 47, v 48, v 49, v 50, v 51, v 52, v 53, v 54, v 55, v 56, v 57, v 58, v 59, v 60, v 61, v 62, v 63, v 64, v 65, v 66, v 67, v 68, v 69, v 70, v 71, v 72, v 73, v 74, v 75, v 76, v 77, v 78, v 79, v 80, v 81, v 82, v 83, v 84, v 85, v 86, v 87, v 88, v 89, v 90, v 91, v 92, v 93, v 94, v 95, v 96, v 97, v 98, v 99, v 100, v 101, v 102, v 103, v 104, v 105, v 106, v 107, v 108, v 109, v 110, v 111, v 112, v 113, v 114, v 115, v 116, v 117, v 118, v 119, v 120, v 121, v 122, v 123, v 124, v 125]
def TI (w : World) (bl bm L M : Nat) (lv : Int) (a : Act) (W : World) : Prop := ∃ (t : Nat) (Ds : List Nat) (v : Nat → Value), a = ⟨Fr w bl bm t v, Ds.map mkD⟩ ∧ t ≤ 2 ∧ Hid (TInv w bl bm L M lv Ds W)
theorem ti_intro {w W : World} {bl bm L M t : Nat} {lv : Int} {tm : Array Value} {ds : List Deferred} (Ds : List Nat) (ht : t ≤ 2) (hT : TInv w bl bm L M lv Ds W) (h : tm = Fr w bl bm t (fun i => tm.getD i undef)) (hd : ds = Ds.map mkD) : TI w bl bm L M lv ⟨tm, ds⟩ W := ⟨t, Ds, _, by rw [hd, ← h], ht, Lib.hid hT⟩
theorem tinv_more {w V : World} {bl bm L M : Nat} {lv : Int} {Ds : List Nat} {T D : Nat} {nv : Int} {v : Value} {more : Bool} (h : RBase w bl bm L M lv Ds T nv v more V) (hp : Places w bl bm Ds T) (hD : T + 4 ≤ D) (hV : V.heap[D]? = some (.deferred (some []))) : TInv w bl bm L M lv (D :: Ds) V := by
  obtain ⟨t1, t2, t3, t4, t5⟩ := h.1
  obtain ⟨p1, p2, p3, p4⟩ := hp
  refine ⟨t1, t2, fun E hE => ?_, List.nodup_cons.2 ⟨fun hm => by have := p4 D hm; omega, t4⟩, t5⟩
  rcases List.mem_cons.1 hE with hE | hE
  · rw [hE]; exact ⟨hV, by omega, by omega, by omega⟩
  · exact t3 E hE
set_option maxRecDepth 100000 in
set_option maxHeartbeats 8000000 in
theorem all_rest {w V : World} {B bl bm L M : Nat} {lv : Int} {v : Nat → Value} (ht : TabX B w) (hL1 : 1 ≤ L) (hL2 : L ≤ 64) (hM : M ≤ 4096) (hlv1 : 1 ≤ lv) (hlv2 : lv ≤ 400) (hT : TInv w bl bm L M lv [] V) :
    (codeRest 9 (bodyOf Tryd.f7)).wpIn Fence.wide 3 Tryd.prog (bodyPostM Fence.wide 3 Tryd.prog Tryd.f7 (fun e w' => e = .returned (.bool true) ∧ Below w.heap.size w w')) ⟨#[v 0, v 1, v 2, .pointer (some ⟨w.heap.size, 0, none⟩), .pointer (some ⟨w.heap.size + 1, 0, none⟩), .pointer (some ⟨w.heap.size + 1 + 1, 0, none⟩), .pointer (some ⟨w.heap.size + 1 + 1 + 1, 0, none⟩), v 7, v 8, v 9, v 10, .func (.func 73) #[] #[.pointer (some ⟨bm, 0, none⟩), .pointer (some ⟨bl, 0, none⟩)], v 12, v 13, v 14, v 15, v 16, v 17, v 18, v 19, v 20, v 21, v 22, v 23, v 24, v 25, v 26, v 27, v 28, v 29, v 30, v 31, v 32, v 33, v 34, v 35, v 36, v 37, v 38, v 39, v 40, v 41, v 42, v 43, v 44, v 45, v 46, v 47, v 48, v 49, v 50, v 51, v 52, v 53, v 54, v 55, v 56, v 57, v 58, v 59, v 60, v 61, v 62, v 63, v 64, v 65, v 66, v 67, v 68, v 69, v 70, v 71, v 72, v 73, v 74, v 75, v 76, v 77, v 78, v 79, v 80, v 81, v 82, v 83, v 84, v 85, v 86, v 87, v 88, v 89, v 90, v 91, v 92, v 93, v 94, v 95, v 96, v 97, v 98, v 99, v 100, v 101, v 102, v 103, v 104, v 105, v 106, v 107, v 108, v 109, v 110, v 111, v 112, v 113, v 114, v 115, v 116, v 117, v 118, v 119, v 120, v 121, v 122, v 123, v 124, v 125], []⟩ V := by
  conv => enter [4]; dsimp only [codeRest, bodyOf, Tryd.f7, Option.getD_some]
  have HT := Lib.hid ht
  have HI := Lib.hid hT
  clear ht hT
  gi_wp2_with fail
  refine wpIn_loop (TI w bl bm L M lv) (fun a _ => 2 - (intOf (a.tmps.getD 13 undef)).toNat) ?h0 ?round
  case h0 => exact ⟨0, [], v, rfl, by omega, HI⟩
  case round =>
    clear v
    rintro a W ⟨t, Ds, v, rfl, ht, hT⟩
    unfold Fr
    by_cases htl : t < 2
    · have hti : (t : Int) < 2 := by omega
      gi_wp2_with fail
      obtain ⟨Wl, hWl⟩ : ∃ Wl, Wl = (((W.alloc (.cells #[.int .i64 0] 3)).alloc (.cells #[] 3)).alloc (.cells #[.slice (some ⟨W.heap.size + 1, 0, none⟩) 0 0] 22)).alloc (.cells #[.bool true] 4) := ⟨_, rfl⟩
      obtain ⟨T, hTs⟩ : ∃ T, T = W.heap.size := ⟨_, rfl⟩
      have HP := Lib.hid (show Places w bl bm Ds T ∧ RInv w bl bm L M lv Ds T [] (fun k => k = bl ∨ k = bm) Wl ∧ Wl.heap.size = T + 4 by rw [hWl, hTs]; exact start_inv hT.out hlv1)
      rw [← hWl]
      rw [← hTs]
      clear hWl hTs
      refine wpIn_rangeFunc_W (lb := #[.pointer (some ⟨bm, 0, none⟩), .pointer (some ⟨bl, 0, none⟩)]) (gf := 73) (M0 := fun k => k = bm ∨ k = bl) (Fx := fun k => k = bm ∨ k = bl) rfl (by omega) rfl trivial (enters_of Tryd.func73 (by kernel_rfl) rfl) (all_seq (w := Wl) hL1 hL2 hM (rinv_boxes HP.out.2.1).2 (rinv_boxes HP.out.2.1).1) (Below.refl _ _)
        (fun k hk => by have h1 := HP.out.1; have h2 := HP.out.2.2; have h3 := h1.2.1; have h4 := h1.2.2.1; rcases hk with h | h <;> omega)
        (RInv w bl bm L M lv Ds T) (RIx w bl bm L M lv Ds T) (rinv_ab' HP.out.1)
        (fun s Mi V l o o' h hl ho hn => rinv_put HP.out.1 h (by have := HP.out.2.2; omega) ho hn)
        (fun c s V l o o' h hl ho hn => rix_put HP.out.1 h (by have := HP.out.2.2; omega) ho hn)
        (rinv_flip HP.out.2.1) (fun b k => ⟨#[v 0, v 1, v 2, .pointer (some ⟨w.heap.size, 0, none⟩), .pointer (some ⟨w.heap.size + 1, 0, none⟩), .pointer (some ⟨w.heap.size + 1 + 1, 0, none⟩), .pointer (some ⟨w.heap.size + 1 + 1 + 1, 0, none⟩), v 7, v 8, v 9, v 10, .func (.func 73) #[] #[.pointer (some ⟨bm, 0, none⟩), .pointer (some ⟨bl, 0, none⟩)], v 12, .int .i64 (t : Int), .pointer (some ⟨T, 0, none⟩), .pointer (some ⟨T + 1 + 1, 0, none⟩), .pointer (some ⟨T + 1 + 1 + 1, 0, none⟩), .slice (some ⟨b, 0, none⟩) k k, v 18, v 19, v 20, v 21, v 22, v 23, v 24, v 25, v 26, v 27, v 28, v 29, v 30, v 31, v 32, v 33, v 34, v 35, v 36, v 37, v 38, v 39, v 40, v 41, v 42, v 43, v 44, v 45, v 46, v 47, v 48, v 49, v 50, v 51, v 52, v 53, v 54, v 55, v 56, v 57, v 58, v 59, v 60, v 61, v 62, v 63, v 64, v 65, v 66, v 67, v 68, v 69, v 70, v 71, v 72, v 73, v 74, v 75, v 76, v 77, v 78, v 79, v 80, v 81, v 82, .int .i64 (t : Int), .bool true, v 85, v 86, .slice (some ⟨T + 1, 0, none⟩) 0 0, .func (.func 73) #[] #[.pointer (some ⟨bm, 0, none⟩), .pointer (some ⟨bl, 0, none⟩)], .slice (some ⟨b, 0, none⟩) k k, v 90, v 91, v 92, v 93, v 94, v 95, v 96, v 97, v 98, v 99, v 100, v 101, v 102, v 103, v 104, v 105, v 106, v 107, v 108, v 109, v 110, v 111, v 112, v 113, v 114, v 115, v 116, v 117, v 118, v 119, v 120, v 121, v 122, v 123, v 124, v 125], []⟩) ?assign ?body ?done ?stop
      case assign =>
        intro l b k V K hK
        gi_wp2_with fail
        exact hK
      case body =>
        intro l pre x b Mi V hI hMb hFb hx hblk
        obtain ⟨⟨vw, hR, hW⟩, hMo, hch, hlen⟩ := hI
        have HRB := Lib.hid (show RBase w bl bm L M lv Ds T (pre.length : Int) vw (stW L M pre).isSome V ∧ WantV Mi V vw (stW L M pre) ∧ MOk bl bm T Mi V ∧ ChainW L M pre ∧ Mi b ∧ Blk V b 3 (x.map iv).toArray ∧ ¬ (b = bm ∨ b = bl) from ⟨hR, hW, hMo, hch, hMb, hblk, hFb⟩)
        have c14 := hR.2.1.cell 0
        have c15 := hR.2.2.1.cell 0
        have c16 := hR.2.2.2.1.cell 0
        have c6 := hR.1.1.2.2.2.1.cell 0
        have f6 := hR.1.1.2.2.2.1.frozen 0
        rw [show (#[Value.int .i64 (pre.length : Int)] : Array Value)[0]? = some (.int .i64 (pre.length : Int)) from rfl] at c14
        rw [show (#[vw] : Array Value)[0]? = some vw from rfl] at c15
        rw [show (#[Value.bool (stW L M pre).isSome] : Array Value)[0]? = some (.bool (stW L M pre).isSome) from rfl] at c16
        rw [show (#[Value.bool false] : Array Value)[0]? = some (.bool false) from rfl] at c6
        clear hR hW hMo hch hMb hblk hFb
        have HN := Lib.hid (show ∀ o, stW L M pre = o → o ≠ some x → ∀ V', RIx w bl bm L M lv Ds T .ret (pre ++ [x]) V' from fun o ho hne V' => .inl ⟨rfl, fun h => hne (by rw [← ho]; exact (chain_snoc.1 h).2)⟩)
        obtain ⟨o, ho⟩ : ∃ o, stW L M pre = o := ⟨_, rfl⟩
        rw [ho] at HRB c16
        have Ho := Lib.hid ho
        clear ho
        cases o with
        | none =>
          rw [show (none : Option (List Int)).isSome = false from rfl] at c16
          gi_wp2_with fail
          refine ⟨trivial, ?_⟩
          gi_wp2_with fail
          exact ⟨(KeepsOthers.setCell _ _ _).from _, HN.out none Ho.out (by intro h; cases h) _⟩
        | some y =>
          rw [show (some y : Option (List Int)).isSome = true from rfl] at c16
          obtain ⟨A, c, hvw, hry, hny⟩ := HRB.out.2.1
          subst hvw
          have Hgy := Lib.hid (chain_good hL1 HRB.out.2.2.2.1 Ho.out)
          have Hry := Lib.hid (And.intro hry hny)
          clear hry hny
          have hrx := Lib.hid (blk_reads HRB.out.2.2.2.2.2.1)
          have HS := Lib.hid (same_any (n := x.length) (c := x.length) (n' := y.length) (c' := c) hrx.out Hry.out.1 rfl rfl (by omega) (by have := Hgy.out.2; omega))
          gi_wp2_with fail
          refine ⟨trivial, ?_⟩
          refine (CallsIn.inRound l (callsIn_wide.2 HS.out)).mono ?_
          rintro e W2 ⟨d, rfl, hW2⟩
          by_cases hxy : x = y
          · rw [decide_eq_true hxy]
            have HB := Lib.hid (show V.grownBy W2 (some b) ∧ ∃ z : List Int, z.length = x.length ∧ Blk W2 b 3 (z.map iv).toArray by
              rw [← hW2]; exact ⟨⟨rfl, rfl, rfl, Nat.le_refl _, fun _ _ _ => rfl⟩, x, rfl, HRB.out.2.2.2.2.2.1⟩)
            have Hxy := Lib.hid hxy
            have hb4 : T + 4 ≤ b := by
              have h1 := (HRB.out.2.2.1 b HRB.out.2.2.2.2.1).1
              have h2 := HRB.out.2.2.2.2.2.2
              rcases h1 with h | h | h
              · exact absurd (Or.inr h) h2
              · exact absurd (Or.inl h) h2
              · exact h
            clear hW2 hxy c14 c15 c16 c6 f6
            gi_wp2_with fail
            gi_loopw [18] (fun nv wr => ∃ i : Nat, nv = .int .i64 (i : Int) ∧ i ≤ x.length ∧ Hid (V.grownBy wr (some b) ∧ ∃ z : List Int, z.length = x.length ∧ Blk wr b 3 (z.map iv).toArray)) (fun nv _ => x.length - (intOf nv).toNat)
            case atStart => exact ⟨0, rfl, by omega, HB⟩
            case round =>
              obtain ⟨i, rfl, hi, hZ⟩ := hrel
              by_cases hlt : i < x.length
              · have hii : (i : Int) < (x.length : Int) := by omega
                obtain ⟨hg, z, hz, hbz⟩ := hZ.out
                have hout : ∃ u, wr.cell? ⟨b, i, none⟩ = some u := by
                  rw [hbz.cell i]
                  exact ⟨_, Array.getElem?_eq_getElem (by simp; omega)⟩
                obtain ⟨u, hout⟩ := hout
                have hfz := hbz.frozen i
                have HZ := Lib.hid (show V.grownBy (wr.setCell ⟨b, i, none⟩ (.int .i64 99)) (some b) ∧ ∃ z : List Int, z.length = x.length ∧ Blk (wr.setCell ⟨b, i, none⟩ (.int .i64 99)) b 3 (z.map iv).toArray from
                  ⟨hg.trans (grown_set wr _ _), z.set i 99, by rw [List.length_set]; exact hz, by
                    have h := hbz.set_ i (.int .i64 99)
                    rw [show (z.map iv).toArray.setIfInBounds i (.int .i64 99) = ((z.set i 99).map iv).toArray by rw [List.setIfInBounds_toArray, List.map_set]; rfl] at h
                    exact h⟩)
                clear hg hbz hz
                gi_wp2_with fail
                go_roundw
                case rel => exact ⟨i + 1, by congr 1, by omega, HZ⟩
                case measure => simp [intOf]; omega
              · have hii : (x.length : Int) ≤ (i : Int) := by omega
                have HR2 := Lib.hid (rbase_grown HRB.out.1 HP.out.1 hb4 hZ.out.1)
                have d15 := HR2.out.2.2.1.cell 0
                have d3 := HR2.out.1.1.1.cell 0
                have d4 := HR2.out.1.1.2.1.cell 0
                rw [show (#[Value.slice A y.length c] : Array Value)[0]? = some (.slice A y.length c) from rfl] at d15
                rw [show (#[Value.int .i64 (L : Int)] : Array Value)[0]? = some (.int .i64 (L : Int)) from rfl] at d3
                rw [show (#[Value.int .i64 (M : Int)] : Array Value)[0]? = some (.int .i64 (M : Int)) from rfl] at d4
                have Hry2 := Lib.hid (reads_grown Hry.out.1 (fun hl ad e h => Hry.out.2 hl ad e (by rw [h]; exact HRB.out.2.2.2.2.1)) hZ.out.1)
                have HX := Lib.hid (rnext_any (n := y.length) (c := c) (L := L) (M := M) Hry2.out (Nat.le_refl _) rfl (by have := Hgy.out.2; omega) hL1 hL2 hM Hgy.out.1)
                gi_wp2_with fail
                refine ⟨trivial, ?_⟩
                refine (CallsIn.inRound l (callsIn_wide.2 HX.out)).mono ?_
                rintro e w3 ⟨hb3, hcase⟩
                have HR3 := Lib.hid (rbase_below HR2.out HP.out.1 hb3)
                have e14 := HR3.out.2.1.cell 0
                have e15 := HR3.out.2.2.1.cell 0
                have e16 := HR3.out.2.2.2.1.cell 0
                have e5 := HR3.out.1.1.2.2.1.cell 0
                have f14 := HR3.out.2.1.frozen 0
                have f15 := HR3.out.2.2.1.frozen 0
                have f16 := HR3.out.2.2.2.1.frozen 0
                rw [show (#[Value.int .i64 (pre.length : Int)] : Array Value)[0]? = some (.int .i64 (pre.length : Int)) from rfl] at e14
                rw [show (#[Value.slice A y.length c] : Array Value)[0]? = some (.slice A y.length c) from rfl] at e15
                rw [show (#[Value.bool (some y).isSome] : Array Value)[0]? = some (.bool true) from rfl] at e16
                rw [show (#[Value.int .i64 lv] : Array Value)[0]? = some (.int .i64 lv) from rfl] at e5
                have Hb3 := Lib.hid hb3
                clear hb3 d3 d4 d15
                have hpl : (pre.length : Int) ≤ 400 := by omega
                by_cases hlast : (pre.length : Int) + 1 = lv
                · have hlb : ((pre.length : Int) + 1 == lv) = true := by simpa using hlast
                  have Hlast := Lib.hid hlast
                  clear hlast
                  rcases hcase with ⟨y2, hy2, A2, n2, c2, rfl, ho2⟩ | ⟨hy2, rfl⟩
                  · have Ho2 := Lib.hid (And.intro hy2 ho2)
                    clear hy2 ho2
                    have e52 := (body4_base (nv' := (pre.length : Int) + 1) (v' := (.slice A2 n2 c2)) (more' := true) HRB.out.1 HP.out.1 hb4 hZ.out.1 Hb3.out).1.1.2.2.1.cell 0
                    rw [show (#[Value.int .i64 lv] : Array Value)[0]? = some (.int .i64 lv) from rfl] at e52
                    unfold Body4 at e52
                    clear e5
                    gi_wp2_with fail
                    exact ⟨(by rw [HP.out.2.2]; exact body4_keepsFrom HRB.out.2.2.2.2.2.1 hZ.out.1 Hb3.out), .inr ⟨rfl, (.slice A2 n2 c2), true, by have h := body4_base (nv' := (pre.length : Int) + 1) (v' := (.slice A2 n2 c2)) (more' := true) HRB.out.1 HP.out.1 hb4 hZ.out.1 Hb3.out; unfold Body4 at h; rw [Hlast.out] at h ⊢; exact h⟩⟩
                  · have Hy2 := Lib.hid hy2
                    clear hy2
                    have e52 := (body4_base (nv' := (pre.length : Int) + 1) (v' := (.slice none 0 0)) (more' := false) HRB.out.1 HP.out.1 hb4 hZ.out.1 Hb3.out).1.1.2.2.1.cell 0
                    rw [show (#[Value.int .i64 lv] : Array Value)[0]? = some (.int .i64 lv) from rfl] at e52
                    unfold Body4 at e52
                    clear e5
                    gi_wp2_with fail
                    exact ⟨(by rw [HP.out.2.2]; exact body4_keepsFrom HRB.out.2.2.2.2.2.1 hZ.out.1 Hb3.out), .inr ⟨rfl, (.slice none 0 0), false, by have h := body4_base (nv' := (pre.length : Int) + 1) (v' := (.slice none 0 0)) (more' := false) HRB.out.1 HP.out.1 hb4 hZ.out.1 Hb3.out; unfold Body4 at h; rw [Hlast.out] at h ⊢; exact h⟩⟩
                · have hlb : ((pre.length : Int) + 1 == lv) = false := by simpa using hlast
                  have Hlast := Lib.hid hlast
                  have Hlt := Lib.hid (show (pre.length : Int) + 1 < lv by omega)
                  clear hlast
                  rcases hcase with ⟨y2, hy2, A2, n2, c2, rfl, ho2⟩ | ⟨hy2, rfl⟩
                  · have Ho2 := Lib.hid (And.intro hy2 ho2)
                    clear hy2 ho2
                    have e52 := (body4_base (nv' := (pre.length : Int) + 1) (v' := (.slice A2 n2 c2)) (more' := true) HRB.out.1 HP.out.1 hb4 hZ.out.1 Hb3.out).1.1.2.2.1.cell 0
                    rw [show (#[Value.int .i64 lv] : Array Value)[0]? = some (.int .i64 lv) from rfl] at e52
                    unfold Body4 at e52
                    clear e5
                    gi_wp2_with fail
                    exact ⟨(by rw [HP.out.2.2]; exact body4_keepsFrom HRB.out.2.2.2.2.2.1 hZ.out.1 Hb3.out), body4_keepM HP.out.1 HRB.out.2.2.1 hZ.out.1 Hb3.out, round_some HRB.out.1 HP.out.1 hb4 hZ.out.1 Hb3.out HRB.out.2.2.1 HRB.out.2.2.2.1 Ho.out Hxy.out Ho2.out.1 Ho2.out.2 Hlt.out⟩
                  · have Hy2 := Lib.hid hy2
                    clear hy2
                    have e52 := (body4_base (nv' := (pre.length : Int) + 1) (v' := (.slice none 0 0)) (more' := false) HRB.out.1 HP.out.1 hb4 hZ.out.1 Hb3.out).1.1.2.2.1.cell 0
                    rw [show (#[Value.int .i64 lv] : Array Value)[0]? = some (.int .i64 lv) from rfl] at e52
                    unfold Body4 at e52
                    clear e5
                    gi_wp2_with fail
                    exact ⟨(by rw [HP.out.2.2]; exact body4_keepsFrom HRB.out.2.2.2.2.2.1 hZ.out.1 Hb3.out), body4_keepM HP.out.1 HRB.out.2.2.1 hZ.out.1 Hb3.out, round_none HRB.out.1 HP.out.1 hb4 hZ.out.1 Hb3.out HRB.out.2.2.1 HRB.out.2.2.2.1 Ho.out Hxy.out Hy2.out Hlt.out⟩
          · rw [decide_eq_false hxy]
            have hx2 : some y ≠ some x := fun h => by injection h with h; exact hxy h.symm
            have c62 : W2.cell? ⟨w.heap.size + 1 + 1 + 1, 0, none⟩ = some (.bool false) := by rw [← hW2]; exact c6
            have f62 : W2.frozen? ⟨w.heap.size + 1 + 1 + 1, 0, none⟩ = false := by rw [← hW2]; exact f6
            have HK := Lib.hid (show KeepsFrom Wl.heap.size V W2 by rw [← hW2]; exact KeepsFrom.drewN _ _ _)
            have Hx := Lib.hid hx2
            clear hW2 hxy hx2
            gi_wp2_with fail
            exact ⟨HK.out.trans ((KeepsOthers.setCell _ _ _).from _), HN.out (some y) Ho.out Hx.out _⟩
      case done =>
        intro D Mi V hD hI hV
        have hI2 := hI
        obtain ⟨⟨vw, hR, _⟩, _, _, hlen⟩ := hI2
        rw [st_all hL1] at hR
        have HR := Lib.hid hR
        have c14 := hR.2.1.cell 0
        have c5 := hR.1.1.2.2.1.cell 0
        have c16 := hR.2.2.2.1.cell 0
        rw [show (#[Value.int .i64 lv] : Array Value)[0]? = some (.int .i64 lv) from rfl] at c5
        rw [show (#[Value.bool (none : Option (List Int)).isSome] : Array Value)[0]? = some (.bool false) from rfl] at c16
        obtain ⟨N, hN⟩ : ∃ N : Int, N = ((allW L M).length : Int) := ⟨_, rfl⟩
        rw [← hN] at c14 hlen
        rw [show (#[Value.int .i64 N] : Array Value)[0]? = some (.int .i64 N) from rfl] at c14
        have hne : (N != lv) = true := by simp; omega
        have HV := Lib.hid hV
        clear hR hI hV hN
        gi_wp2_with fail
        exact ⟨ti_intro (t := t + 1) (D :: Ds) (by omega) (tinv_more HR.out HP.out.1 (by have := HP.out.2.2; omega) HV.out) (by simp only [Fr]; rfl) rfl, by show 2 - ((t : Int) + 1).toNat < 2 - ((t : Int)).toNat; omega⟩
      case stop =>
        intro D c pre V hD hpre hI hV
        rcases hI with ⟨rfl, hno⟩ | ⟨rfl, vw, more, hR⟩
        · exact absurd (chain_prefix hL1 hpre) hno
        · have HR := Lib.hid hR
          have c14 := hR.2.1.cell 0
          have c5 := hR.1.1.2.2.1.cell 0
          rw [show (#[Value.int .i64 lv] : Array Value)[0]? = some (.int .i64 lv) from rfl] at c5 c14
          have hne : (lv != lv) = false := by simp
          have HV := Lib.hid hV
          clear hR hV
          gi_wp2_with fail
          exact ⟨ti_intro (t := t + 1) (D :: Ds) (by omega) (tinv_more HR.out HP.out.1 (by have := HP.out.2.2; omega) HV.out) (by simp only [Fr]; rfl) rfl, by show 2 - ((t : Int) + 1).toNat < 2 - ((t : Int)).toNat; omega⟩
    · have hti : (2 : Int) ≤ (t : Int) := by omega
      gi_wp2_with fail
      have HTW := Lib.hid (HT.out.far hT.out.2.1 HT.out.2)
      refine ⟨trivial, (callsIn_wide.2 (known_any HTW.out.1 HTW.out.2)).mono ?_⟩
      rintro e w6 ⟨rfl, hb6⟩
      have HE := Lib.hid (show Blk w6 (w.heap.size + 1 + 1 + 1) 4 #[.bool false] ∧ Below w.heap.size w w6 ∧ ∀ D ∈ Ds, w6.heap[D]? = some (.deferred (some [])) by
        have h3 := hT.out.1.2.2.2.1
        exact ⟨h3.below hb6 h3.lt, hT.out.2.1.trans (hb6.mono hT.out.2.1.size), fun D hD => (hb6.block D (Array.getElem?_eq_some_iff.1 (hT.out.2.2.1 D hD).1).1).trans (hT.out.2.2.1 D hD).1⟩)
      clear hb6
      have c3 := HE.out.1.cell 0
      have f3 := HE.out.1.frozen 0
      rw [show (#[Value.bool false] : Array Value)[0]? = some (.bool false) from rfl] at c3
      gi_wp2_with fail
      have hset := HE.out.1.set_ 0 (.bool true)
      refine leaves_marks (fun V => Blk V (w.heap.size + 1 + 1 + 1) 4 #[.bool true] ∧ Below w.heap.size w V) Ds ?_ ?_ _ ⟨hset, HE.out.2.1.setCell (by show w.heap.size ≤ w.heap.size + 1 + 1 + 1; omega) _⟩ ?_ hT.out.2.2.2.1
      · rintro V D hD ⟨h1, h2⟩ hV
        have h4 := (hT.out.2.2.1 D hD).2.1
        exact ⟨(World.putObj_heap_other (by omega)).trans h1, h2.trans ((Below.refl w.heap.size V).grown (grownBy_putObj' V D _) (by have := h2.size; omega) (fun k e => by cases e; omega))⟩
      · rintro V ⟨h1, h2⟩
        have c4 : V.cell? ⟨w.heap.size + 1 + 1 + 1, 0, none⟩ = some (.bool true) := h1.cell 0
        exact ⟨.bool true, by simp [results, Tryd.results7, go_sem, c4], rfl, h2⟩
      · intro D hD
        have h4 := (hT.out.2.2.1 D hD).2.1
        exact (Below.heap_setCell _ _ _ D (by show D ≠ w.heap.size + 1 + 1 + 1; omega)).trans (HE.out.2.2 D hD)
theorem all_rest_any {w V : World} {B bl bm L M : Nat} {lv : Int} {tm : Array Value} (ht : TabX B w) (hL1 : 1 ≤ L) (hL2 : L ≤ 64) (hM : M ≤ 4096) (hlv1 : 1 ≤ lv) (hlv2 : lv ≤ 400) (hT : TInv w bl bm L M lv [] V) (h : tm = Fr0 w bl bm (fun i => tm.getD i undef)) :
    (codeRest 9 (bodyOf Tryd.f7)).wp Tryd.prog (bodyPostM Fence.wide 3 Tryd.prog Tryd.f7 (fun e w' => e = .returned (.bool true) ∧ Below w.heap.size w w')) ⟨tm, []⟩ V := by
  rw [h]
  exact wpIn_wide.1 (all_rest (v := fun i => tm.getD i undef) ht hL1 hL2 hM hlv1 hlv2 hT)
end Go.Proofs.YtmjnhpagoboejaaDoor


/- law.WordsAll. -/
namespace Go.Proofs.YtmjnhpagoboejaaDoor
open Go.RowKit Go.Shelf
open Wd
set_option linter.unusedSimpArgs false
set_option linter.unusedVariables false

theorem start_tinv {w : World} {L M : Nat} {lv lv' : Int} {W0 W1 : World} (h0 : Below w.heap.size w W0 ∧ W0.heap.size = w.heap.size + 4 ∧ Blk W0 w.heap.size 3 #[.int .i64 (L : Int)] ∧ Blk W0 (w.heap.size + 1) 3 #[.int .i64 (M : Int)] ∧ Blk W0 (w.heap.size + 1 + 1) 3 #[.int .i64 lv] ∧ Blk W0 (w.heap.size + 1 + 1 + 1) 4 #[.bool false]) (h1 : W1 = allBoxes W0 (L : Int) (M : Int)) :
    TInv w W0.heap.size (W0.heap.size + 1) L M lv [] W1 ∧ (∀ lv', TInv w W0.heap.size (W0.heap.size + 1) L M lv' [] (W1.setCell ⟨w.heap.size + 1 + 1, 0, none⟩ (.int .i64 lv'))) := by
  obtain ⟨hb, hs, b0, b1, b2, b3⟩ := h0
  have n0 := (Blk.new W0 3 #[.int .i64 (L : Int)]).alloc (.cells #[.int .i64 (M : Int)] 3)
  have n1 := Blk.new (W0.alloc (.cells #[.int .i64 (L : Int)] 3)) 3 #[.int .i64 (M : Int)]
  rw [World.size_alloc] at n1
  have hbox : Below W0.heap.size W0 W1 := by rw [h1]; exact allBoxes_below _ _ _
  have e1 : W1 = (W0.alloc (.cells #[.int .i64 (L : Int)] 3)).alloc (.cells #[.int .i64 (M : Int)] 3) := h1
  have m0 : Blk W1 W0.heap.size 3 #[.int .i64 (L : Int)] := by rw [e1]; exact n0
  have m1 : Blk W1 (W0.heap.size + 1) 3 #[.int .i64 (M : Int)] := by rw [e1]; exact n1
  have c0 := b0.below hbox b0.lt
  have c1 := b1.below hbox b1.lt
  have c2 := b2.below hbox b2.lt
  have c3 := b3.below hbox b3.lt
  have hB : Below w.heap.size w W1 := hb.trans (hbox.mono hb.size)
  refine ⟨⟨⟨c0, c1, c2, c3, m0, m1⟩, hB, fun D hD => (by cases hD), List.nodup_nil, by omega, by omega⟩, fun lv' => ⟨⟨?_, ?_, ?_, ?_, ?_, ?_⟩, hB.setCell (by show w.heap.size ≤ w.heap.size + 1 + 1; omega) _, fun D hD => (by cases hD), List.nodup_nil, by omega, by omega⟩⟩
  · exact c0.far (p := ⟨w.heap.size + 1 + 1, 0, none⟩) (by show w.heap.size ≠ w.heap.size + 1 + 1; omega) _
  · exact c1.far (p := ⟨w.heap.size + 1 + 1, 0, none⟩) (by show w.heap.size + 1 ≠ w.heap.size + 1 + 1; omega) _
  · exact c2.set_ 0 _
  · exact c3.far (p := ⟨w.heap.size + 1 + 1, 0, none⟩) (by show w.heap.size + 1 + 1 + 1 ≠ w.heap.size + 1 + 1; omega) _
  · exact m0.far (p := ⟨w.heap.size + 1 + 1, 0, none⟩) (by show W0.heap.size ≠ w.heap.size + 1 + 1; omega) _
  · exact m1.far (p := ⟨w.heap.size + 1 + 1, 0, none⟩) (by show W0.heap.size + 1 ≠ w.heap.size + 1 + 1; omega) _
set_option maxRecDepth 100000 in
set_option maxHeartbeats 8000000 in
theorem all_main {w : World} {B L M : Nat} {lv : Int} (ht : TabX B w) (hL1 : 1 ≤ L) (hL2 : L ≤ 64) (hM : M ≤ 4096) (hl1 : -9223372036854775808 ≤ lv) (hl2 : lv ≤ 9223372036854775807) :
    Calls Tryd.prog 7 #[.int .i64 (L : Int), .int .i64 (M : Int), .int .i64 lv] w (fun e w' => e = .returned (.bool true) ∧ Below w.heap.size w w') := by
  have HT := Lib.hid ht
  have HC := Lib.hid (fun W : World => And.intro (count_any (w := W) (n := (L : Int)) (x := (M : Int)) (by omega) (by omega) (by omega) (by omega)) (rcount_any (w := W) (n := (L : Int)) (x := (M : Int)) (by omega) (by omega) (by omega) (by omega)))
  obtain ⟨c, hc⟩ : ∃ c, countI (L : Int) (M : Int) = c := ⟨_, rfl⟩
  have hg := countI_good (n := (L : Int)) (x := (M : Int)) (by omega)
  rw [hc] at HC hg
  obtain ⟨c1, c2⟩ := c
  have hz : (c2 == 2) = false := by
    rcases hg with h | h
    · rw [show c2 = 0 from h]; rfl
    · rw [show c2 = 4 from h]; rfl
  clear hc hg
  have HA := Lib.hid (fun W : World => all_ok (w := W) (x := (L : Int)) (m := (M : Int)) (by omega) (by omega) (by omega) (by omega))
  have hnn := eql_func
  have hMi : (M : Int) ≤ 4096 := by omega
  obtain ⟨W0, hW0⟩ : ∃ W0, W0 = (((w.alloc (.cells #[.int .i64 (L : Int)] 3)).alloc (.cells #[.int .i64 (M : Int)] 3)).alloc (.cells #[.int .i64 lv] 3)).alloc (.cells #[.bool false] 4) := ⟨_, rfl⟩
  have H0 := Lib.hid (show Below w.heap.size w W0 ∧ W0.heap.size = w.heap.size + 4 ∧ Blk W0 w.heap.size 3 #[.int .i64 (L : Int)] ∧ Blk W0 (w.heap.size + 1) 3 #[.int .i64 (M : Int)] ∧ Blk W0 (w.heap.size + 1 + 1) 3 #[.int .i64 lv] ∧ Blk W0 (w.heap.size + 1 + 1 + 1) 4 #[.bool false] by
    rw [hW0]; exact env_boxes w (L : Int) (M : Int) lv)
  clear ht
  refine (callsIn_wide (n := 3)).1 ?_
  refine callsIn_of_wp_marks Tryd.func7 rfl trivial (wpIn_wide.2 ?_) rfl
  simp only [Tryd.ntmps7, List.size_toArray, List.length_cons, List.length_nil, Nat.reduceAdd, Nat.reduceSub, Array.replicate_succ, Array.replicate_zero, List.push_toArray, List.append_toArray, List.nil_append, List.cons_append]
  go_wp2_with fail
  rw [← hW0]
  clear hW0
  refine (HC.out W0).1.mono ?_
  rintro e w' ⟨rfl, rfl⟩
  have d0 := H0.out.2.2.1.cell 0
  have d1 := H0.out.2.2.2.1.cell 0
  rw [show (#[Value.int .i64 (L : Int)] : Array Value)[0]? = some (.int .i64 (L : Int)) from rfl] at d0
  rw [show (#[Value.int .i64 (M : Int)] : Array Value)[0]? = some (.int .i64 (M : Int)) from rfl] at d1
  go_wp2_with fail
  refine (HC.out W0).2.mono ?_
  rintro e w' ⟨rfl, rfl⟩
  go_wp2_with (go_at_call 20; refine num_any.mono ?_; rintro e w' ⟨rfl, rfl⟩)
  refine (HA.out W0).mono ?_
  rintro e w1 ⟨rfl, hw1⟩
  have HI := Lib.hid (start_tinv (lv' := lv) H0.out hw1)
  clear hw1 d0 d1
  have d1 := HI.out.1.1.2.1.cell 0
  have d2 := HI.out.1.1.2.2.1.cell 0
  have f2 := HI.out.1.1.2.2.1.frozen 0
  rw [show (#[Value.int .i64 (M : Int)] : Array Value)[0]? = some (.int .i64 (M : Int)) from rfl] at d1
  rw [show (#[Value.int .i64 lv] : Array Value)[0]? = some (.int .i64 lv) from rfl] at d2
  go_upto_region 12 with (go_at_call 20; refine num_any.mono ?_; rintro e w' ⟨rfl, rfl⟩)
  by_cases h1 : lv < 1
  · have Hlv := Lib.hid h1
    go_upto_if 82 with fail
    go_cut [] from 77 to 82 (fun wx => Hid (TInv w W0.heap.size (W0.heap.size + 1) L M 400 [] wx))
    case first =>
      go_wp2_with fail
      go_meet
      case rel => exact Lib.hid (HI.out.2 400)
    case rest =>
      go_step
      exact all_rest_any HT.out hL1 hL2 hM (by decide) (by decide) hcut.out (by simp only [Fr0]; rfl)
  · by_cases h2 : 400 < lv
    · have h1' : 1 ≤ lv := by omega
      go_upto_if 82 with fail
      go_cut [] from 77 to 82 (fun wx => Hid (TInv w W0.heap.size (W0.heap.size + 1) L M 400 [] wx))
      case first =>
        go_wp2_with fail
        go_meet
        case rel => exact Lib.hid (HI.out.2 400)
      case rest =>
        go_step
        exact all_rest_any HT.out hL1 hL2 hM (by decide) (by decide) hcut.out (by simp only [Fr0]; rfl)
    · have h1' : 1 ≤ lv := by omega
      have h2' : lv ≤ 400 := by omega
      go_upto_if 82 with fail
      go_cut [] from 77 to 82 (fun wx => Hid (TInv w W0.heap.size (W0.heap.size + 1) L M lv [] wx))
      case first =>
        go_wp2_with fail
        go_meet
        case rel => exact Lib.hid HI.out.1
      case rest =>
        go_step
        exact all_rest_any HT.out hL1 hL2 hM h1' h2' hcut.out (by simp only [Fr0]; rfl)
/-- all of it -/
theorem all_law {w : World} {B : Nat} {x m lv : Int} (ht : TabX B w) (hx1 : -9223372036854775808 ≤ x) (hx2 : x ≤ 9223372036854775807) (hm1 : -9223372036854775808 ≤ m) (hm2 : m ≤ 9223372036854775807) (hl1 : -9223372036854775808 ≤ lv) (hl2 : lv ≤ 9223372036854775807) :
    Calls Tryd.prog 7 #[.int .i64 x, .int .i64 m, .int .i64 lv] w (fun e w' => e = .returned (.bool true) ∧ Below w.heap.size w w') := by
  by_cases hb : x < 1 ∨ 64 < x ∨ m < 0
  · exact all_bad_law ht hx1 hx2 hm1 hm2 hb
  · by_cases hm : 4096 < m
    · exact all_long_law ht hx1 hx2 hm1 hm2 (by omega) (by omega) hm
    · obtain ⟨L, rfl⟩ : ∃ L : Nat, x = (L : Int) := ⟨x.toNat, by omega⟩
      obtain ⟨M, rfl⟩ : ∃ M : Nat, m = (M : Int) := ⟨m.toNat, by omega⟩
      exact all_main ht (by omega) (by omega) (by omega) hl1 hl2
end Go.Proofs.YtmjnhpagoboejaaDoor
