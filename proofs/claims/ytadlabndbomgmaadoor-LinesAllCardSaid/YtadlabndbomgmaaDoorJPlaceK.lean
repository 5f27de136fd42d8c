/- The walk of floats.Place, and what it leaves alone; no place where the side is none, or there are too many. -/
import Derived.BigQuiet
import Derived.Handy
import Derived.Test.YtadlabndbomgmaaDoorJ6
set_option linter.unusedVariables false
set_option linter.unusedSimpArgs false
namespace Go.Proofs.YtadlabndbomgmaaDoor
open Go.ChangeShapes Go.WideShapes Go.ChangeAt Go.RowKit
theorem Only.setCell {C : Nat → Prop} {w : World} {p : Addr} (hp : C p.block) (u : Value) : Only C w (w.setCell p u) := ⟨rfl, rfl, rfl, by simp [World.setCell], fun k _ hc => Below.heap_setCell w p u k fun e => hc (by rw [e]; exact hp)⟩
set_option maxRecDepth 100000 in
set_option maxHeartbeats 1000000 in
theorem PlaceK_any (b : Nat) (side y wd h width M : Int) (fs : List Fl) (Fv : Value) (w : World) (hbF : Blk w b 89 #[.int .i64 width, Fv]) (hownF : w.ownsRow 0 153 5 Fv fs.length (flCells fs)) (hn : fs.length < 200) (hs : side = 1 ∨ side = 2) (h0 : 0 ≤ M) (hM : M ≤ 100000000000) (hy : cut y ≤ M)
    (hw : -16777216 ≤ width ∧ width ≤ 16777216) (hok : ∀ f ∈ fs, FlBd f ∧ f.y + f.h ≤ M) :
    Calls Tryd.prog 63 #[.pointer (some ⟨b, 0, none⟩), .int .i64 side, .int .i64 y, .int .i64 wd, .int .i64 h] w fun e w' =>
      ∃ (x y' : Int) (Fv' : Value), e = .returned (.tuple #[.int .i64 x, .int .i64 y', .int .i64 0]) ∧ Blk w' b 89 #[.int .i64 width, Fv'] ∧ w'.ownsRow 0 153 5 Fv' (fs.length + 1) (flCells (fs ++ [⟨x, y', max 0 (cut wd), max 0 (cut h), side⟩])) ∧
        Only (fun k => k = b ∨ Fv.ownBlock = some k) w w' ∧ (∀ k, Fv'.ownBlock = some k → Fv.ownBlock = some k ∨ w.heap.size ≤ k) ∧ Placed width fs side (cut y) (max 0 (cut wd)) (max 0 (cut h)) M x y' := by
  obtain ⟨A, c, rfl, _, _⟩ := own_reads hownF
  have hb := hbF
  have hown := hownF
  have hfd := hide (show FloatsAt w 0 b width fs from ⟨A, c, hbF, Nat.zero_le _, hownF⟩)
  clear hbF hownF
  have c0 : w.cell? ⟨b, 0, none⟩ = some (.int .i64 width) := hb.cell 0
  have c1 : w.cell? ⟨b, 1, none⟩ = some (.slice A fs.length c) := hb.cell 1
  have Hown := hide hown
  have Hok := hide hok
  have hs1 : (side != 1 && side != 2) = false := by rcases hs with rfl | rfl <;> decide
  have y1 := cut_lo y
  have y2 := cut_hi y
  have w2 := cut_hi wd
  have h2 := cut_hi h
  clear hown hok
  have hn1 : decide (200 ≤ (fs.length : Int)) = false := decide_eq_false (by omega)
  clear hs1
  have W0 := hide (show 0 ≤ max 0 (cut wd) ∧ max 0 (cut wd) ≤ 16777216 from by omega)
  have H0 := hide (show 0 ≤ max 0 (cut h) ∧ max 0 (cut h) ≤ 16777216 from by omega)
  have hsz0 : b < w.heap.size := hb.lt
  rcases hs with rfl | rfl
  all_goals
    go_enter Tryd.func63, Tryd.ntmps63
    go_wp2_with (go_at_call 13; refine (cut_any _ _).mono ?_; rintro e w' ⟨rfl, rfl⟩)
    generalize hW : max 0 (cut wd) = W at *
    generalize hH : max 0 (cut h) = H at *
    generalize hY : cut y = Y at *
    have EW := hide hW
    have EH := hide hH
    have EY := hide hY
    clear hW hH hY
    go_loopw [2, 14, 46] (fun l p i wr => ∃ k : Nat, k ≤ fs.length ∧ i = .int .i64 k ∧ l = .int .i64 (topY Y (fs.take k)) ∧ Below w.heap.size w wr) (fun _ _ i _ => fs.length - (intOf i).toNat)
    case atStart => exact ⟨0, Nat.zero_le _, rfl, rfl, Below.refl _ _⟩
    case round =>
      obtain ⟨k, hk, rfl, rfl, hbel⟩ := hrel
      by_cases hlt : k < fs.length
      · obtain ⟨g, rfl, _, hg, f0, f1, f2, f3, f4⟩ := floatCell Hown.out hlt
        have d0 := (hbel.cell (p := ⟨g, k * 5, none⟩) hg).trans f0
        have d1 := (hbel.cell (p := ⟨g, k * 5 + 1, none⟩) hg).trans f1
        have d2 := (hbel.cell (p := ⟨g, k * 5 + 2, none⟩) hg).trans f2
        have d3 := (hbel.cell (p := ⟨g, k * 5 + 3, none⟩) hg).trans f3
        have d4 := (hbel.cell (p := ⟨g, k * 5 + 4, none⟩) hg).trans f4
        have e1 := hide (topY_take Y fs k hlt)
        generalize fs[k] = f at *
        obtain ⟨fx, fy, fw, fh, fsd⟩ := f
        clear f0 f1 f2 f3 f4
        dsimp only at d0 d1 d2 d3 d4
        go_wp2_with fail
        go_roundw
        case rel => exact ⟨k + 1, by omega, by go_num, by rw [e1.out], hbel.alloc hbel.size _⟩
        case measure => simp [intOf]; omega
      · have hk2 : k = fs.length := by omega
        have ht : fs.take k = fs := List.take_of_length_le (by omega)
        rw [ht]
        subst hk2
        clear ht hlt hk
        have T := topY_spec fs Y
        have T1 := T.1
        have T2 := hide T.2.1
        have T3 := T.2.2 M hy (fun f hf => by have := Hok.out f hf; unfold FlBd at this; omega)
        clear T
        generalize topY Y fs = yy at *
        have hfr := hide (hfd.out.below hbel)
        have HokB := hide (fun f hf => (Hok.out f hf).1)
        have hn2 : fs.length ≤ 200 := by omega
        have H1 := H0.out
        have W1 := W0.out
        have e5 : ¬ (200 ≤ (fs.length : Int)) := by omega
        have hxw : ∀ f ∈ fs, -16777216 ≤ f.x ∧ f.x + f.w ≤ 33554432 := fun f hf => by have := HokB.out f hf; unfold FlBd at this; omega
        have Hxw := hide hxw
        have hne : ∀ f ∈ fs, -16777216 ≤ f.y + f.h ∧ f.y + f.h ≤ 1000000000000 := fun f hf => by have := Hok.out f hf; unfold FlBd at this; omega
        have Hne := hide hne
        clear hxw hne
        go_wp2_with fail
        refine (edges_any b 0 yy H width fs _ hfr.out hn2 (by omega) (by omega) (by omega) HokB.out).mono ?_
        rintro e w1 ⟨rfl, hb1⟩
        have hbel1 := below_on hbel hb1
        clear hb1 hfr hbel
        go_wp2_with fail
        go_loopw [2, 15, 16, 17] (fun yv l r m wr => ∃ y' : Int, yv = .int .i64 y' ∧ yy ≤ y' ∧ y' ≤ M ∧ l = .int .i64 (edgesF width y' H fs).1 ∧ r = .int .i64 (edgesF width y' H fs).2.1 ∧ m = .bool (edgesF width y' H fs).2.2 ∧ Below w.heap.size w wr) (fun yv _ _ _ _ => (M - intOf yv).toNat)
        case atStart => exact ⟨yy, rfl, Int.le_refl _, T3, rfl, rfl, rfl, hbel1⟩
        case round =>
          obtain ⟨y', rfl, g1, g2, rfl, rfl, rfl, hbelr⟩ := hrel
          obtain ⟨r1, r2⟩ := edgesF_range (y := y') (h := H) hw.1 Hxw.out
          obtain ⟨r3, r4⟩ := edgesF_bd width y' H fs
          have hsm := hide (fun (q : (edgesF width y' H fs).2.2 = true) => edgesF_some q)
          generalize hE : edgesF width y' H fs = s at *
          obtain ⟨l, r, m⟩ := s
          have E := hide hE
          clear hE
          dsimp only at r1 r2 r3 r4
          have hfr := hide (hfd.out.below hbelr)
          by_cases hgo : m = true ∧ r - l < W
          · obtain ⟨rfl, hlt2⟩ := hgo
            obtain ⟨f, hf, hm⟩ := hsm.out rfl
            obtain ⟨m1, m2, m3⟩ := metF_true hm
            have m4 := (Hok.out f hf).2
            have n1 := nextF_gt y' fs
            have n2 := nextF_le h0 (fun q hq => (Hok.out q hq).2) (fun q hq => (Hne.out q hq).1) (show y' + 1 ≤ M by omega)
            clear hm hsm
            go_wp2_with fail
            refine (next_any b 0 y' width fs _ hfr.out hn2 (by omega) (by omega) Hne.out).mono ?_
            rintro e w2 ⟨rfl, hb2⟩
            have hbel2 := below_on hbelr hb2
            have hfr2 := hide (hfd.out.below hbel2)
            clear hb2 hbelr hfr
            generalize nextF y' fs = y2 at *
            go_wp2_with fail
            refine (edges_any b 0 y2 H width fs _ hfr2.out hn2 (by omega) (by omega) (by omega) HokB.out).mono ?_
            rintro e w3 ⟨rfl, hb3⟩
            have hbel3 := below_on hbel2 hb3
            go_wp2_with fail
            go_roundw
            case rel => exact ⟨y2, rfl, by omega, n2, rfl, rfl, rfl, hbel3⟩
            case measure => simp [intOf]; omega
          · have c1r : wr.cell? ⟨b, 1, none⟩ = some (.slice A fs.length c) := (hbelr.cell (p := ⟨b, 1, none⟩) hsz0).trans c1
            have hbr : Blk wr b 89 #[.int .i64 width, .slice A fs.length c] := hb.below hbelr hsz0
            have fzr : wr.frozen? ⟨b, 1, none⟩ = false := hbr.frozen 1
            have hownr := hide (own_keep Hown.out hbelr (own_lt Hown.out))
            have hszr := hbelr.size
            obtain ⟨i0, hi0, hz0, hz1, hz2⟩ := info_parts float_info
            cases m
            · clear hgo hsm
              go_wp2_with (at_builtin; refine wpList_append_any _ rfl (.tmp 93) (.tmp 101) _ rfl 0 153 i0 _ 5 40 Tryd.underlying87 hi0 hz0 hz1 hz2 rfl (by omega) _ fs.length _ rfl (hownr.out.alloc _) (wr.heap.size + 1) _ 1 1 _ rfl (Reads.lit wr _ _ 5 1 rfl) (by intro u hu; simp at hu; rcases hu with rfl | rfl | rfl | rfl | rfl <;> rfl) (by simp only [maxLen]; omega) (by omega) (Nat.zero_le _) ?_; intro v2 w2 hown2 hg2 hat2; obtain ⟨A2, cc2, hv2, _, _⟩ := own_reads hown2; have hb2 := (hbr.alloc _).grown hg2 (Ne.symm (own_blk_ne hownr.out hbr (by decide))); have c12 : w2.cell? ⟨b, 1, none⟩ = some (.slice A fs.length c) := hb2.cell 1; have fz2 : w2.frozen? ⟨b, 1, none⟩ = false := hb2.frozen 1; have hon2 : Only (fun k => k = b ∨ (Value.slice A fs.length c).ownBlock = some k) w w2 := (Only.of_below (hbelr.alloc hszr _)).trans (Only.of_grown hg2 (fun k e => .inr e)); have HO2 := hide hown2; have HV2 := hide hv2; have HAT2 := hide (show v2.ownBlock = (Value.slice A fs.length c).ownBlock ∨ v2.ownBlock = some (wr.alloc _).heap.size from hat2); have HON2 := hide hon2; clear hon2; rw [hv2]; clear hown2 hg2 hat2 hv2)
              go_ret3
              rw [HV2.out] at HO2 HAT2
              refine ⟨_, y', rfl, .slice A2 (fs.length + 1) cc2, ?_, ?_, ?_, fun k hk => ?_, ?_⟩
              · exact hb2.set_ 1 (.slice A2 (fs.length + 1) cc2)
              · rw [EW.out, EH.out, flCells_append]
                exact own_far HO2.out (own_blk_ne HO2.out hb2 (by decide)) _
              · exact HON2.out.trans (Only.setCell (p := ⟨b, 1, none⟩) (.inl rfl) _)
              · rcases HAT2.out with h9 | h9
                · exact .inl (by rw [← h9]; exact hk)
                · right
                  rw [h9] at hk
                  injection hk with hk
                  have h8 := hbelr.size
                  simp at hk
                  omega
              · rw [EW.out, EH.out, EY.out]
                refine ⟨fun f hf => Int.le_trans (T2.out f hf) g1, by omega, g2, by rw [E.out]; rfl, by rw [E.out]; exact .inl rfl⟩
            · have hge : ¬ r - l < W := fun q => hgo ⟨rfl, q⟩
              clear hgo hsm
              go_wp2_with (at_builtin; refine wpList_append_any _ rfl (.tmp 93) (.tmp 101) _ rfl 0 153 i0 _ 5 40 Tryd.underlying87 hi0 hz0 hz1 hz2 rfl (by omega) _ fs.length _ rfl (hownr.out.alloc _) (wr.heap.size + 1) _ 1 1 _ rfl (Reads.lit wr _ _ 5 1 rfl) (by intro u hu; simp at hu; rcases hu with rfl | rfl | rfl | rfl | rfl <;> rfl) (by simp only [maxLen]; omega) (by omega) (Nat.zero_le _) ?_; intro v2 w2 hown2 hg2 hat2; obtain ⟨A2, cc2, hv2, _, _⟩ := own_reads hown2; have hb2 := (hbr.alloc _).grown hg2 (Ne.symm (own_blk_ne hownr.out hbr (by decide))); have c12 : w2.cell? ⟨b, 1, none⟩ = some (.slice A fs.length c) := hb2.cell 1; have fz2 : w2.frozen? ⟨b, 1, none⟩ = false := hb2.frozen 1; have hon2 : Only (fun k => k = b ∨ (Value.slice A fs.length c).ownBlock = some k) w w2 := (Only.of_below (hbelr.alloc hszr _)).trans (Only.of_grown hg2 (fun k e => .inr e)); have HO2 := hide hown2; have HV2 := hide hv2; have HAT2 := hide (show v2.ownBlock = (Value.slice A fs.length c).ownBlock ∨ v2.ownBlock = some (wr.alloc _).heap.size from hat2); have HON2 := hide hon2; clear hon2; rw [hv2]; clear hown2 hg2 hat2 hv2)
              go_ret3
              rw [HV2.out] at HO2 HAT2
              refine ⟨_, y', rfl, .slice A2 (fs.length + 1) cc2, ?_, ?_, ?_, fun k hk => ?_, ?_⟩
              · exact hb2.set_ 1 (.slice A2 (fs.length + 1) cc2)
              · rw [EW.out, EH.out, flCells_append]
                exact own_far HO2.out (own_blk_ne HO2.out hb2 (by decide)) _
              · exact HON2.out.trans (Only.setCell (p := ⟨b, 1, none⟩) (.inl rfl) _)
              · rcases HAT2.out with h9 | h9
                · exact .inl (by rw [← h9]; exact hk)
                · right
                  rw [h9] at hk
                  injection hk with hk
                  have h8 := hbelr.size
                  simp at hk
                  omega
              · rw [EW.out, EH.out, EY.out]
                refine ⟨fun f hf => Int.le_trans (T2.out f hf) g1, by omega, g2, by rw [E.out]; rfl, by rw [E.out]; exact .inr (by show W ≤ r - l; omega)⟩

set_option maxRecDepth 100000 in
theorem PlaceE_any (b : Nat) (side y wd h width : Int) (fs : List Fl) (Fv : Value) (w : World) (hb : Blk w b 89 #[.int .i64 width, Fv]) (hown : w.ownsRow 0 153 5 Fv fs.length (flCells fs)) (hs : ¬ (side = 1 ∨ side = 2) ∨ fs.length = 200) :
    Calls Tryd.prog 63 #[.pointer (some ⟨b, 0, none⟩), .int .i64 side, .int .i64 y, .int .i64 wd, .int .i64 h] w fun e w' => ∃ r, e = .returned (.tuple #[.int .i64 0, .int .i64 0, .int .i64 r]) ∧ Below w.heap.size w w' := by
  obtain ⟨A, c, rfl, _, _⟩ := own_reads hown
  have c1 : w.cell? ⟨b, 1, none⟩ = some (.slice A fs.length c) := hb.cell 1
  clear hown hb
  by_cases h1 : side = 1
  · subst h1
    have hn1 : (200 : Int) ≤ (fs.length : Int) := by rcases hs with h9 | h9 <;> omega
    clear hs
    go_enter Tryd.func63, Tryd.ntmps63
    go_wp2_with fail
    go_ret3
    exact ⟨_, rfl, Below.refl _ _⟩
  · by_cases h2 : side = 2
    · subst h2
      have hn1 : (200 : Int) ≤ (fs.length : Int) := by rcases hs with h9 | h9 <;> omega
      clear hs
      go_enter Tryd.func63, Tryd.ntmps63
      go_wp2_with fail
      go_ret3
      exact ⟨_, rfl, Below.refl _ _⟩
    · have z1 : (side != 1) = true := bne_iff_ne.2 h1
      have z2 : (side != 2) = true := bne_iff_ne.2 h2
      clear hs
      go_enter Tryd.func63, Tryd.ntmps63
      go_wp2_with fail
      go_ret3
      exact ⟨_, rfl, Below.refl _ _⟩
end Go.Proofs.YtadlabndbomgmaaDoor
