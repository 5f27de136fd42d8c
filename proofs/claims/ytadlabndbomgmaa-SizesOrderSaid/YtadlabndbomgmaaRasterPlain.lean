/- Plain facts on pictures: commands, what is clipped, groups, colors one over the other. No program in sight. -/
import Derived.Test.YtadlabndbomgmaaPlain
namespace Go.Proofs.Ytadlabndbomgmaa
/-- A rectangle. -/
structure Rc where
  x : Int
  y : Int
  w : Int
  h : Int
def rc0 : Rc := ⟨0, 0, 0, 0⟩
def allR : Rc := ⟨-16777216, -16777216, 33554432, 33554432⟩
def meetR (a b : Rc) : Rc :=
  if min (a.x + a.w) (b.x + b.w) - max a.x b.x ≤ 0 ∨ min (a.y + a.h) (b.y + b.h) - max a.y b.y ≤ 0 then rc0
  else ⟨max a.x b.x, max a.y b.y, min (a.x + a.w) (b.x + b.w) - max a.x b.x, min (a.y + a.h) (b.y + b.h) - max a.y b.y⟩
def inR (r : Rc) (x y : Int) : Bool := ((decide (r.x ≤ x) && decide (x - r.x < r.w)) && decide (r.y ≤ y)) && decide (y - r.y < r.h)
theorem inR_iff (r : Rc) (x y : Int) : inR r x y = true ↔ (r.x ≤ x ∧ x - r.x < r.w) ∧ r.y ≤ y ∧ y - r.y < r.h := by
  simp [inR, and_assoc]
theorem in_meet (a b : Rc) (x y : Int) : inR (meetR a b) x y = (inR a x y && inR b x y) := by
  rw [Bool.eq_iff_iff, Bool.and_eq_true, inR_iff, inR_iff, inR_iff]
  unfold meetR
  split
  · simp only [rc0]; omega
  · simp only; omega
/-- Rectangles whose sums are tame. -/
def Rc.ok (r : Rc) : Prop := (-16777216 ≤ r.x ∧ r.x ≤ 16777216) ∧ (-16777216 ≤ r.y ∧ r.y ≤ 16777216) ∧ (-16777216 ≤ r.w ∧ r.w ≤ 50331648) ∧ (-16777216 ≤ r.h ∧ r.h ≤ 50331648)
/-- Clips: their ends are tame. -/
def Rc.clip (r : Rc) : Prop := (-16777216 ≤ r.x ∧ r.x ≤ 16777216) ∧ (-16777216 ≤ r.y ∧ r.y ≤ 16777216) ∧ (0 ≤ r.w ∧ r.x + r.w ≤ 33554432) ∧ (0 ≤ r.h ∧ r.y + r.h ≤ 33554432)
theorem allR_clip : allR.clip := by simp [Rc.clip, allR]
theorem meet_clip {a b : Rc} (ha : a.clip) (hb : (-16777216 ≤ b.x ∧ b.x ≤ 16777216) ∧ (-16777216 ≤ b.y ∧ b.y ≤ 16777216)) : (meetR a b).clip := by
  unfold Rc.clip at *
  unfold meetR
  split
  · simp [rc0]
  · simp only; omega
/-- A command. -/
structure Cm where
  do_ : Int
  node : Int
  x : Int
  y : Int
  w : Int
  h : Int
  c : Int
  n : Int
  t : ByteArray
def rectC (c : Cm) : Rc := ⟨cut c.x, cut c.y, cut c.w, cut c.h⟩
theorem rectC_bd (c : Cm) : (-16777216 ≤ (rectC c).x ∧ (rectC c).x ≤ 16777216) ∧ (-16777216 ≤ (rectC c).y ∧ (rectC c).y ≤ 16777216) := by
  have h1 := cut_lo c.x
  have h2 := cut_hi c.x
  have h3 := cut_lo c.y
  have h4 := cut_hi c.y
  simp only [rectC]; omega
def partN (n : Int) : Int := min (max n 0) 1000
theorem partN_0 : partN 0 = 0 := by decide
theorem partN_1 : partN 1000 = 1000 := by decide
structure Dr where
  c : Cm
  clip : Rc
  n : Int
abbrev Lay := List (Rc × Int)
/-- What a list of commands comes to: an error, the layers that are open, what is drawn. -/
def flatS : Lay → List Dr → List Cm → Int × Lay × List Dr
  | ar, out, [] => (0, ar, out)
  | ar, out, c :: l =>
    if c.do_ = 1 ∨ c.do_ = 2 then flatS ar (out ++ [⟨c, (ar.headD (rc0, 0)).1, (ar.headD (rc0, 0)).2⟩]) l
    else if c.do_ = 3 then flatS ((meetR (ar.headD (rc0, 0)).1 (rectC c), (ar.headD (rc0, 0)).2) :: ar) out l
    else if c.do_ = 4 then flatS (((ar.headD (rc0, 0)).1, (ar.headD (rc0, 0)).2 * partN c.n / 1000) :: ar) out l
    else if c.do_ = 5 then (if ar.length = 1 then (3, [], []) else flatS ar.tail out l)
    else (7, [], [])
def flatF (l : List Cm) : Int × List Dr :=
  if (flatS [(allR, 1000)] [] l).1 ≠ 0 then ((flatS [(allR, 1000)] [] l).1, [])
  else if 1 < (flatS [(allR, 1000)] [] l).2.1.length then (3, []) else (0, (flatS [(allR, 1000)] [] l).2.2)
theorem flatS_append : ∀ (l m : List Cm) (ar : Lay) (out : List Dr), flatS ar out (l ++ m) = if (flatS ar out l).1 = 0 then flatS (flatS ar out l).2.1 (flatS ar out l).2.2 m else flatS ar out l
  | [], m, ar, out => by simp [flatS]
  | c :: l, m, ar, out => by
    simp only [List.cons_append, flatS]
    split
    · exact flatS_append l m _ _
    · split
      · exact flatS_append l m _ _
      · split
        · exact flatS_append l m _ _
        · split
          · split
            · simp
            · exact flatS_append l m _ _
          · simp
/-- Two lists of layers, of what is drawn, alike but for clips and parts. -/
def lays (ρ : Rc × Int → Rc × Int → Prop) : Lay → Lay → Prop
  | [], [] => True
  | a :: l, b :: m => ρ a b ∧ lays ρ l m
  | _, _ => False
def draws (ρ : Rc × Int → Rc × Int → Prop) : List Dr → List Dr → Prop
  | [], [] => True
  | a :: l, b :: m => (a.c = b.c ∧ ρ (a.clip, a.n) (b.clip, b.n)) ∧ draws ρ l m
  | _, _ => False
theorem draws_snoc {ρ : Rc × Int → Rc × Int → Prop} {l m : List Dr} {a b : Dr} (h : draws ρ l m) (h1 : a.c = b.c) (h2 : ρ (a.clip, a.n) (b.clip, b.n)) : draws ρ (l ++ [a]) (m ++ [b]) := by
  induction l generalizing m with
  | nil =>
    cases m with
    | nil => exact ⟨⟨h1, h2⟩, trivial⟩
    | cons _ _ => exact h.elim
  | cons c l ih =>
    cases m with
    | nil => exact h.elim
    | cons d m => exact ⟨h.1, ih h.2⟩
theorem draws_len {ρ : Rc × Int → Rc × Int → Prop} {l m : List Dr} (h : draws ρ l m) : l.length = m.length := by
  induction l generalizing m with
  | nil =>
    cases m with
    | nil => rfl
    | cons _ _ => exact h.elim
  | cons c l ih =>
    cases m with
    | nil => exact h.elim
    | cons d m => simp [ih h.2]
theorem lays_len {ρ : Rc × Int → Rc × Int → Prop} {l m : Lay} (h : lays ρ l m) : l.length = m.length := by
  induction l generalizing m with
  | nil =>
    cases m with
    | nil => rfl
    | cons _ _ => exact h.elim
  | cons c l ih =>
    cases m with
    | nil => exact h.elim
    | cons d m => simp [ih h.2]
theorem flat_rel (ρ : Rc × Int → Rc × Int → Prop) (hclip : ∀ a n b m r, ρ (a, n) (b, m) → ρ (meetR a r, n) (meetR b r, m)) (hgroup : ∀ a n b m p, ρ (a, n) (b, m) → ρ (a, n * partN p / 1000) (b, m * partN p / 1000)) (base : Lay) :
    ∀ (l : List Cm) (ar ar' : Lay) (out out' : List Dr), ar ≠ [] → lays ρ ar ar' → draws ρ out out' → (flatS ar out l).1 = 0 →
      ∃ ar2 ar2' out2 out2', flatS ar out l = (0, ar2, out2) ∧ flatS (ar' ++ base) out' l = (0, ar2' ++ base, out2') ∧ ar2 ≠ [] ∧ lays ρ ar2 ar2' ∧ draws ρ out2 out2'
  | [], ar, ar', out, out', hne, hl, hd, _ => ⟨ar, ar', out, out', rfl, rfl, hne, hl, hd⟩
  | c :: l, ar, ar', out, out', hne, hl, hd, h0 => by
    cases ar with
    | nil => exact absurd rfl hne
    | cons a ar =>
      cases ar' with
      | nil => exact hl.elim
      | cons b ar' =>
        obtain ⟨ac, an⟩ := a
        obtain ⟨bc, bn⟩ := b
        simp only [flatS, List.headD_cons, List.cons_append, List.tail_cons] at h0 ⊢
        by_cases h1 : c.do_ = 1 ∨ c.do_ = 2
        · rw [if_pos h1] at h0 ⊢
          rw [if_pos h1]
          exact flat_rel ρ hclip hgroup base l ((ac, an) :: ar) ((bc, bn) :: ar') _ _ (by simp) hl (draws_snoc (a := ⟨c, ac, an⟩) (b := ⟨c, bc, bn⟩) hd rfl hl.1) h0
        · rw [if_neg h1] at h0 ⊢
          rw [if_neg h1]
          by_cases h2 : c.do_ = 3
          · rw [if_pos h2] at h0 ⊢
            rw [if_pos h2]
            exact flat_rel ρ hclip hgroup base l ((meetR ac (rectC c), an) :: (ac, an) :: ar) ((meetR bc (rectC c), bn) :: (bc, bn) :: ar') _ _ (by simp) ⟨hclip _ _ _ _ _ hl.1, hl⟩ hd h0
          · rw [if_neg h2] at h0 ⊢
            rw [if_neg h2]
            by_cases h3 : c.do_ = 4
            · rw [if_pos h3] at h0 ⊢
              rw [if_pos h3]
              exact flat_rel ρ hclip hgroup base l ((ac, an * partN c.n / 1000) :: (ac, an) :: ar) ((bc, bn * partN c.n / 1000) :: (bc, bn) :: ar') _ _ (by simp) ⟨hgroup _ _ _ _ _ hl.1, hl⟩ hd h0
            · rw [if_neg h3] at h0 ⊢
              rw [if_neg h3]
              by_cases h4 : c.do_ = 5
              · rw [if_pos h4] at h0 ⊢
                rw [if_pos h4]
                by_cases h5 : ((ac, an) :: ar).length = 1
                · rw [if_pos h5] at h0; simp at h0
                · rw [if_neg h5] at h0 ⊢
                  have hlen := lays_len hl
                  have h6 : ¬ ((bc, bn) :: (ar' ++ base)).length = 1 := by simp at h5 hlen ⊢; intro h; rw [h] at hlen; simp at hlen; exact absurd hlen h5
                  rw [if_neg h6]
                  exact flat_rel ρ hclip hgroup base l ar ar' _ _ (by intro h; rw [h] at h5; simp at h5) hl.2 hd h0
              · rw [if_neg h4] at h0; simp at h0
/-! Colors. -/
def chan (v : Int) (m : Int) : Int := v / m % 256
theorem chan_bd (v m : Int) : 0 ≤ chan v m ∧ chan v m ≤ 255 := by unfold chan; omega
def alphaF (top n : Int) : Int := top % 256 * partN n / 1000
theorem alphaF_bd (top n : Int) : 0 ≤ alphaF top n ∧ alphaF top n ≤ 255 := by
  have h1 : 0 ≤ partN n ∧ partN n ≤ 1000 := by unfold partN; omega
  have h2 : 0 ≤ top % 256 * partN n := Int.mul_nonneg (by omega) (by omega)
  have h3 : top % 256 * partN n ≤ 255 * 1000 := Int.mul_le_mul (by omega) (by omega) (by omega) (by omega)
  unfold alphaF; omega
def mixF (a b al : Int) : Int := (a * al + b * (255 - al) + 127) / 255
theorem mix_sum (a b al : Int) : a * al + b * (255 - al) = b * 255 + (a - b) * al := by
  rw [Int.mul_sub, Int.sub_mul]; omega
theorem mix_bd {a b al : Int} (ha : 0 ≤ al ∧ al ≤ 255) : min a b ≤ mixF a b al ∧ mixF a b al ≤ max a b := by
  unfold mixF
  rw [mix_sum]
  rcases Int.le_total b a with h | h
  · have h1 : 0 ≤ (a - b) * al := Int.mul_nonneg (by omega) (by omega)
    have h2 : (a - b) * al ≤ (a - b) * 255 := Int.mul_le_mul (Int.le_refl _) (by omega) (by omega) (by omega)
    omega
  · have h1 : 0 ≤ (b - a) * al := Int.mul_nonneg (by omega) (by omega)
    have h2 : (b - a) * al ≤ (b - a) * 255 := Int.mul_le_mul (Int.le_refl _) (by omega) (by omega) (by omega)
    have h3 : (a - b) * al = -((b - a) * al) := by rw [← Int.neg_mul]; congr 1; omega
    omega
theorem mix_chan (a b al m : Int) (ha : 0 ≤ al ∧ al ≤ 255) : 0 ≤ mixF (chan a m) (chan b m) al ∧ mixF (chan a m) (chan b m) al ≤ 255 := by
  have h1 := chan_bd a m
  have h2 := chan_bd b m
  have h3 := mix_bd (a := chan a m) (b := chan b m) ha
  omega
/-- A color over another one. -/
def overF (top under n : Int) : Int :=
  255 + mixF (chan top 256) (chan under 256) (alphaF top n) * 256 + mixF (chan top 65536) (chan under 65536) (alphaF top n) * 65536 + mixF (chan top 16777216) (chan under 16777216) (alphaF top n) * 16777216
theorem mix_0 (a b : Int) (h : 0 ≤ b ∧ b ≤ 255) : mixF a b 0 = b := by unfold mixF; omega
theorem mix_255 (a b : Int) (h : 0 ≤ a ∧ a ≤ 255) : mixF a b 255 = a := by unfold mixF; omega
theorem over_0 {top under n : Int} (h : alphaF top n = 0) : overF top under n = (under / 256 * 256 + 255) % 4294967296 := by
  unfold overF
  rw [h, mix_0 _ _ (chan_bd _ _), mix_0 _ _ (chan_bd _ _), mix_0 _ _ (chan_bd _ _)]
  unfold chan; omega
theorem over_255 {top under n : Int} (h : alphaF top n = 255) : overF top under n = (top / 256 * 256 + 255) % 4294967296 := by
  unfold overF
  rw [h, mix_255 _ _ (chan_bd _ _), mix_255 _ _ (chan_bd _ _), mix_255 _ _ (chan_bd _ _)]
  unfold chan; omega
theorem over_bd (top under n : Int) : 0 ≤ overF top under n ∧ overF top under n ≤ 4294967295 := by
  have h := alphaF_bd top n
  have h1 := mix_chan top under _ 256 h
  have h2 := mix_chan top under _ 65536 h
  have h3 := mix_chan top under _ 16777216 h
  unfold overF; omega
theorem over_chan (top under n : Int) : chan (overF top under n) 256 = mixF (chan top 256) (chan under 256) (alphaF top n) ∧ chan (overF top under n) 65536 = mixF (chan top 65536) (chan under 65536) (alphaF top n) ∧ chan (overF top under n) 16777216 = mixF (chan top 16777216) (chan under 16777216) (alphaF top n) := by
  have h := alphaF_bd top n
  have h1 := mix_chan top under _ 256 h
  have h2 := mix_chan top under _ 65536 h
  have h3 := mix_chan top under _ 16777216 h
  unfold overF
  generalize mixF (chan top 256) (chan under 256) (alphaF top n) = a at *
  generalize mixF (chan top 65536) (chan under 65536) (alphaF top n) = b at *
  generalize mixF (chan top 16777216) (chan under 16777216) (alphaF top n) = c at *
  unfold chan; omega
/-! Pixels. -/
section
variable (gl : Cm → Int → Int → Bool)
def coversF (d : Dr) (x y : Int) : Bool := if inR d.clip x y then (if d.c.do_ = 1 then inR (rectC d.c) x y else gl d.c x y) else false
def pixF : List Dr → Int → Int → Int → Int
  | [], _, _, color => color
  | d :: l, x, y, color => pixF l x y (if coversF gl d x y then overF d.c.c color d.n else color)
def white : Int := 4294967295
theorem pixF_append : ∀ (l m : List Dr) (x y color : Int), pixF gl (l ++ m) x y color = pixF gl m x y (pixF gl l x y color)
  | [], _, _, _, _ => rfl
  | d :: l, m, x, y, color => pixF_append l m x y _
theorem pix_bd : ∀ (l : List Dr) (x y color : Int), (0 ≤ color ∧ color ≤ 4294967295) → 0 ≤ pixF gl l x y color ∧ pixF gl l x y color ≤ 4294967295
  | [], _, _, _, h => h
  | d :: l, x, y, color, h => by
    refine pix_bd l x y _ ?_
    split
    · exact over_bd _ _ _
    · exact h
/-- What is covered alike has the same color. -/
theorem pix_rel (ρ : Rc × Int → Rc × Int → Prop) (x y : Int) (hρ : ∀ a n b m, ρ (a, n) (b, m) → inR a x y = inR b x y ∧ n = m) (l m : List Dr) (color : Int) (h : draws ρ l m) : pixF gl l x y color = pixF gl m x y color := by
  induction l generalizing m color with
  | nil =>
    cases m with
    | nil => rfl
    | cons _ _ => exact h.elim
  | cons a l ih =>
    cases m with
    | nil => exact h.elim
    | cons b m =>
      have h1 := hρ _ _ _ _ h.1.2
      have h2 : coversF gl a x y = coversF gl b x y := by unfold coversF; rw [h1.1, h.1.1]
      simp only [pixF]
      rw [h2, h.1.1, h1.2]
      exact ih m _ h.2
/-- Where nothing is covered all is as it was. -/
theorem pix_none (x y : Int) : ∀ (m : List Dr) (color : Int), (∀ b ∈ m, coversF gl b x y = false) → pixF gl m x y color = color
  | [], _, _ => rfl
  | b :: m, color, h => by
    simp only [pixF]
    rw [if_neg (by rw [h b (by simp)]; simp)]
    exact pix_none x y m color fun d hd => h d (by simp [hd])
theorem pix_clear (x y : Int) : ∀ (m : List Dr), (∀ b ∈ m, b.n = 0) → pixF gl m x y white = white
  | [], _ => rfl
  | b :: m, h => by
    simp only [pixF]
    have e : (if coversF gl b x y then overF b.c.c white b.n else white) = white := by
      split
      · rw [over_0 (by rw [h b (by simp)]; simp [alphaF, partN_0])]; decide
      · rfl
    rw [e]
    exact pix_clear x y m fun d hd => h d (by simp [hd])
/-- A picture. -/
def drawF (l : List Dr) (wd ht : Nat) : List Int := (List.range (wd * ht)).map fun (i : Nat) => pixF gl l ((i : Int) % wd * 64 + 32) ((i : Int) / wd * 64 + 32) white
end
/-! What is clipped; groups. -/
def clipRel (r : Rc) (a b : Rc × Int) : Prop := (∀ x y, inR b.1 x y = (inR a.1 x y && inR r x y)) ∧ a.2 = b.2
theorem draws_mem {ρ : Rc × Int → Rc × Int → Prop} {l m : List Dr} (h : draws ρ l m) (b : Dr) (hb : b ∈ m) : ∃ a, a ∈ l ∧ a.c = b.c ∧ ρ (a.clip, a.n) (b.clip, b.n) := by
  induction l generalizing m with
  | nil =>
    cases m with
    | nil => simp at hb
    | cons _ _ => exact h.elim
  | cons a l ih =>
    cases m with
    | nil => exact h.elim
    | cons c m =>
      rcases List.mem_cons.1 hb with rfl | hb
      · exact ⟨a, by simp, h.1⟩
      · obtain ⟨d, hd, h1⟩ := ih h.2 hb
        exact ⟨d, by simp [hd], h1⟩
theorem flatF_ok {l : List Cm} (h : (flatF l).1 = 0) : ∃ a, (flatS [(allR, 1000)] [] l).1 = 0 ∧ flatS [(allR, 1000)] [] l = (0, a, (flatF l).2) ∧ a.length ≤ 1 := by
  unfold flatF at h ⊢
  by_cases h1 : (flatS [(allR, 1000)] [] l).1 ≠ 0
  · rw [if_pos h1] at h; exact absurd h h1
  · rw [if_neg h1] at h ⊢
    by_cases h2 : 1 < (flatS [(allR, 1000)] [] l).2.1.length
    · rw [if_pos h2] at h; simp at h
    · rw [if_neg h2]
      have h3 : (flatS [(allR, 1000)] [] l).1 = 0 := by simpa using h1
      exact ⟨(flatS [(allR, 1000)] [] l).2.1, h3, by rw [← h3], by omega⟩
/-- A list, wrapped into a command that opens a layer, and one that ends it. -/
theorem wrapped {ρ : Rc × Int → Rc × Int → Prop} (hclip : ∀ a n b m r, ρ (a, n) (b, m) → ρ (meetR a r, n) (meetR b r, m)) (hgroup : ∀ a n b m p, ρ (a, n) (b, m) → ρ (a, n * partN p / 1000) (b, m * partN p / 1000))
    {l : List Cm} {c d : Cm} (top : Rc × Int) (hc : ∀ m, flatS [(allR, 1000)] [] (c :: m) = flatS [top, (allR, 1000)] [] m) (hd : d.do_ = 5) (hρ : ρ (allR, 1000) top) (h : (flatF l).1 = 0) :
    (flatF (c :: (l ++ [d]))).1 = 0 ∧ draws ρ (flatF l).2 (flatF (c :: (l ++ [d]))).2 := by
  obtain ⟨a, h1, h2, h3⟩ := flatF_ok h
  obtain ⟨ar2, ar2', out2, out2', e1, e2, hne, hl, hdr⟩ := flat_rel ρ hclip hgroup [(allR, 1000)] l [(allR, 1000)] [top] [] [] (by simp) ⟨hρ, trivial⟩ trivial h1
  rw [h2] at e1
  injection e1 with _ e1
  injection e1 with e3 e4
  subst e3 e4
  have hlen := lays_len hl
  have ha : a.length = 1 := by
    cases a with
    | nil => exact absurd rfl hne
    | cons _ _ => simp at h3 ⊢; exact h3
  obtain ⟨t, rfl⟩ : ∃ t, ar2' = [t] := by
    match ar2', hlen with
    | [], hl => simp [ha] at hl
    | [t], _ => exact ⟨t, rfl⟩
    | _ :: _ :: _, hl => simp [ha] at hl
  have h4 : flatS [(allR, 1000)] [] (c :: (l ++ [d])) = (0, [(allR, 1000)], out2') := by
    rw [hc, flatS_append]
    have e2' : flatS [top, (allR, 1000)] [] l = (0, [t, (allR, 1000)], out2') := e2
    rw [e2']
    simp [flatS, hd]
  have h5 : flatF (c :: (l ++ [d])) = (0, out2') := by unfold flatF; rw [h4]; simp
  rw [h5]
  exact ⟨rfl, hdr⟩
theorem clip_law {l : List Cm} {c d : Cm} (hc : c.do_ = 3) (hd : d.do_ = 5) (h : (flatF l).1 = 0) : (flatF (c :: (l ++ [d]))).1 = 0 ∧ draws (clipRel (rectC c)) (flatF l).2 (flatF (c :: (l ++ [d]))).2 :=
  wrapped (ρ := clipRel (rectC c)) (fun a n b m r hr => ⟨fun x y => by rw [in_meet, in_meet, hr.1]; cases inR a x y <;> cases inR r x y <;> cases inR (rectC c) x y <;> rfl, hr.2⟩)
    (fun a n b m p hr => ⟨hr.1, by rw [show n = m from hr.2]⟩) (meetR allR (rectC c), 1000) (fun m => by simp [flatS, hc]) hd ⟨fun x y => in_meet _ _ x y, rfl⟩ h
def groupRel (one : Bool) (a b : Rc × Int) : Prop := a.1 = b.1 ∧ if one then a.2 = b.2 else b.2 = 0
theorem group_law {l : List Cm} {c d : Cm} (one : Bool) (hc : c.do_ = 4) (hn : c.n = if one then 1000 else 0) (hd : d.do_ = 5) (h : (flatF l).1 = 0) : (flatF (c :: (l ++ [d]))).1 = 0 ∧ draws (groupRel one) (flatF l).2 (flatF (c :: (l ++ [d]))).2 :=
  wrapped (ρ := groupRel one) (fun a n b m r hr => ⟨by rw [show a = b from hr.1], hr.2⟩)
    (fun a n b m p hr => ⟨hr.1, by
      have h2 := hr.2
      cases one
      · have h3 : m = 0 := h2
        rw [h3]; simp
      · have h3 : n = m := h2
        rw [h3]; simp⟩) (allR, if one then 1000 else 0) (fun m => by cases one <;> simp [flatS, hc, hn, partN_0, partN_1]) hd ⟨rfl, by cases one <;> simp⟩ h
theorem draw_at (gl : Cm → Int → Int → Bool) (l : List Dr) (wd ht i : Nat) (h : i < wd * ht) : at0 (drawF gl l wd ht) i = pixF gl l ((i : Int) % wd * 64 + 32) ((i : Int) / wd * 64 + 32) white := by
  rw [at0_of _ i (by simpa [drawF] using h)]; simp [drawF]
theorem draw_len (gl : Cm → Int → Int → Bool) (l : List Dr) (wd ht : Nat) : (drawF gl l wd ht).length = wd * ht := by simp [drawF]
/-- Beyond a clip nothing is painted; within all is as it was. -/
theorem clip_pix (gl : Cm → Int → Int → Bool) {l : List Cm} {c d : Cm} (hc : c.do_ = 3) (hd : d.do_ = 5) (h : (flatF l).1 = 0) (x y : Int) :
    pixF gl (flatF (c :: (l ++ [d]))).2 x y white = if inR (rectC c) x y then pixF gl (flatF l).2 x y white else white := by
  have h1 := (clip_law hc hd h).2
  cases hi : inR (rectC c) x y
  · simp only [Bool.false_eq_true, if_false]
    refine pix_none gl x y _ _ fun b hb => ?_
    obtain ⟨a, _, _, h2, _⟩ := draws_mem h1 b hb
    have h3 : inR b.clip x y = (inR a.clip x y && inR (rectC c) x y) := h2 x y
    unfold coversF
    rw [h3, hi]; simp
  · simp only [if_true]
    exact (pix_rel gl (clipRel (rectC c)) x y (fun a n b m hr => ⟨by rw [hr.1, hi, Bool.and_true], hr.2⟩) _ _ _ h1).symm
theorem group_one (gl : Cm → Int → Int → Bool) {l : List Cm} {c d : Cm} (hc : c.do_ = 4) (hn : c.n = 1000) (hd : d.do_ = 5) (h : (flatF l).1 = 0) (x y : Int) : pixF gl (flatF (c :: (l ++ [d]))).2 x y white = pixF gl (flatF l).2 x y white :=
  (pix_rel gl (groupRel true) x y (fun a n b m hr => ⟨by rw [show a = b from hr.1], hr.2⟩) _ _ _ (group_law true hc hn hd h).2).symm
theorem group_none (gl : Cm → Int → Int → Bool) {l : List Cm} {c d : Cm} (hc : c.do_ = 4) (hn : c.n = 0) (hd : d.do_ = 5) (h : (flatF l).1 = 0) (x y : Int) : pixF gl (flatF (c :: (l ++ [d]))).2 x y white = white :=
  pix_clear gl x y _ fun b hb => by
    obtain ⟨a, _, _, _, h2⟩ := draws_mem (group_law false hc hn hd h).2 b hb
    exact h2
end Go.Proofs.Ytadlabndbomgmaa
