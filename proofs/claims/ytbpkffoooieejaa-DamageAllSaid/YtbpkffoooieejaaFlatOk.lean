/- What raster.Flat yields is fit to be drawn: its clips lie within bounds, its texts are short, it is no longer than the commands. -/
import Derived.Test.YtbpkffoooieejaaFlatA
namespace Go.Proofs.Ytbpkffoooieejaa
open Go.RowKit
theorem flatS_fit : ∀ (l : List Cm) (ar : Lay) (out : List Dr), ar ≠ [] → (∀ a ∈ ar, a.1.clip) → (∀ d ∈ out, d.ok) → (∀ c ∈ l, c.t.size ≤ 400) →
    (∀ d ∈ (flatS ar out l).2.2, d.ok) ∧ (flatS ar out l).2.2.length ≤ out.length + l.length
  | [], ar, out, _, _, ho, _ => ⟨ho, by simp [flatS]⟩
  | c :: l, ar, out, hne, ha, ho, hl => by
    have hh : (ar.headD (rc0, 0)).1.clip := by
      cases ar with
      | nil => exact absurd rfl hne
      | cons a ar => exact ha a (by simp)
    have hl' : ∀ c ∈ l, c.t.size ≤ 400 := fun d hd => hl d (by simp [hd])
    have hc := hl c (by simp)
    simp only [flatS]
    split
    · have h := flatS_fit l ar (out ++ [⟨c, (ar.headD (rc0, 0)).1, (ar.headD (rc0, 0)).2⟩]) hne ha (fun d hd => by
        rcases List.mem_append.1 hd with hd | hd
        · exact ho d hd
        · rw [List.mem_singleton] at hd; subst hd; exact ⟨hh, hc⟩) hl'
      refine ⟨h.1, ?_⟩
      have h2 := h.2
      simp only [List.length_append, List.length_cons, List.length_nil] at h2 ⊢
      omega
    · split
      · have h := flatS_fit l ((meetR (ar.headD (rc0, 0)).1 (rectC c), (ar.headD (rc0, 0)).2) :: ar) out (by simp) (fun a h9 => by
          rcases List.mem_cons.1 h9 with rfl | h9
          · exact meet_clip hh (rectC_bd c)
          · exact ha a h9) ho hl'
        exact ⟨h.1, by have := h.2; simp only [List.length_cons]; omega⟩
      · split
        · have h := flatS_fit l (((ar.headD (rc0, 0)).1, (ar.headD (rc0, 0)).2 * partN c.n / 1000) :: ar) out (by simp) (fun a h9 => by
            rcases List.mem_cons.1 h9 with rfl | h9
            · exact hh
            · exact ha a h9) ho hl'
          exact ⟨h.1, by have := h.2; simp only [List.length_cons]; omega⟩
        · split
          · split
            · exact ⟨fun d hd => by simp at hd, by simp⟩
            · rename_i h1
              have h := flatS_fit l ar.tail out (by
                cases ar with
                | nil => exact absurd rfl hne
                | cons a ar =>
                  cases ar with
                  | nil => exact absurd rfl h1
                  | cons b ar => simp) (fun a h9 => ha a (List.mem_of_mem_tail h9)) ho hl'
              exact ⟨h.1, by have := h.2; simp only [List.length_cons]; omega⟩
          · exact ⟨fun d hd => by simp at hd, by simp⟩
theorem flatF_fit {l : List Cm} (hl : ∀ c ∈ l, c.t.size ≤ 400) : (∀ d ∈ (flatF l).2, d.ok) ∧ (flatF l).2.length ≤ l.length := by
  have h := flatS_fit l [(allR, 1000)] [] (by simp) (fun a ha => by simp at ha; subst ha; exact allR_clip) (fun d hd => by simp at hd) hl
  unfold flatF
  split
  · exact ⟨fun d hd => by simp at hd, by simp⟩
  · split
    · exact ⟨fun d hd => by simp at hd, by simp⟩
    · exact ⟨h.1, by have := h.2; simpa using this⟩
end Go.Proofs.Ytbpkffoooieejaa
