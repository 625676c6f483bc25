/- PLAIN LAW: what may be deeper and later may be higher and sooner. -/
import Derived.Test.YtooafilbmjnfmaaJ5
import Derived.Test.YtooafilbmjnfmaaHB
namespace Go.Proofs.Ytooafilbmjnfmaa
open Go.RowKit Go.TM
theorem foldE_mono {F G : Flt → Int → Int × Int} : ∀ (l : List Flt) (c c' : Int), (∀ k ∈ l, ∀ c c', c' ≤ c → (F k c).1 = 0 → G k c' = (0, (F k c).2 - c + c')) → c' ≤ c → (foldE F l c).1 = 0 → foldE G l c' = (0, (foldE F l c).2 - c + c')
  | [], c, c', _, _, _ => by simp [foldE]
  | k :: ks, c, c', h, hc, hb => by
    by_cases hk : (F k c).1 = 0
    · have hf : foldE F (k :: ks) c = foldE F ks (F k c).2 := foldE_yes (by rw [← hk])
      rw [hf] at hb ⊢
      have h1 := h k List.mem_cons_self c c' hc hk
      rw [foldE_yes h1, foldE_mono ks (F k c).2 _ (fun k' hk' => h k' (List.mem_cons_of_mem _ hk')) (by omega) hb]
      congr 1
      omega
    · rw [foldE_no hk] at hb
      exact absurd hb hk
theorem chk_mono : ∀ (n : Nat) (f : Flt) (d c d' c' : Int), d' ≤ d → c' ≤ c → (chk n f d c).1 = 0 → chk n f d' c' = (0, (chk n f d c).2 - c + c')
  | 0, _, _, _, _, _, _, _, _ => by simp [chk]
  | n + 1, f, d, c, d', c', hd, hc, h => by
    by_cases c1 : 6 < d ∨ 24 ≤ c
    · rw [chk_deep c1] at h
      cases h
    · cases c2 : mayF f with
      | false =>
        rw [chk_bad c1 c2] at h
        cases h
      | true =>
        rw [chk_go c1 c2] at h ⊢
        rw [chk_go (by omega) c2, foldE_mono (F := fun k c => chk n k (d + 1) c) (G := fun k c => chk n k (d' + 1) c) f.kids (c + 1) (c' + 1) (fun k _ c c' hc hb => chk_mono n k (d + 1) c (d' + 1) c' (by omega) hc hb) (by omega) h]
        congr 1
        omega
theorem kid_check {n : Nat} {f : Flt} (ho : okL (n + 1) f) (h : checkE (n + 1) f = 0) : ∀ k ∈ f.kids, checkE n k = 0 := by
  intro k hk
  obtain ⟨-, -, -, h4⟩ := chk_kids (by omega) (by omega) h ho
  obtain ⟨c', h0, h1, h2⟩ := h4 k hk
  unfold checkE
  rw [chk_mono n k (1 + 1) c' 1 0 (by omega) h0 h2]
end Go.Proofs.Ytooafilbmjnfmaa
