/- Rectangles in plain integers. -/
import Derived.Test.YtekcheccelllcaaBase
namespace Go.Proofs.Ytekcheccelllcaa

/-- the plane: -1048576 up to 1048576 -/
def rlo (x : Int) : Int := max x (-1048576)
def endF (x w : Int) : Int := if w ≤ 0 then -8388608 else if 0 < x ∧ 8388608 - min (max x 0) 8388608 < w then 8388608 else x + w
def rhi (x w : Int) : Int := min (endF x w) 1048576
def okB (x y w h : Int) : Bool := decide (rlo x < rhi x w) && decide (rlo y < rhi y h)
/-- the reference's ends -/
def sA (x w : Int) : Int := if w ≤ 0 ∨ 1048576 ≤ x then 0 else if x < -1048576 then -1048576 else x
def sB (x w : Int) : Int := if w ≤ 0 ∨ 1048576 ≤ x then 0 else if x < -1048576 then min (x + w) 1048576 else x + min w (1048576 - x)
def okR (x y w h : Int) : Bool := decide (sA x w < sB x w) && decide (sA y h < sB y h)

theorem side_lt (x w : Int) : (sA x w < sB x w) ↔ (rlo x < rhi x w) := by
  unfold sA sB rlo rhi endF; omega
theorem side_same (x w : Int) (h : rlo x < rhi x w) : sA x w = rlo x ∧ sB x w = rhi x w := by
  unfold rlo rhi endF at h; unfold sA sB rlo rhi endF; omega
theorem ok_same (x y w h : Int) : okR x y w h = okB x y w h := by
  unfold okR okB; simp only [side_lt]
theorem okB_spec {x y w h : Int} : okB x y w h = true ↔ (rlo x < rhi x w ∧ rlo y < rhi y h) := by
  unfold okB; simp
theorem okB_not {x y w h : Int} : okB x y w h = false ↔ ¬ (rlo x < rhi x w ∧ rlo y < rhi y h) := by
  rw [← okB_spec]; simp
theorem rlo_bd (x : Int) : -1048576 ≤ rlo x := by unfold rlo; omega
theorem rhi_bd (x w : Int) : rhi x w ≤ 1048576 := by unfold rhi; omega

/-- a rectangle in its four numbers -/
structure R4 where
  x : Int
  y : Int
  w : Int
  h : Int
def zR : R4 := ⟨0, 0, 0, 0⟩
/-- the rectangle of these ends, cut to the plane -/
def mkR (a b c d : Int) : R4 := if max a (-1048576) < min c 1048576 ∧ max b (-1048576) < min d 1048576 then ⟨max a (-1048576), max b (-1048576), min c 1048576 - max a (-1048576), min d 1048576 - max b (-1048576)⟩ else zR
def okR4 (r : R4) : Bool := okB r.x r.y r.w r.h
def meetR (r s : R4) : R4 := if okR4 r && okR4 s then mkR (max (rlo r.x) (rlo s.x)) (max (rlo r.y) (rlo s.y)) (min (rhi r.x r.w) (rhi s.x s.w)) (min (rhi r.y r.h) (rhi s.y s.h)) else zR
/-- is a number a whole int? is a rectangle of such? -/
def isI (x : Int) : Prop := -9223372036854775808 ≤ x ∧ x ≤ 9223372036854775807
structure isR (r : R4) : Prop where
  x : -9223372036854775808 ≤ r.x ∧ r.x ≤ 9223372036854775807
  y : -9223372036854775808 ≤ r.y ∧ r.y ≤ 9223372036854775807
  w : -9223372036854775808 ≤ r.w ∧ r.w ≤ 9223372036854775807
  h : -9223372036854775808 ≤ r.h ∧ r.h ≤ 9223372036854775807
theorem isR_mk (a b c d : Int) : isR (mkR a b c d) := by
  unfold mkR
  split
  · exact ⟨by simp only []; omega, by simp only []; omega, by simp only []; omega, by simp only []; omega⟩
  · exact ⟨by simp [zR], by simp [zR], by simp [zR], by simp [zR]⟩
theorem isR_zero : isR zR := ⟨by simp [zR], by simp [zR], by simp [zR], by simp [zR]⟩
theorem isR_meet (r s : R4) : isR (meetR r s) := by
  unfold meetR; split
  · exact isR_mk _ _ _ _
  · exact isR_zero
def hasR (r : R4) (x y : Int) : Bool := okR4 r && decide (rlo r.x ≤ x ∧ x < rhi r.x r.w ∧ rlo r.y ≤ y ∧ y < rhi r.y r.h)
end Go.Proofs.Ytekcheccelllcaa
