/- What the functions of the chapter on graphs compute: edges, checks, removals. Conditions: none. -/
import Derived.Test.YtiepojpebndgoaaGxList
namespace Go.GX
open Go.RowKit
set_option linter.unusedVariables false
set_option linter.unusedSectionVars false
set_option linter.unusedSimpArgs false
structure Ed where
  a : Int
  b : Int
  deriving DecidableEq
def edC (e : Ed) : List Value := [.int .i64 e.a, .int .i64 e.b]
theorem edC_len (e : Ed) : (edC e).length = 2 := rfl
theorem edC_one (e : Ed) : allOne (edC e) = true := rfl
namespace Tp
def okN (n : Int) : Bool := decide (n ≥ 0) && decide (n ≤ 250)
def okE (e : Ed) : Bool := okN e.a && okN e.b && (e.a != e.b)
def link (e : Ed) : Ed := ⟨if e.b < e.a then e.b else e.a, if e.b > e.a then e.b else e.a⟩
def same (a b : Ed) : Bool := (a.a == b.a && (a.b == b.b && true)) || (a.a == b.b && a.b == b.a)
theorem same_link (x y : Ed) : same x y = decide (link x = link y) := by
  obtain ⟨a, b⟩ := x
  obtain ⟨c, d⟩ := y
  simp only [same, link]
  rw [Bool.eq_iff_iff]
  simp only [Bool.or_eq_true, Bool.and_eq_true, beq_iff_eq, and_true, decide_eq_true_eq, Ed.mk.injEq]
  split <;> split <;> split <;> split <;> omega
def chk (pre : List Ed) : List Ed → Int
  | [] => 0
  | e :: r => if okE e = false then 2 else if link e ∈ pre.map link then 9 else chk (pre ++ [e]) r
def check (l : List Ed) : Int := if l.length > 256 then 3 else chk [] l
theorem chk_at {l : List Ed} {j : Nat} {e : Ed} (he : l[j]? = some e) (hok : okE e = true) (hn : link e ∉ (l.take j).map link) : chk (l.take j) (l.drop j) = chk (l.take (j + 1)) (l.drop (j + 1)) := by
  rw [drop_get he, chk, if_neg (by rw [hok]; decide), if_neg hn, take_succ_get he]
theorem chk_bad {l : List Ed} {j : Nat} {e : Ed} (he : l[j]? = some e) (hok : okE e = false) : chk (l.take j) (l.drop j) = 2 := by
  rw [drop_get he, chk, if_pos hok]
theorem chk_dup {l : List Ed} {j : Nat} {e : Ed} (he : l[j]? = some e) (hok : okE e = true) (hn : link e ∈ (l.take j).map link) : chk (l.take j) (l.drop j) = 9 := by
  rw [drop_get he, chk, if_neg (by rw [hok]; decide), if_pos hn]
def stays (off : List Int) (e : Ed) : Bool := okE e && !(decide (e.a ∈ off)) && !(decide (e.b ∈ off))
def without (l : List Ed) (off : List Int) : List Ed := l.filter (stays off)
theorem without_take {l : List Ed} {off : List Int} {j : Nat} {e : Ed} (he : l[j]? = some e) : without (l.take (j + 1)) off = without (l.take j) off ++ if stays off e then [e] else [] := by
  rw [take_succ_get he, without, List.filter_append]
  simp only [List.filter_cons, List.filter_nil]
  rfl
theorem without_len (l : List Ed) (off : List Int) : (without l off).length ≤ l.length := List.length_filter_le _ _
end Tp
end Go.GX
