/-
  The plain law of nearness. No program in sight.
-/
import Derived.Test.YtepfhifogkopcaaPlain
namespace Go.Proofs.PlGeom

def along (s : Sg) (p : Pt) : Int := (s.b.x - s.a.x) * (p.x - s.a.x) + (s.b.y - s.a.y) * (p.y - s.a.y)
def sqv (s : Sg) : Int := (s.b.x - s.a.x) * (s.b.x - s.a.x) + (s.b.y - s.a.y) * (s.b.y - s.a.y)
def crs (s : Sg) (p : Pt) : Int := (s.b.x - s.a.x) * (p.y - s.a.y) - (s.b.y - s.a.y) * (p.x - s.a.x)
def nearV (s : Sg) (p : Pt) : Int :=
  if nearL [s.a, s.b, p] then (if along s p ≤ 0 then dist s.a p else if sqv s ≤ along s p then dist s.b p else crs s p * crs s p / sqv s) else 0
end Go.Proofs.PlGeom
