/- The example that each law of chapter 13 asks first comes true. -/
import Derived.Test.YtanepjclkciecaaQx8
import Derived.Test.YtanepjclkciecaaCinputEq
namespace Go.Proofs.Ytanepjclkciecaa.CinputEq
open Go.RowKit Go.Proofs.YtanepjclkciecaaW.PrintWords Go.Proofs.Ytanepjclkciecaa.Base Go.Proofs.Ytanepjclkciecaa.Utf Go.Proofs.Ytanepjclkciecaa.UtfEq Go.Proofs.Ytanepjclkciecaa.Cinput Go.Proofs.Ytanepjclkciecaa.TextEq Go.Proofs.Ytanepjclkciecaa.Q

theorem alive_ev : Evt (fun k => abridgerlaw13_alive.f k) true := by
  have hb1 : Bytes [97, 13, 10] := by intro x hx; simp at hx; omega
  have h1 := runes_ev [97, 13, 10] hb1 (by decide)
  have h2 := runes_ev [] Bytes.nil (by decide)
  have e1 : runes ([97, 13, 10] : List Int).length [97, 13, 10] 0 = [(97, 0), (10, 1)] := by decide
  rw [e1] at h1
  have h3 := ctext_ev [(97, 0), (10, 1)] (by decide)
  have e3 : Lib.bytesOf (puts (([(97, 0), (10, 1)] : List (Int × Int)).map Prod.fst)) = [97, 10] := by decide
  simp only [abridgerlaw13_alive.f]
  refine Evt.bind h1 (Evt.bind h2 (Evt.pos rfl (Evt.pos rfl (Evt.pos (by decide) (Evt.pos rfl (Evt.bind h3 ?_))))))
  rw [str_toList, e3]
  exact Evt.const _
end Go.Proofs.Ytanepjclkciecaa.CinputEq
