/- What the walks by pieces share. -/
import Derived.Test.YtkgmmmhokgdcaaaGreatPa22

