-- Turned from the words that print.sh lays for this seat: those that this claim uses.
import Derived.Test.YtkpcogaahgfmcaaWTabZ2
